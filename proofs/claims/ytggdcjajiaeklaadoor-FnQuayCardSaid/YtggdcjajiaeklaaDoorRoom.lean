/- append onto a row of one's own where there is room; what lies behind a row. -/
import Derived.Test.YtggdcjajiaeklaaDoorSet
import Derived.Maps.AppendAt
import Derived.Deep.RegionLaw
namespace Go.Proofs.YtggdcjajiaeklaaDoor
open Go.RowKit
section
variable {P : Program} {α : Type} {E : Enc α}
theorem Sl.cellsOf {w : World} {B : Nat} {ad : Addr} {r : List α} (hr : Sl E w B (some ad) r) (hsz : 0 < E.k) : ∀ j u, (flat E r)[j]? = some u → w.cell? (ad.add j) = some u := by
  intro j u hu
  rcases Nat.eq_zero_or_pos r.length with h0 | h0
  · have hn : r = [] := List.eq_nil_of_length_eq_zero h0
    subst hn
    simp [flat] at hu
  · obtain ⟨b, off, h, _, hc⟩ := hr h0
    injection h with h
    subst h
    have hj : j < r.length * E.k := by
      have := (List.getElem?_eq_some_iff.1 hu).1
      rwa [flat_length] at this
    have hd : j / E.k < r.length := Nat.div_lt_of_lt_mul (by rwa [Nat.mul_comm] at hj)
    have hx : r[j / E.k]? = some r[j / E.k] := List.getElem?_eq_getElem hd
    have hjm : j % E.k < (E.f r[j / E.k]).length := by rw [E.len]; exact Nat.mod_lt _ hsz
    have hz' := List.getElem?_eq_getElem hjm
    have hf := flat_get r (j / E.k) _ hx (j % E.k) _ hz'
    have hjj : j / E.k * E.k + j % E.k = j := by rw [Nat.mul_comm]; exact Nat.div_add_mod j E.k
    rw [hjj] at hf
    rw [hf] at hu
    injection hu with hu
    rw [← hu, ← hc _ _ hx _ _ hz', Nat.add_assoc, hjj]
    congr 1
    unfold Addr.add
    split
    · subst_vars; rfl
    · rfl
theorem run_app_room {w : World} (base : Nat) (t ty e : TypeId) (i : TypeInfo) (ht : P.underlying t = some (.slice e)) (hi : P.info? e = some i)
    (hsize : i.size = E.k) (hsz : 0 < E.k) (g n c : Nat) (l : List α) (hown : Own E w base e (.slice (some ⟨g, 0, none⟩) n c) l)
    (B : Nat) (ad : Addr) (m c' : Nat) (r : List α) (hm : r.length = m) (hr : Sl E w B (some ad) r) (hroom : n + m ≤ c) :
    ∃ w', (Builtin.append_ #[t, t] ty #[.slice (some ⟨g, 0, none⟩) n c, .slice (some ad) m c']).run P w = .ok (.slice (some ⟨g, 0, none⟩) (n + m) c) w' ∧
      Own E w' base e (.slice (some ⟨g, 0, none⟩) (n + m) c) (l ++ r) ∧ w.grownBy w' (some g) := by
  subst hm
  obtain ⟨cur, hg, hb, hs, hl, hn, hmx, hcs⟩ := hown.open2
  have hfl : (flat E r).length = r.length * i.size := by rw [hsize]; exact flat_length r
  have hfit : n * i.size + (flat E r).length ≤ cur.size := by
    rw [hfl, hsize, hs, ← Nat.add_mul]; exact Nat.mul_le_mul_right _ hroom
  have hrun := run_append_room (P := P) w t ty e i ht hi g n c cur hb ad r.length c' (flat E r) hfl (hr.cellsOf hsz) (flat_oneCell r) hroom hfit
  have htake : cur.toList.take (n * i.size) = flat E l := by
    apply List.ext_getElem?
    intro j
    rw [List.getElem?_take]
    split
    · rename_i hj
      rw [hsize] at hj
      rw [← hcs j hj]; simp
    · rename_i hj
      rw [List.getElem?_eq_none (by rw [flat_length, hl]; rw [hsize] at hj; omega)]
  refine ⟨_, hrun, ?_, ⟨rfl, rfl, rfl, by simp, fun k _ hk => setRow_other w g k _ (fun e => hk (by rw [e]))⟩⟩
  have hlen : (flat E (l ++ r)).length = (n + r.length) * E.k := by rw [flat_length, List.length_append, hl]
  refine ⟨flat_length _, .inr ⟨g, c, _, by rw [List.length_append, hl], hg, setRow_heap w g cur _ e _ hb, by rw [List.length_append, hl]; exact hroom, hmx, ?_, ?_⟩⟩
  · simp only [List.size_toArray, List.length_append, List.length_drop, Array.length_toList]
    rw [htake, flat_length, flat_length, hl, ← hs, hsize]
    rw [hfl, hsize] at hfit
    omega
  · rw [htake]
    have e2 : (l ++ r).length * E.k = (flat E l ++ flat E r).length := by rw [List.length_append, List.length_append, flat_length, flat_length, Nat.add_mul]
    rw [e2, flat_append]
    exact List.take_left
theorem step_app_room {w : World} {ops : Array Oper} {o : Oper} {a : Act} {K : Act → World → Prop} {Q : Exit → Act → World → Prop} {F : Prop} (hgd : o.guard = none) (s x : Operand) (t : TypeId)
    (ho : o.op = .call { callee := .builtin .append, args := #[s, x], argTypes := #[t, t] })
    (base : Nat) (e : TypeId) (i : TypeInfo) (ht : P.underlying t = some (.slice e)) (hi : P.info? e = some i)
    (hsize : i.size = E.k) (hsz : 0 < E.k) (g n c : Nat) (l : List α) (hs : a.eval s = .slice (some ⟨g, 0, none⟩) n c) (hown : Own E w base e (.slice (some ⟨g, 0, none⟩) n c) l)
    (B : Nat) (ad : Addr) (m c' : Nat) (r : List α) (hx : a.eval x = .slice (some ad) m c') (hm : r.length = m) (hr : Sl E w B (some ad) r) (hroom : n + m ≤ c)
    (h : ∀ w', Own E w' base e (.slice (some ⟨g, 0, none⟩) (n + m) c) (l ++ r) → w.grownBy w' (some g) → K (a.put o.dst (.slice (some ⟨g, 0, none⟩) (n + m) c)) w') :
    if Region.wanted o (yielded ops a.tmps) = true then Oper.wp P o a w K Q else F := by
  have hw : Region.wanted o (yielded ops a.tmps) = true := by simp [Region.wanted, hgd]
  rw [if_pos hw]
  obtain ⟨w', hrun, h2, h3⟩ := run_app_room (P := P) base t o.type e i ht hi hsize hsz g n c l hown B ad m c' r hm hr hroom
  unfold Oper.wp execOp
  simp only [ho, resolve, invoke, builtin, Sem.run_bind, Sem.run_pure, Result.andThen_ok, List.map_toArray, List.map_cons, List.map_nil, hs, hx, hrun]
  exact h w' h2 h3
theorem Own.prefix_ {w : World} {base n c g : Nat} {e : TypeId} {l : List α} (h : Own E w base e (.slice (some ⟨g, 0, none⟩) n c) l) {p : Nat} (hp : p ≤ n) : Own E w base e (.slice (some ⟨g, 0, none⟩) p c) (l.take p) := by
  obtain ⟨cur, hg, hb, hs, hl, hn, hmx, hcs⟩ := h.open2
  refine Own.of_marks hg hb (by rw [List.length_take]; omega) (by omega) hs (fun j hj => ?_) hmx
  have hle : p * E.k ≤ n * E.k := Nat.mul_le_mul_right _ hp
  rw [hcs j (by omega)]
  have e1 : flat E l = flat E (l.take p) ++ flat E (l.drop p) := by rw [← flat_append, List.take_append_drop]
  rw [e1, List.getElem?_append_left (by rw [flat_length, List.length_take, Nat.min_eq_left (by omega)]; exact hj)]
/-- What lies behind a row may be written. -/
theorem Own.beyond {w : World} {base n c g i : Nat} {e : TypeId} {l : List α} (h : Own E w base e (.slice (some ⟨g, 0, none⟩) n c) l) (hi : n * E.k ≤ i) (u : Value) : Own E (w.setCell ⟨g, i, none⟩ u) base e (.slice (some ⟨g, 0, none⟩) n c) l := by
  obtain ⟨cur, hg, hb, hs, hl, hn, hmx, hcs⟩ := h.open2
  refine Own.of_marks hg (hb.set_ i u) hl hn (by simpa using hs) (fun j hj => ?_) hmx
  rw [Array.getElem?_setIfInBounds, if_neg (by omega)]
  exact hcs j hj
end
end Go.Proofs.YtggdcjajiaeklaaDoor
