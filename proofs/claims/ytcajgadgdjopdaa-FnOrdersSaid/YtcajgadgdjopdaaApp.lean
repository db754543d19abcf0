/- append onto a row of the call's own, the source a slice that reads as a list (nil too). -/
import Derived.Test.YtcajgadgdjopdaaBase
import Derived.Maps.AppendAt
import Derived.OwnWalk
namespace Go.Proofs.Ytcajgadgdjopdaa
open Go.RowKit
section
variable {P : Program} (w : World) {α : Type} {E : Enc α}
theorem run_app_nil (base : Nat) (t ty e : TypeId) (i : TypeInfo) (size : Nat) (ht : P.underlying t = some (.slice e)) (hi : P.info? e = some i)
    (v : Value) (n : Nat) (xs : List Value) (hown : w.ownsRow base e size v n xs) (c : Nat) : (Builtin.append_ #[t, t] ty #[v, .slice none 0 c]).run P w = .ok v w := by
  rcases hown.2 with ⟨rfl, rfl⟩ | ⟨g, cap, cur, rfl, _, _, hnc, _⟩
  · simp [Builtin.append_, run_underlying ht, sizeOf, typeInfo, hi, Builtin.lenOf, Builtin.firstCells]
  · simp [Builtin.append_, run_underlying ht, sizeOf, typeInfo, hi, Builtin.lenOf, Builtin.firstCells, hnc, storeCells]
theorem run_app (base : Nat) (t ty e : TypeId) (i : TypeInfo) (z : Value) (bytes : Nat) (ht : P.underlying t = some (.slice e)) (hi : P.info? e = some i) (hz : i.zero = some z)
    (hsize : i.size = E.k) (hby : i.bytes = bytes) (hzs : z.cells.size = E.k) (hsz : 0 < E.k) (v : Value) (l : List α) (hown : Own E w base e v l)
    (B : Nat) (A : Option Addr) (m c : Nat) (r : List α) (hm : r.length = m) (hr : Sl E w B A r) (h63 : l.length + m ≤ maxLen) (hbytes : (l.length + m) * bytes ≤ 140737488355328) (hbase : base ≤ w.heap.size) :
    ∃ v' w', (Builtin.append_ #[t, t] ty #[v, .slice A m c]).run P w = .ok v' w' ∧ Own E w' base e v' (l ++ r) ∧ w.grownBy w' v.ownBlock ∧ (v'.ownBlock = v.ownBlock ∨ v'.ownBlock = some w.heap.size) := by
  subst hm
  rcases A with _ | ad
  · have hm : r = [] := by
      rcases r with _ | ⟨x, r⟩
      · rfl
      · obtain ⟨_, _, h, _⟩ := hr (by simp)
        cases h
    subst hm
    exact ⟨v, w, run_app_nil w base t ty e i E.k ht hi v l.length (flat E l) hown c, by simpa using hown, World.grownBy.refl w _, .inl rfl⟩
  · have hcells : ∀ j u, (flat E r)[j]? = some u → w.cell? (ad.add j) = some u := by
      intro j u hu
      rcases Nat.eq_zero_or_pos r.length with h0 | h0
      · have hn : r = [] := List.eq_nil_of_length_eq_zero h0
        subst hn
        simp [flat] at hu
      · obtain ⟨b, off, h, _, hc⟩ := hr h0
        injection h with h
        subst h
        have hj : j < r.length * E.k := by
          have := (List.getElem?_eq_some_iff.1 hu).1
          rwa [flat_length] at this
        have hd : j / E.k < r.length := Nat.div_lt_of_lt_mul (by rwa [Nat.mul_comm] at hj)
        have hx : r[j / E.k]? = some r[j / E.k] := List.getElem?_eq_getElem hd
        have hjm : j % E.k < (E.f r[j / E.k]).length := by rw [E.len]; exact Nat.mod_lt _ hsz
        have hz' := List.getElem?_eq_getElem hjm
        have hf := flat_get r (j / E.k) _ hx (j % E.k) _ hz'
        have hjj : j / E.k * E.k + j % E.k = j := by rw [Nat.mul_comm]; exact Nat.div_add_mod j E.k
        rw [hjj] at hf
        rw [hf] at hu
        injection hu with hu
        rw [← hu, ← hc _ _ hx _ _ hz', Nat.add_assoc, hjj]
        congr 1
        unfold Addr.add
        split
        · subst_vars; rfl
        · rfl
    obtain ⟨v', w', hrun, h2, h3, _, h5⟩ := run_append_own_at (P := P) w base t ty e i z E.k bytes ht hi hz hsize hby hzs hsz v l.length (flat E l) hown ad r.length c (flat E r) (flat_length r) hcells (flat_oneCell r) h63 hbytes hbase
    refine ⟨v', w', hrun, ?_, h3, h5⟩
    unfold Own
    rw [flat_append, List.length_append]
    exact h2
theorem wpList_app {ops : Array Oper} {rest : List Oper} {o : Oper} {a : Act} {Q : Exit → Act → World → Prop} (hgd : o.guard = none) (s x : Operand) (t : TypeId)
    (ho : o.op = .call { callee := .builtin .append, args := #[s, x], argTypes := #[t, t] })
    (base : Nat) (e : TypeId) (i : TypeInfo) (z : Value) (bytes : Nat) (ht : P.underlying t = some (.slice e)) (hi : P.info? e = some i) (hz : i.zero = some z)
    (hsize : i.size = E.k) (hby : i.bytes = bytes) (hzs : z.cells.size = E.k) (hsz : 0 < E.k) (v : Value) (l : List α) (hs : a.eval s = v) (hown : Own E w base e v l)
    (B : Nat) (A : Option Addr) (m c : Nat) (r : List α) (hx : a.eval x = .slice A m c) (hm : r.length = m) (hr : Sl E w B A r) (h63 : l.length + m ≤ maxLen) (hbytes : (l.length + m) * bytes ≤ 140737488355328) (hbase : base ≤ w.heap.size)
    (h : ∀ v' w', Own E w' base e v' (l ++ r) → w.grownBy w' v.ownBlock → (v'.ownBlock = v.ownBlock ∨ v'.ownBlock = some w.heap.size) → wpList P ops Q rest (a.put o.dst v') w') : wpList P ops Q (o :: rest) a w := by
  refine wpList_plain hgd fun K hK => ?_
  obtain ⟨v', w', hrun, h2, h3, h4⟩ := run_app (P := P) w base t o.type e i z bytes ht hi hz hsize hby hzs hsz v l hown B A m c r hm hr h63 hbytes hbase
  unfold Oper.wp execOp
  simp only [ho, resolve, invoke, builtin, Sem.run_bind, Sem.run_pure, Result.andThen_ok, List.map_toArray, List.map_cons, List.map_nil, hs, hx, hrun]
  exact hK _ _ (h v' w' h2 h3 h4)
end
/-- A new block that holds just the elements l is an owned row (nothing to spare). -/
theorem Own.build {α : Type} {E : Enc α} {w : World} {base : Nat} {e : TypeId} {l : List α} {g n : Nat} {cs : Array Value} (hb : base ≤ g) (hk : Blk w g e cs) (hc : cs.toList = flat E l) (hn : l.length = n) (hm : n ≤ maxLen) :
    Own E w base e (.slice (some ⟨g, 0, none⟩) n n) l := by
  subst hn
  have hs : cs.size = l.length * E.k := by rw [← flat_length l, ← hc]; simp
  refine ⟨flat_length l, .inr ⟨g, _, cs, rfl, hb, hk, Nat.le_refl _, hm, hs, ?_⟩⟩
  rw [hc, List.take_of_length_le (by rw [flat_length]; exact Nat.le_refl _)]
theorem Own.sl {α : Type} {E : Enc α} {w : World} {base n c : Nat} {e : TypeId} {A : Option Addr} {l : List α} (h : Own E w base e (.slice A n c) l) : l.length = n ∧ Sl E w w.heap.size A l := by
  obtain ⟨A', c', h1, _, _, h4⟩ := h.slice
  injection h1 with h1 h2 h3
  subst h1
  exact ⟨h2.symm, h4⟩
theorem Own.slice_at {α : Type} {E : Enc α} {w : World} {base n : Nat} {e : TypeId} {v : Value} {l : List α} (h : Own E w base e v l) (hn : l.length = n) : ∃ A c, v = .slice A n c ∧ Sl E w w.heap.size A l := by
  obtain ⟨A', c', h1, _, _, h4⟩ := h.slice
  exact ⟨A', c', by rw [h1, hn], h4⟩
theorem below_grown {w0 w w' : World} {row : Option Nat} (h : Below w0.heap.size w0 w) (hg : w.grownBy w' row) (hr : ∀ k, row = some k → w0.heap.size ≤ k) : Below w0.heap.size w0 w' := h.grown hg h.size hr
theorem Own.row {α : Type} {E : Enc α} {w : World} {base : Nat} {e : TypeId} {v : Value} {l : List α} (h : Own E w base e v l) : ∀ k, v.ownBlock = some k → base ≤ k := by
  intro k hk
  rcases h.2 with ⟨rfl, _⟩ | ⟨g, cap, cur, rfl, hg, _⟩
  · simp [Value.ownBlock] at hk
  · simp [Value.ownBlock] at hk; omega
/-- What is owned stays so where another row is written. -/
theorem Own.grown {α : Type} {E : Enc α} {w w' : World} {base : Nat} {e : TypeId} {v : Value} {l : List α} {row : Option Nat} (h : Own E w base e v l) (hg : w.grownBy w' row) (hne : ∀ k, v.ownBlock = some k → row ≠ some k) : Own E w' base e v l := by
  obtain ⟨hl, h⟩ := h
  refine ⟨hl, ?_⟩
  rcases h with h | ⟨g, cap, cur, rfl, hb, hh, r⟩
  · exact .inl h
  · refine .inr ⟨g, cap, cur, rfl, hb, ?_, r⟩
    have hlt : g < w.heap.size := by
      rcases Nat.lt_or_ge g w.heap.size with hlt | hge
      · exact hlt
      · rw [Array.getElem?_eq_none hge] at hh; cases hh
    rw [hg.block g hlt (fun e => hne g rfl e.symm)]; exact hh
end Go.Proofs.Ytcajgadgdjopdaa
