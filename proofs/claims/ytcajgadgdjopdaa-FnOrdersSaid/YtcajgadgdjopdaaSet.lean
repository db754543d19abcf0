/- An element of a row of one's own is written anew: whole, or one field. -/
import Derived.Test.YtcajgadgdjopdaaTurn
import Derived.Test.YtcajgadgdjopdaaApp1
namespace Go.Proofs.Ytcajgadgdjopdaa
open Go.RowKit
/-- A goal at which the walk halts. -/
def Halt (p : Prop) : Prop := p
theorem halt {p : Prop} (h : Halt p) : p := h
section
variable {α : Type} {E : Enc α}
theorem flat_cons (x : α) (r : List α) : flat E (x :: r) = (E.f x).map (Value.int .i64) ++ flat E r := by simp [flat]
theorem map_len (x : α) : ((E.f x).map (Value.int .i64)).length = E.k := by rw [List.length_map, E.len]
theorem flat_set_get : ∀ (l : List α) (i : Nat) (y : α), i < l.length → ∀ j, (flat E (l.set i y))[j]? = if i * E.k ≤ j ∧ j < i * E.k + E.k then ((E.f y).map (Value.int .i64))[j - i * E.k]? else (flat E l)[j]?
  | [], i, y, h => by simp at h
  | x :: r, 0, y, h => by
    intro j
    rw [List.set_cons_zero, flat_cons, flat_cons]
    by_cases hj : j < E.k
    · rw [if_pos (by omega), List.getElem?_append_left (by rw [map_len]; exact hj)]
      simp
    · rw [if_neg (by omega), List.getElem?_append_right (by rw [map_len]; omega), List.getElem?_append_right (by rw [map_len]; omega), map_len, map_len]
  | x :: r, i + 1, y, h => by
    intro j
    rw [List.set_cons_succ, flat_cons, flat_cons]
    have e : (i + 1) * E.k = i * E.k + E.k := by rw [Nat.add_mul]; omega
    rw [e]
    by_cases hj : j < E.k
    · rw [if_neg (by omega), List.getElem?_append_left (by rw [map_len]; exact hj), List.getElem?_append_left (by rw [map_len]; exact hj)]
    · rw [List.getElem?_append_right (by rw [map_len]; omega), List.getElem?_append_right (by rw [map_len]; omega), map_len,
        flat_set_get r i y (by simpa using h) (j - E.k)]
      by_cases h2 : i * E.k ≤ j - E.k ∧ j - E.k < i * E.k + E.k
      · rw [if_pos h2, if_pos (by omega)]
        congr 1
        omega
      · rw [if_neg h2, if_neg (by omega)]
variable {w w' : World} {base n c g : Nat} {e : TypeId} {l : List α}
theorem Own.open2 (h : Own E w base e (.slice (some ⟨g, 0, none⟩) n c) l) : ∃ cs, base ≤ g ∧ Blk w g e cs ∧ cs.size = c * E.k ∧ l.length = n ∧ n ≤ c ∧ c ≤ maxLen ∧ ∀ j, j < n * E.k → cs[j]? = (flat E l)[j]? := by
  have hlen := h.len
  obtain ⟨hl, h⟩ := h
  rcases h with ⟨h, h2⟩ | ⟨g', cap, cur, hv, hg, hh, hc, hm, hs, ht⟩
  · cases h
  · injection hv with h1 h2 h3
    injection h1 with h1
    injection h1 with h1
    subst h1 h3
    refine ⟨cur, hg, hh, hs, hlen, by omega, hm, fun j hj => ?_⟩
    rw [← ht, List.getElem?_take, if_pos (by rw [hlen]; exact hj)]
    simp
theorem Own.setElem (h : Own E w base e (.slice (some ⟨g, 0, none⟩) n c) l) {i : Nat} (hi : i < n) (y : α) :
    Own E (putC w g (i * E.k) ((E.f y).map (Value.int .i64))) base e (.slice (some ⟨g, 0, none⟩) n c) (l.set i y) := by
  obtain ⟨cs, hg, hb, hs, hl, hn, hm, hcs⟩ := h.open2
  have hle : (i + 1) * E.k ≤ c * E.k := Nat.mul_le_mul_right _ (by omega)
  rw [Nat.add_mul, Nat.one_mul] at hle
  refine Own.of_marks hg (hb.put _ _) (by simpa using hl) hn (by rw [setAll_size]; exact hs) (fun j hj => ?_) hm
  rw [setAll_get _ _ _ _ (by rw [map_len, hs]; exact hle), map_len, flat_set_get l i y (by omega), hcs j hj]
theorem Own.setField (h : Own E w base e (.slice (some ⟨g, 0, none⟩) n c) l) {i j : Nat} (hi : i < n) {x y : α} {z : Int} (hx : l[i]? = some x) (hj : j < E.k) (hy : E.f y = (E.f x).set j z) {o : Nat} (ho : o = i * E.k + j) :
    Own E (w.setCell ⟨g, o, none⟩ (.int .i64 z)) base e (.slice (some ⟨g, 0, none⟩) n c) (l.set i y) := by
  subst ho
  obtain ⟨cs, hg, hb, hs, hl, hn, hm, hcs⟩ := h.open2
  have hle : (i + 1) * E.k ≤ c * E.k := Nat.mul_le_mul_right _ (by omega)
  rw [Nat.add_mul, Nat.one_mul] at hle
  refine Own.of_marks hg (hb.set_ _ _) (by simpa using hl) hn (by simpa using hs) (fun j' hj' => ?_) hm
  rw [flat_set_get l i y (by omega), Array.getElem?_setIfInBounds, ← hcs j' hj', hy, List.map_set]
  by_cases h1 : i * E.k + j = j'
  · subst h1
    rw [if_pos rfl, if_pos (by omega), if_pos (by omega)]
    rw [show i * E.k + j - i * E.k = j from by omega, List.getElem?_set_self (by rw [map_len]; exact hj)]
  · rw [if_neg h1]
    by_cases h2 : i * E.k ≤ j' ∧ j' < i * E.k + E.k
    · rw [if_pos h2, List.getElem?_set_ne (by omega), hcs j' hj']
      have hz : (j' - i * E.k) < (E.f x).length := by rw [E.len]; omega
      have := flat_get l i x hx (j' - i * E.k) _ (List.getElem?_eq_getElem hz)
      rw [show i * E.k + (j' - i * E.k) = j' from by omega] at this
      rw [this, List.getElem?_map, List.getElem?_eq_getElem hz]; rfl
    · rw [if_neg h2]
theorem Own.some_ {A : Option Addr} (h : Own E w base e (.slice A n c) l) (hn : 0 < n) : ∃ g, A = some ⟨g, 0, none⟩ := by
  rcases h.open_ with ⟨_, h0⟩ | ⟨g, _, h1, _⟩
  · omega
  · exact ⟨g, h1⟩
theorem Own.pastHi {B : Nat} {A : Option Addr} (h : Own E w base e (.slice A n c) l) (hb : Below B w w') (hA : Hi B A) : Own E w' base e (.slice A n c) l := by
  obtain ⟨hl, h⟩ := h
  refine ⟨hl, ?_⟩
  rcases h with h | ⟨g', cap, cur, hv, hg, hh, r⟩
  · exact .inl h
  · refine .inr ⟨g', cap, cur, hv, hg, ?_, r⟩
    injection hv with h1 h2 h3
    have := hA ⟨g', 0, none⟩ h1
    rw [hb.block g' this]; exact hh
theorem Own.hiTo {B : Nat} {A : Option Addr} (h : Hi B A) {B' : Nat} (hb : B ≤ B') : Hi B' A := h.mono hb
/-- The block of a row of one's own can be written. -/
theorem Own.thaw {g : Nat} (h : Own E w base e (.slice (some ⟨g, 0, none⟩) n c) l) (i : Nat) : w.frozen? ⟨g, i, none⟩ = false := by
  obtain ⟨cs, _, hb, _⟩ := h.open2
  exact hb.frozen i
end
theorem below_grownB {B : Nat} {w0 w w' : World} {row : Option Nat} (h : Below B w0 w) (hg : w.grownBy w' row) (hB : B ≤ w.heap.size) (hr : ∀ k, row = some k → B ≤ k) : Below B w0 w' := h.grown hg hB hr
section
variable {P : Program} {α : Type} {E : Enc α}
/-- append of one element that was built just before: what lies below is as it was. -/
theorem wpList_app2 {w3 : World} {ops : Array Oper} {rest : List Oper} {o : Oper} {a : Act} {Q : Exit → Act → World → Prop} (hgd : o.guard = none) (s x : Operand) (t : TypeId)
    (ho : o.op = .call { callee := .builtin .append, args := #[s, x], argTypes := #[t, t] })
    (base : Nat) (e : TypeId) (i : TypeInfo) (z : Value) (bytes : Nat) (ht : P.underlying t = some (.slice e)) (hi : P.info? e = some i) (hz : i.zero = some z)
    (hsize : i.size = E.k) (hby : i.bytes = bytes) (hzs : z.cells.size = E.k) (hsz : 0 < E.k) (v : Value) (l : List α) (hs : a.eval s = v) (hown : Own E w3 base e v l)
    (y : α) (cs : Array Value) (hcs : cs.toList = flat E [y]) (hx : a.eval x = .slice (some ⟨w3.heap.size, 0, none⟩) 1 1) (h63 : l.length + 1 ≤ maxLen) (hbytes : (l.length + 1) * bytes ≤ 140737488355328) (hbase : base ≤ w3.heap.size)
    (h : ∀ v' w', Own E w' base e v' (l ++ [y]) → (∀ B, B ≤ base → Below B w3 w') → wpList P ops Q rest (a.put o.dst v') w') : wpList P ops Q (o :: rest) a (w3.alloc (.cells cs e)) := by
  have hb : Own E (w3.alloc (.cells cs e)) w3.heap.size e (.slice (some ⟨w3.heap.size, 0, none⟩) 1 1) [y] := Own.build (n := 1) (Nat.le_refl _) (heap_alloc_new w3 _) hcs rfl (by decide)
  refine wpList_app (E := E) _ hgd s x t ho base e i z bytes ht hi hz hsize hby hzs hsz v l hs (hown.past (bl_alloc (Below.refl _ _) _) (Nat.le_refl _)) _ _ 1 1 [y] hx rfl (Own.sl hb).2 h63 hbytes (by simp; omega) ?_
  intro v' w' h1 h2 h3
  refine h v' w' h1 (fun B hB => ?_)
  refine below_grownB ((Below.refl B w3).alloc (by omega) _) h2 (by simp; omega) (fun k hk => ?_)
  have := hown.row k hk
  omega
theorem Own.blkLt {w : World} {base : Nat} {e : TypeId} {v : Value} {l : List α} (h : Own E w base e v l) {k : Nat} (hk : v.ownBlock = some k) : k < w.heap.size := by
  rcases h.2 with ⟨rfl, _⟩ | ⟨g, cap, cur, rfl, hg, hh, _⟩
  · simp [Value.ownBlock] at hk
  · simp [Value.ownBlock] at hk
    subst hk
    rcases Nat.lt_or_ge g w.heap.size with hlt | hge
    · exact hlt
    · rw [Array.getElem?_eq_none hge] at hh; cases hh
/-- append of one element that was built just before: another row of one's own stays, and stays apart. -/
theorem wpList_app3 {w3 : World} {ops : Array Oper} {rest : List Oper} {o : Oper} {a : Act} {Q : Exit → Act → World → Prop} (hgd : o.guard = none) (s x : Operand) (t : TypeId)
    (ho : o.op = .call { callee := .builtin .append, args := #[s, x], argTypes := #[t, t] })
    (base : Nat) (e : TypeId) (i : TypeInfo) (z : Value) (bytes : Nat) (ht : P.underlying t = some (.slice e)) (hi : P.info? e = some i) (hz : i.zero = some z)
    (hsize : i.size = E.k) (hby : i.bytes = bytes) (hzs : z.cells.size = E.k) (hsz : 0 < E.k) (v : Value) (l : List α) (hs : a.eval s = v) (hown : Own E w3 base e v l)
    (y : α) (cs : Array Value) (hcs : cs.toList = flat E [y]) (hx : a.eval x = .slice (some ⟨w3.heap.size, 0, none⟩) 1 1) (h63 : l.length + 1 ≤ maxLen) (hbytes : (l.length + 1) * bytes ≤ 140737488355328) (hbase : base ≤ w3.heap.size)
    (h : ∀ v' w', Own E w' base e v' (l ++ [y]) → (∀ B, B ≤ base → Below B w3 w') →
      (∀ {β : Type} {F : Enc β} {b2 : Nat} {e2 : TypeId} {v2 : Value} {l2 : List β}, Own F w3 b2 e2 v2 l2 → (∀ k, v2.ownBlock = some k → v.ownBlock ≠ some k) → Own F w' b2 e2 v2 l2 ∧ (∀ k, v2.ownBlock = some k → v'.ownBlock ≠ some k)) →
      wpList P ops Q rest (a.put o.dst v') w') : wpList P ops Q (o :: rest) a (w3.alloc (.cells cs e)) := by
  have hb : Own E (w3.alloc (.cells cs e)) w3.heap.size e (.slice (some ⟨w3.heap.size, 0, none⟩) 1 1) [y] := Own.build (n := 1) (Nat.le_refl _) (heap_alloc_new w3 _) hcs rfl (by decide)
  refine wpList_app (E := E) _ hgd s x t ho base e i z bytes ht hi hz hsize hby hzs hsz v l hs (hown.past (bl_alloc (Below.refl _ _) _) (Nat.le_refl _)) _ _ 1 1 [y] hx rfl (Own.sl hb).2 h63 hbytes (by simp; omega) ?_
  intro v' w' h1 h2 h3
  refine h v' w' h1 (fun B hB => ?_) (fun {β} {F} {b2} {e2} {v2} {l2} ho2 hne => ?_)
  · refine below_grownB ((Below.refl B w3).alloc (by omega) _) h2 (by simp; omega) (fun k hk => ?_)
    have := hown.row k hk
    omega
  · refine ⟨(ho2.past (bl_alloc (Below.refl _ _) _) (Nat.le_refl _)).grown h2 hne, fun k hk => ?_⟩
    rcases h3 with h3 | h3
    · rw [h3]; exact hne k hk
    · rw [h3]
      have := ho2.blkLt hk
      intro e
      injection e with e
      simp at e
      omega
/-- append onto a row of one's own, as one operation, wherever it stands. -/
theorem wp_app {w : World} {o : Oper} {a : Act} {K : Act → World → Prop} {Q : Exit → Act → World → Prop} (s x : Operand) (t : TypeId)
    (ho : o.op = .call { callee := .builtin .append, args := #[s, x], argTypes := #[t, t] })
    (base : Nat) (e : TypeId) (i : TypeInfo) (z : Value) (bytes : Nat) (ht : P.underlying t = some (.slice e)) (hi : P.info? e = some i) (hz : i.zero = some z)
    (hsize : i.size = E.k) (hby : i.bytes = bytes) (hzs : z.cells.size = E.k) (hsz : 0 < E.k) (v : Value) (l : List α) (hs : a.eval s = v) (hown : Own E w base e v l)
    (B : Nat) (A : Option Addr) (m c : Nat) (r : List α) (hx : a.eval x = .slice A m c) (hm : r.length = m) (hr : Sl E w B A r) (h63 : l.length + m ≤ maxLen) (hbytes : (l.length + m) * bytes ≤ 140737488355328) (hbase : base ≤ w.heap.size)
    (h : ∀ v' w', Own E w' base e v' (l ++ r) → w.grownBy w' v.ownBlock → (v'.ownBlock = v.ownBlock ∨ v'.ownBlock = some w.heap.size) → K (a.put o.dst v') w') : o.wp P a w K Q := by
  obtain ⟨v', w', hrun, h2, h3, h4⟩ := run_app (P := P) w base t o.type e i z bytes ht hi hz hsize hby hzs hsz v l hown B A m c r hm hr h63 hbytes hbase
  unfold Oper.wp execOp
  simp only [ho, resolve, invoke, builtin, Sem.run_bind, Sem.run_pure, Result.andThen_ok, List.map_toArray, List.map_cons, List.map_nil, hs, hx, hrun]
  exact h v' w' h2 h3 h4
theorem step_app {w : World} {ops : Array Oper} {o : Oper} {a : Act} {K : Act → World → Prop} {Q : Exit → Act → World → Prop} {F : Prop} (hgd : o.guard = none) (s x : Operand) (t : TypeId)
    (ho : o.op = .call { callee := .builtin .append, args := #[s, x], argTypes := #[t, t] })
    (base : Nat) (e : TypeId) (i : TypeInfo) (z : Value) (bytes : Nat) (ht : P.underlying t = some (.slice e)) (hi : P.info? e = some i) (hz : i.zero = some z)
    (hsize : i.size = E.k) (hby : i.bytes = bytes) (hzs : z.cells.size = E.k) (hsz : 0 < E.k) (v : Value) (l : List α) (hs : a.eval s = v) (hown : Own E w base e v l)
    (B : Nat) (A : Option Addr) (m c : Nat) (r : List α) (hx : a.eval x = .slice A m c) (hm : r.length = m) (hr : Sl E w B A r) (h63 : l.length + m ≤ maxLen) (hbytes : (l.length + m) * bytes ≤ 140737488355328) (hbase : base ≤ w.heap.size)
    (h : ∀ v' w', Own E w' base e v' (l ++ r) → w.grownBy w' v.ownBlock → (v'.ownBlock = v.ownBlock ∨ v'.ownBlock = some w.heap.size) → K (a.put o.dst v') w') :
    if Region.wanted o (yielded ops a.tmps) = true then Oper.wp P o a w K Q else F := by
  have hw : Region.wanted o (yielded ops a.tmps) = true := by simp [Region.wanted, hgd]
  rw [if_pos hw]
  exact wp_app s x t ho base e i z bytes ht hi hz hsize hby hzs hsz v l hs hown B A m c r hx hm hr h63 hbytes hbase h
theorem Sl.drop_ {w : World} {B b off : Nat} {l : List α} (h : Sl E w B (some ⟨b, off, none⟩) l) (p : Nat) : Sl E w B (some ⟨b, off + p * E.k, none⟩) (l.drop p) := fun hn => by
  rw [List.length_drop] at hn
  obtain ⟨b', off', e, hb, hc⟩ := h (by omega)
  injection e with e
  injection e with e1 e2
  subst e1 e2
  refine ⟨b, off + p * E.k, rfl, hb, fun i x hx j z hz => ?_⟩
  rw [List.getElem?_drop] at hx
  have := hc (p + i) x hx j z hz
  rwa [Nat.add_mul, ← Nat.add_assoc] at this
theorem Sl.nil_' {w : World} {B : Nat} {A : Option Addr} {l : List α} (h : l = []) : Sl E w B A l := fun hn => by subst h; simp at hn
end
end Go.Proofs.Ytcajgadgdjopdaa
