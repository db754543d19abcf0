/- Rows of rows of ints: a row of one's own whose cells are slices, each of which reads as a row. -/
import Derived.Test.YtbedepmcecdhfaaKeyOf
namespace Go.Proofs.Ytbedepmcecdhfaa
open Go.RowKit
theorem info_IntS : (Try.prog.info? 26).map (fun i => (i.zero, i.size, i.bytes)) = some (some (.slice none 0 0), 1, 24) := by kernel_rfl
/-- A row that is written is none of ints. -/
def NoInts (w : World) (base : Nat) (row : Option Nat) : Prop := ∀ k, row = some k → base ≤ k ∧ ∃ o, w.heap[k]? = some o ∧ ∀ cs fr, o ≠ .cells cs 3 fr
/-- A way to read the inner rows that stands while others are written. -/
structure RowK (base : Nat) (G : World → Value → List Int → Prop) : Prop where
  past : ∀ {w w' : World} {B : Nat} {u : Value} {l : List Int}, base ≤ w.heap.size → G w u l → Below B w w' → w.heap.size ≤ B → G w' u l
  kept : ∀ {w w' : World} {row : Option Nat} {u : Value} {l : List Int}, base ≤ w.heap.size → G w u l → w.grownBy w' row → NoInts w base row → G w' u l
  val : ∀ {w : World} {u : Value} {l : List Int}, base ≤ w.heap.size → G w u l → ∃ A c, u = .slice A l.length c ∧ l.length ≤ c ∧ Sl encInt w w.heap.size A l
def OwnG (base : Nat) (w : World) (u : Value) (l : List Int) : Prop := Own encInt w base 3 u l
theorem own_noInts {w w' : World} {base : Nat} {row : Option Nat} {u : Value} {l : List Int} (h : Own encInt w base 3 u l) (hg : w.grownBy w' row) (hn : NoInts w base row) : Own encInt w' base 3 u l := by
  refine h.grown hg fun k hk e => ?_
  obtain ⟨_, o, ho, hne⟩ := hn k e
  rcases h.2 with ⟨rfl, _⟩ | ⟨g, cap, cur, rfl, _, hh, _⟩
  · simp [Value.ownBlock] at hk
  · simp [Value.ownBlock] at hk
    subst hk
    rw [hh] at ho
    injection ho with ho
    exact hne _ _ ho.symm
theorem ownG (base : Nat) : RowK base (OwnG base) where
  past _ h hb hB := Own.past h hb hB
  kept _ h hg hn := own_noInts h hg hn
  val _ h := by
    obtain ⟨A, c, h1, h2, _, h4⟩ := Own.slice h
    exact ⟨A, c, h1, h2, h4⟩
/-- Read as it came in, or a row of one's own apart from vf. -/
def FromG (base : Nat) (vf : Value) (w : World) (u : Value) (l : List Int) : Prop :=
  (∃ A c, u = .slice A l.length c ∧ l.length ≤ c ∧ Sl encInt w base A l) ∨ (Own encInt w base 3 u l ∧ ∀ k, u.ownBlock = some k → vf.ownBlock ≠ some k)
theorem sl_grown {w w' : World} {base : Nat} {row : Option Nat} {A : Option Addr} {l : List Int} (h : Sl encInt w base A l) (hb : base ≤ w.heap.size) (hg : w.grownBy w' row) (hr : ∀ k, row = some k → base ≤ k) : Sl encInt w' base A l :=
  h.keep fun p hp => World.cell?_of_block (hg.block p.block (by omega) (fun e => by have := hr p.block e.symm; omega))
theorem fromG (base : Nat) (vf : Value) : RowK base (FromG base vf) where
  past hb h hbl hB := by
    rcases h with ⟨A, c, h1, h2, h3⟩ | ⟨h1, h2⟩
    · exact .inl ⟨A, c, h1, h2, h3.below (hbl.mono (by omega))⟩
    · exact .inr ⟨h1.past hbl hB, h2⟩
  kept hb h hg hn := by
    rcases h with ⟨A, c, h1, h2, h3⟩ | ⟨h1, h2⟩
    · exact .inl ⟨A, c, h1, h2, sl_grown h3 hb hg fun k hk => (hn k hk).1⟩
    · exact .inr ⟨own_noInts h1 hg hn, h2⟩
  val hb h := by
    rcases h with ⟨A, c, h1, h2, h3⟩ | ⟨h1, h2⟩
    · exact ⟨A, c, h1, h2, h3.more hb⟩
    · obtain ⟨A, c, h1, h2, _, h4⟩ := Own.slice h1
      exact ⟨A, c, h1, h2, h4⟩
def RowG (G : World → Value → List Int → Prop) (w : World) (base : Nat) (v : Value) (ls : List (List Int)) : Prop :=
  ∃ vs : List Value, w.ownsRow base 26 1 v ls.length vs ∧ ∀ (i : Nat) (l : List Int), ls[i]? = some l → ∃ u, vs[i]? = some u ∧ G w u l
theorem ownsRow_lt {w : World} {base k n : Nat} {e : TypeId} {g c m : Nat} {xs : List Value} (h : w.ownsRow base e k (.slice (some ⟨g, 0, none⟩) m c) n xs) : g < w.heap.size := by
  rcases h.2 with ⟨h, _⟩ | ⟨g', cap, cur, h, _, hh, _⟩
  · cases h
  · injection h with h
    injection h with h
    injection h with h
    subst h
    exact (Array.getElem?_eq_some_iff.1 hh).1
theorem ownsRow_past {w w' : World} {base k n B : Nat} {e : TypeId} {v : Value} {xs : List Value} (h : w.ownsRow base e k v n xs) (hb : Below B w w') (hB : w.heap.size ≤ B) : w'.ownsRow base e k v n xs := by
  obtain ⟨hl, h⟩ := h
  refine ⟨hl, ?_⟩
  rcases h with h | ⟨g, cap, cur, rfl, hg, hh, r⟩
  · exact .inl h
  · have hlt := (Array.getElem?_eq_some_iff.1 hh).1
    exact .inr ⟨g, cap, cur, rfl, hg, by rw [hb.block g (by omega)]; exact hh, r⟩
theorem ownsRow_grown {w w' : World} {base k n : Nat} {e : TypeId} {v : Value} {xs : List Value} {row : Option Nat} (h : w.ownsRow base e k v n xs) (hg : w.grownBy w' row) (hne : ∀ k, v.ownBlock = some k → row ≠ some k) : w'.ownsRow base e k v n xs := by
  obtain ⟨hl, h⟩ := h
  refine ⟨hl, ?_⟩
  rcases h with h | ⟨g, cap, cur, rfl, hb, hh, r⟩
  · exact .inl h
  · have hlt := (Array.getElem?_eq_some_iff.1 hh).1
    exact .inr ⟨g, cap, cur, rfl, hb, by rw [hg.block g hlt (fun e => hne g rfl e.symm)]; exact hh, r⟩
section
variable {G : World → Value → List Int → Prop} {w w' : World} {base : Nat} {v : Value} {ls : List (List Int)}
theorem RowG.past (K : RowK base G) {B : Nat} (h : RowG G w base v ls) (hbase : base ≤ w.heap.size) (hb : Below B w w') (hB : w.heap.size ≤ B) : RowG G w' base v ls := by
  obtain ⟨vs, h1, h2⟩ := h
  refine ⟨vs, ownsRow_past h1 hb hB, fun i l hl => ?_⟩
  obtain ⟨u, hu, hg⟩ := h2 i l hl
  exact ⟨u, hu, K.past hbase hg hb hB⟩
theorem RowG.slice (h : RowG G w base v ls) : ∃ A c, v = .slice A ls.length c ∧ ls.length ≤ c ∧ (0 < ls.length → ∃ g, A = some ⟨g, 0, none⟩ ∧ g < w.heap.size) := by
  obtain ⟨vs, h1, h2⟩ := h
  rcases h1.2 with ⟨h, h0⟩ | ⟨g, cap, cur, h, _, hh, hc, _⟩
  · exact ⟨none, 0, by rw [h, h0], by omega, fun h => by omega⟩
  · exact ⟨some ⟨g, 0, none⟩, cap, h, hc, fun _ => ⟨g, rfl, (Array.getElem?_eq_some_iff.1 hh).1⟩⟩
theorem ownsRow_cell {n g c m : Nat} {e : TypeId} {xs : List Value} (h : w.ownsRow base e 1 (.slice (some ⟨g, 0, none⟩) m c) n xs) {i : Nat} {u : Value} (hi : xs[i]? = some u) : w.cell? ⟨g, i, none⟩ = some u := by
  obtain ⟨hl, h⟩ := h
  rcases h with ⟨h, _⟩ | ⟨g', cap, cur, h, hg, hh, hc, hm, hs, ht⟩
  · cases h
  · injection h with h
    injection h with h
    injection h with h
    subst h
    have hlt := (List.getElem?_eq_some_iff.1 hi).1
    rw [← ht, List.getElem?_take] at hi
    split at hi
    · simpa [World.cell?, hh] using hi
    · cases hi
theorem RowG.cell (K : RowK base G) (hbase : base ≤ w.heap.size) {g c m : Nat} (h : RowG G w base (.slice (some ⟨g, 0, none⟩) m c) ls) {i : Nat} {l : List Int} (hi : ls[i]? = some l) :
    ∃ A ci, w.cell? ⟨g, i, none⟩ = some (.slice A l.length ci) ∧ l.length ≤ ci ∧ Sl encInt w w.heap.size A l ∧ G w (.slice A l.length ci) l := by
  obtain ⟨vs, h1, h2⟩ := h
  obtain ⟨u, hu, hg⟩ := h2 i l hi
  obtain ⟨A, ci, rfl, h3, h4⟩ := K.val hbase hg
  exact ⟨A, ci, ownsRow_cell h1 hu, h3, h4, hg⟩
theorem RowG.noInts (h : RowG G w base v ls) : NoInts w base v.ownBlock := fun k hk => by
  obtain ⟨vs, h1, _⟩ := h
  rcases h1.2 with ⟨rfl, _⟩ | ⟨g, cap, cur, rfl, hb, hh, _⟩
  · simp [Value.ownBlock] at hk
  · simp [Value.ownBlock] at hk
    subst hk
    refine ⟨hb, _, hh, fun cs fr e => ?_⟩
    injection e with _ e
    revert e
    decide
theorem RowG.apart {bm c : Nat} {L : List (List Int × Nat)} (h : RowG G w base v ls) (hf : IsFar w bm c L) : some bm ≠ v.ownBlock := fun e => by
  obtain ⟨vs, h1, _⟩ := h
  obtain ⟨es, ck, hm⟩ := hf.isMap
  rcases h1.2 with ⟨rfl, _⟩ | ⟨g, cap, cur, rfl, hb, hh, _⟩
  · simp [Value.ownBlock] at e
  · simp [Value.ownBlock] at e
    subst e
    rw [hh] at hm
    cases hm
theorem far_noInts {bm c : Nat} {L : List (List Int × Nat)} (hf : IsFar w bm c L) (hb : base ≤ bm) : NoInts w base (some bm) := fun k hk => by
  injection hk with hk
  subst hk
  obtain ⟨es, ck, hm⟩ := hf.isMap
  exact ⟨hb, _, hm, fun cs fr e => by cases e⟩
/-- Behind a write to the map of distances. -/
theorem RowG.farWritten (K : RowK base G) (hbase : base ≤ w.heap.size) {bm c : Nat} {L : List (List Int × Nat)} (h : RowG G w base v ls) (hf : IsFar w bm c L) (hb : base ≤ bm) (hg : w.grownBy w' (some bm)) : RowG G w' base v ls := by
  have hap := h.apart hf
  obtain ⟨vs, h1, h2⟩ := h
  refine ⟨vs, ownsRow_grown h1 hg (fun k hk e => hap (by rw [hk, e])), fun i l hl => ?_⟩
  obtain ⟨u, hu, hgu⟩ := h2 i l hl
  exact ⟨u, hu, K.kept hbase hgu hg (far_noInts hf hb)⟩
/-- One row, built as a row of slices. -/
theorem RowG.one (K : RowK base G) (hbase : base ≤ w.heap.size) {u : Value} {l : List Int} (hu : G w u l) :
    RowG G (w.alloc (.cells #[u] 26)) base (.slice (some ⟨w.heap.size, 0, none⟩) 1 1) [l] := by
  refine ⟨[u], ⟨rfl, .inr ⟨w.heap.size, 1, #[u], rfl, hbase, heap_alloc_new w _, Nat.le_refl _, by decide, rfl, rfl⟩⟩, fun i l' hl => ?_⟩
  match i, hl with
  | 0, hl =>
    simp at hl; subst hl
    exact ⟨u, rfl, K.past hbase hu (bl_alloc (Below.refl w.heap.size w) _) (Nat.le_refl _)⟩
theorem wpList_appR (K : RowK base G) {ops : Array Oper} {rest : List Oper} {o : Oper} {a : Act} {Q : Exit → Act → World → Prop} (hgd : o.guard = none) (s x : Operand)
    (ho : o.op = .call { callee := .builtin .append, args := #[s, x], argTypes := #[77, 77] }) (hbase : base ≤ w.heap.size)
    (hs : a.eval s = v) (hR : RowG G w base v ls) (u : Value) (l : List Int) (hx : a.eval x = .slice (some ⟨w.heap.size, 0, none⟩) 1 1) (hu : G w u l) (hlen : ls.length ≤ 1000000)
    (h : ∀ v' w', RowG G w' base v' (ls ++ [l]) → (∀ B, B ≤ base → Below B w w') → (∀ bm c L, IsFar w bm c L → IsFar w' bm c L) → (∀ u2 l2, Own encInt w base 3 u2 l2 → Own encInt w' base 3 u2 l2) → wpList Try.prog ops Q rest (a.put o.dst v') w') :
    wpList Try.prog ops Q (o :: rest) a (w.alloc (.cells #[u] 26)) := by
  obtain ⟨i0, hi, hz0, hz1, hz2⟩ := info_parts info_IntS
  have hR' := hR.past K hbase (bl_alloc (Below.refl w.heap.size w) (.cells #[u] 26)) (Nat.le_refl _)
  have hni := hR'.noInts
  have hoc : u.oneCell' = true := by
    obtain ⟨A, c, e, _⟩ := K.val hbase hu
    rw [e]; rfl
  have hba : base ≤ (w.alloc (.cells #[u] 26)).heap.size := by simp; omega
  obtain ⟨vs, h1, h2⟩ := hR'
  refine wpList_append_own_at _ hgd s x 77 ho base 26 i0 (.slice none 0 0) 1 24 Try.underlying77 hi hz0 hz1 hz2 rfl (by decide) v ls.length vs hs h1 ⟨w.heap.size, 0, none⟩ 1 1 [u] hx rfl
    (fun j z hj => by
      match j, hj with
      | 0, hj => simp at hj; subst hj; exact (Blk.new w 26 #[u]).cell 0) (fun z hz => by simp at hz; subst hz; exact hoc) (by unfold maxLen; omega) (by omega) hba ?_
  intro v' w' ho' hg _ hat
  refine h v' w' ⟨vs ++ [u], by simpa using ho', fun i l' hl => ?_⟩ (fun B hB => ?_) (fun bm c L hf => ?_) (fun u2 l2 h2 => own_noInts (h2.past (bl_alloc (Below.refl w.heap.size w) _) (Nat.le_refl _)) hg hni)
  · rcases Nat.lt_or_ge i ls.length with hi' | hi'
    · rw [List.getElem?_append_left hi'] at hl
      obtain ⟨u', hu', hg'⟩ := h2 i l' hl
      have hlt := (List.getElem?_eq_some_iff.1 hu').1
      exact ⟨u', by rw [List.getElem?_append_left hlt]; exact hu', K.kept hba hg' hg hni⟩
    · have hvl : vs.length = ls.length := by have := h1.1; omega
      have hi2 : i = ls.length := by
        have := (List.getElem?_eq_some_iff.1 hl).1
        simp at this; omega
      subst hi2
      rw [List.getElem?_append_right (Nat.le_refl _), Nat.sub_self] at hl
      simp at hl; subst hl
      exact ⟨u, by rw [← hvl, List.getElem?_append_right (Nat.le_refl _), Nat.sub_self]; rfl, K.kept hba (K.past hbase hu (bl_alloc (Below.refl w.heap.size w) _) (Nat.le_refl _)) hg hni⟩
  · refine ((Below.refl B w).alloc (by omega) _).grown hg (by simp; omega) fun k hk => ?_
    have := (hni k hk).1
    omega
  · have hf' := hf.past (bl_alloc (Below.refl w.heap.size w) (.cells #[u] 26)) (Nat.le_refl _)
    exact hf'.kept hg ((hR.past K hbase (bl_alloc (Below.refl w.heap.size w) (.cells #[u] 26)) (Nat.le_refl _)).apart hf')
/-- Behind a write to the list of distances. -/
theorem RowG.setFar {gf i P cf : Nat} {z : Value} {lf : List Int} (h : RowG (FromG base (.slice (some ⟨gf, 0, none⟩) P cf)) w base v ls) (hbase : base ≤ w.heap.size) (hf : Own encInt w base 3 (.slice (some ⟨gf, 0, none⟩) P cf) lf) :
    RowG (FromG base (.slice (some ⟨gf, 0, none⟩) P cf)) (w.setCell ⟨gf, i, none⟩ z) base v ls := by
  have hg : w.grownBy (w.setCell ⟨gf, i, none⟩ z) (some gf) := ⟨rfl, rfl, rfl, by simp [World.setCell], fun k _ hk => Below.heap_setCell w ⟨gf, i, none⟩ z k (fun e => hk (by simp at e; rw [e]))⟩
  have hni := h.noInts
  have hlo : base ≤ gf := hf.lo ⟨gf, 0, none⟩ rfl
  obtain ⟨vs, h1, h2⟩ := h
  refine ⟨vs, ownsRow_grown h1 hg (fun k hk e => ?_), fun j l hl => ?_⟩
  · injection e with e
    subst e
    obtain ⟨_, o, ho, hne⟩ := hni _ hk
    rcases hf.2 with ⟨h, _⟩ | ⟨g, cap, cur, h, _, hh, _⟩
    · cases h
    · injection h with h
      injection h with h
      injection h with h
      subst h
      rw [hh] at ho
      injection ho with ho
      exact hne _ _ ho.symm
  · obtain ⟨u, hu, hgu⟩ := h2 j l hl
    refine ⟨u, hu, ?_⟩
    rcases hgu with ⟨A, c, e1, e2, e3⟩ | ⟨e1, e2⟩
    · exact .inl ⟨A, c, e1, e2, sl_grown e3 hbase hg fun k hk => by injection hk with hk; omega⟩
    · exact .inr ⟨e1.grown hg fun k hk => e2 k hk, e2⟩
end
end Go.Proofs.Ytbedepmcecdhfaa
