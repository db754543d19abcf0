/- Search by distance, in plain Lean: the list of what is met, with distances; no program in sight. -/
namespace Go.Proofs.Ytbedepmcecdhfaa
section
variable {α : Type} [DecidableEq α]
/-- The distance at which y is met. -/
def dOf (L : List (α × Nat)) (y : α) : Option Nat := (L.find? fun p => decide (p.1 = y)).map (·.2)
/-- One neighbour is looked at. -/
def look1 (L : List (α × Nat)) (d : Nat) (o : Option α) : List (α × Nat) :=
  match o with
  | none => L
  | some y => match dOf L y with
    | some _ => L
    | none => L ++ [(y, d + 1)]
/-- The first k neighbours of x. -/
def lookTo (nb : Nat → α → Option α) (x : α) (d : Nat) (L : List (α × Nat)) : Nat → List (α × Nat)
  | 0 => L
  | k + 1 => look1 (lookTo nb x d L k) d (nb k x)
/-- The list behind a rounds. -/
def runTo (nb : Nat → α → Option α) (m : Nat) (s : α) : Nat → List (α × Nat)
  | 0 => [(s, 0)]
  | a + 1 => match (runTo nb m s a)[a]? with
    | none => runTo nb m s a
    | some p => lookTo nb p.1 p.2 (runTo nb m s a) m
/-- Ways of some length. -/
inductive Way (nb : Nat → α → Option α) (m : Nat) : α → α → Nat → Prop
  | refl (x : α) : Way nb m x x 0
  | step {x y z : α} {n k : Nat} : Way nb m x y n → k < m → nb k y = some z → Way nb m x z (n + 1)

def KN (L : List (α × Nat)) : Prop := L.Pairwise fun p q => p.1 ≠ q.1

theorem dOf_none {L : List (α × Nat)} {y : α} : dOf L y = none ↔ ∀ p ∈ L, p.1 ≠ y := by
  unfold dOf
  rw [Option.map_eq_none_iff, List.find?_eq_none]
  simp
theorem dOf_mem {L : List (α × Nat)} {y : α} {d : Nat} (h : dOf L y = some d) : (y, d) ∈ L := by
  unfold dOf at h
  obtain ⟨p, hp, rfl⟩ := Option.map_eq_some_iff.1 h
  have h1 := List.find?_some hp
  have h2 := List.mem_of_find?_eq_some hp
  simp at h1
  subst h1
  exact h2
omit [DecidableEq α] in
theorem KN.uniq {L : List (α × Nat)} (h : KN L) {y : α} {d d' : Nat} (h1 : (y, d) ∈ L) (h2 : (y, d') ∈ L) : d = d' := by
  induction L with
  | nil => cases h1
  | cons p r ih =>
    obtain ⟨hp, hr⟩ := List.pairwise_cons.1 h
    rcases List.mem_cons.1 h1 with e1 | h1'
    · rcases List.mem_cons.1 h2 with e2 | h2'
      · rw [← e2] at e1; injection e1
      · exact absurd (by rw [← e1]) (hp _ h2')
    · rcases List.mem_cons.1 h2 with e2 | h2'
      · exact absurd (by rw [← e2]) (hp _ h1')
      · exact ih hr h1' h2'
theorem dOf_some {L : List (α × Nat)} (h : KN L) {y : α} {d : Nat} : dOf L y = some d ↔ (y, d) ∈ L := by
  refine ⟨dOf_mem, fun hm => ?_⟩
  cases e : dOf L y with
  | none => exact absurd rfl (dOf_none.1 e _ hm)
  | some d' => rw [h.uniq (dOf_mem e) hm]
theorem dOf_append {L : List (α × Nat)} {y z : α} {d : Nat} (h : dOf L y = none) : dOf (L ++ [(y, d)]) z = if z = y then some d else dOf L z := by
  unfold dOf
  rw [List.find?_append]
  split
  · rename_i e
    subst e
    have h0 : L.find? (fun p => decide (p.1 = z)) = none := by
      unfold dOf at h; simpa using h
    rw [h0]
    simp
  · rename_i e
    have : List.find? (fun p => decide (p.1 = z)) [(y, d)] = none := by simp; exact fun h => e h.symm
    rw [this]
    simp

/-! ### What look1, lookTo and runTo keep -/
theorem look1_prefix (L : List (α × Nat)) (d : Nat) (o : Option α) : ∃ r, look1 L d o = L ++ r := by
  unfold look1
  split
  · exact ⟨[], by simp⟩
  · split
    · exact ⟨[], by simp⟩
    · exact ⟨_, rfl⟩
theorem lookTo_prefix (nb : Nat → α → Option α) (x : α) (d : Nat) (L : List (α × Nat)) : ∀ k, ∃ r, lookTo nb x d L k = L ++ r
  | 0 => ⟨[], by simp [lookTo]⟩
  | k + 1 => by
    obtain ⟨r, hr⟩ := lookTo_prefix nb x d L k
    obtain ⟨r', hr'⟩ := look1_prefix (lookTo nb x d L k) d (nb k x)
    exact ⟨r ++ r', by rw [lookTo, hr', hr, List.append_assoc]⟩
theorem runTo_succ_some {nb : Nat → α → Option α} {m : Nat} {s : α} {a : Nat} {p : α × Nat} (h : (runTo nb m s a)[a]? = some p) : runTo nb m s (a + 1) = lookTo nb p.1 p.2 (runTo nb m s a) m := by
  rw [runTo, h]
theorem runTo_succ_none {nb : Nat → α → Option α} {m : Nat} {s : α} {a : Nat} (h : (runTo nb m s a)[a]? = none) : runTo nb m s (a + 1) = runTo nb m s a := by
  rw [runTo, h]
theorem runTo_prefix (nb : Nat → α → Option α) (m : Nat) (s : α) (a : Nat) : ∃ r, runTo nb m s (a + 1) = runTo nb m s a ++ r := by
  cases h : (runTo nb m s a)[a]? with
  | none => exact ⟨[], by rw [runTo_succ_none h]; simp⟩
  | some p => rw [runTo_succ_some h]; exact lookTo_prefix nb p.1 p.2 _ m
theorem runTo_get {nb : Nat → α → Option α} {m : Nat} {s : α} {a i : Nat} {p : α × Nat} (h : (runTo nb m s a)[i]? = some p) : (runTo nb m s (a + 1))[i]? = some p := by
  obtain ⟨r, hr⟩ := runTo_prefix nb m s a
  rw [hr, List.getElem?_append_left (List.getElem?_eq_some_iff.1 h).1, h]
theorem runTo_stable {nb : Nat → α → Option α} {m : Nat} {s : α} {a : Nat} (h : (runTo nb m s a).length ≤ a) : ∀ j, runTo nb m s (a + j) = runTo nb m s a
  | 0 => rfl
  | j + 1 => by
    rw [show a + (j + 1) = (a + j) + 1 from rfl, runTo_succ_none, runTo_stable h j]
    rw [runTo_stable h j]
    exact List.getElem?_eq_none (by omega)
theorem runTo_end {nb : Nat → α → Option α} {m : Nat} {s : α} {a N : Nat} (h : (runTo nb m s a).length ≤ a) (hN : a ≤ N) : runTo nb m s N = runTo nb m s a := by
  have := runTo_stable h (N - a)
  rwa [show a + (N - a) = N from by omega] at this

/-! ### The invariant -/
structure Found (nb : Nat → α → Option α) (m : Nat) (s : α) (a : Nat) (L : List (α × Nat)) : Prop where
  keys : KN L
  rising : L.Pairwise fun p q : α × Nat => p.2 ≤ q.2
  next : ∀ p : α × Nat, L[a]? = some p → ∀ q ∈ L, q.2 ≤ p.2 + 1
  shut : ∀ (i : Nat) (p : α × Nat), i < a → L[i]? = some p → ∀ k y, k < m → nb k p.1 = some y → ∃ d, (y, d) ∈ L ∧ d ≤ p.2 + 1
  before : ∀ q ∈ L, q = (s, 0) ∨ ∃ p ∈ L, ∃ k, k < m ∧ nb k p.1 = some q.1 ∧ q.2 = p.2 + 1
  low : ∀ (i : Nat) (p : α × Nat), L[i]? = some p → p.2 ≤ i
  first : (s, 0) ∈ L
  pos : a ≤ L.length ∨ True
structure Mid (nb : Nat → α → Option α) (m : Nat) (s : α) (a : Nat) (x : α) (d : Nat) (j : Nat) (L : List (α × Nat)) : Prop where
  keys : KN L
  rising : L.Pairwise fun p q : α × Nat => p.2 ≤ q.2
  here : L[a]? = some (x, d)
  next : ∀ q ∈ L, q.2 ≤ d + 1
  shut : ∀ (i : Nat) (p : α × Nat), i < a → L[i]? = some p → ∀ k y, k < m → nb k p.1 = some y → ∃ d, (y, d) ∈ L ∧ d ≤ p.2 + 1
  mine : ∀ k y, k < j → nb k x = some y → ∃ d', (y, d') ∈ L ∧ d' ≤ d + 1
  before : ∀ q ∈ L, q = (s, 0) ∨ ∃ p ∈ L, ∃ k, k < m ∧ nb k p.1 = some q.1 ∧ q.2 = p.2 + 1
  low : ∀ (i : Nat) (p : α × Nat), L[i]? = some p → p.2 ≤ i
  first : (s, 0) ∈ L
theorem Mid.step {nb : Nat → α → Option α} {m : Nat} {s x : α} {a d j : Nat} {L : List (α × Nat)} (h : Mid nb m s a x d j L) (hj : j < m) : Mid nb m s a x d (j + 1) (look1 L d (nb j x)) := by
  unfold look1
  split
  · rename_i e
    refine ⟨h.keys, h.rising, h.here, h.next, h.shut, fun k y hk hy => ?_, h.before, h.low, h.first⟩
    rcases Nat.lt_or_ge k j with hlt | hge
    · exact h.mine k y hlt hy
    · have : k = j := by omega
      subst this
      rw [e] at hy; cases hy
  · rename_i z e
    split
    · rename_i d' e'
      refine ⟨h.keys, h.rising, h.here, h.next, h.shut, fun k y hk hy => ?_, h.before, h.low, h.first⟩
      rcases Nat.lt_or_ge k j with hlt | hge
      · exact h.mine k y hlt hy
      · have : k = j := by omega
        subst this
        rw [e] at hy; injection hy with hy; subst hy
        exact ⟨d', dOf_mem e', h.next _ (dOf_mem e')⟩
    · rename_i e'
      have hn := dOf_none.1 e'
      have hal : a < L.length := (List.getElem?_eq_some_iff.1 h.here).1
      have hlow := h.low _ _ h.here
      refine ⟨?_, ?_, ?_, ?_, ?_, ?_, ?_, ?_, List.mem_append_left _ h.first⟩
      · refine List.pairwise_append.2 ⟨h.keys, by simp, fun p hp q hq => ?_⟩
        simp at hq; subst hq
        exact hn p hp
      · refine List.pairwise_append.2 ⟨h.rising, by simp, fun p hp q hq => ?_⟩
        simp at hq; subst hq
        exact h.next p hp
      · rw [List.getElem?_append_left hal, h.here]
      · intro q hq
        rcases List.mem_append.1 hq with hq | hq
        · exact h.next q hq
        · simp at hq; subst hq; exact Nat.le_refl _
      · intro i p hi hp k y hk hy
        rw [List.getElem?_append_left (by omega)] at hp
        obtain ⟨d1, h1, h2⟩ := h.shut i p hi hp k y hk hy
        exact ⟨d1, List.mem_append_left _ h1, h2⟩
      · intro k y hk hy
        rcases Nat.lt_or_ge k j with hlt | hge
        · obtain ⟨d1, h1, h2⟩ := h.mine k y hlt hy
          exact ⟨d1, List.mem_append_left _ h1, h2⟩
        · have : k = j := by omega
          subst this
          rw [e] at hy; injection hy with hy; subst hy
          exact ⟨d + 1, by simp, Nat.le_refl _⟩
      · intro q hq
        rcases List.mem_append.1 hq with hq | hq
        · rcases h.before q hq with h1 | ⟨p, hp, r⟩
          · exact .inl h1
          · exact .inr ⟨p, List.mem_append_left _ hp, r⟩
        · simp at hq; subst hq
          exact .inr ⟨(x, d), List.mem_append_left _ (List.mem_of_getElem? h.here), j, hj, e, rfl⟩
      · intro i p hp
        rcases Nat.lt_or_ge i L.length with hi | hi
        · rw [List.getElem?_append_left hi] at hp
          exact h.low i p hp
        · rw [List.getElem?_append_right hi] at hp
          have hi2 : i - L.length = 0 := by
            rcases Nat.eq_zero_or_pos (i - L.length) with h0 | h0
            · exact h0
            · rw [List.getElem?_eq_none (by simpa using (show 1 ≤ i - L.length from h0))] at hp; cases hp
          rw [hi2] at hp
          simp at hp; subst hp
          simp only
          have := h.low _ _ h.here
          simp only at this
          omega
theorem Mid.upTo {nb : Nat → α → Option α} {m : Nat} {s x : α} {a d : Nat} {L : List (α × Nat)} (h : Mid nb m s a x d 0 L) : ∀ j, j ≤ m → Mid nb m s a x d j (lookTo nb x d L j)
  | 0, _ => h
  | j + 1, hj => (h.upTo j (by omega)).step (by omega)
theorem found_run (nb : Nat → α → Option α) (m : Nat) (s : α) : ∀ a, Found nb m s a (runTo nb m s a)
  | 0 => by
    refine ⟨by simp [runTo, KN], by simp [runTo], ?_, fun i p hi => by omega, ?_, ?_, by simp [runTo], .inr trivial⟩
    · intro p hp q hq
      simp [runTo] at hp hq
      subst hp hq
      simp
    · intro q hq
      simp [runTo] at hq
      exact .inl hq
    · intro i p hp
      cases i with
      | zero => simp [runTo] at hp; subst hp; simp
      | succ i => simp [runTo] at hp
  | a + 1 => by
    have h := found_run nb m s a
    cases e : (runTo nb m s a)[a]? with
    | none =>
      rw [runTo_succ_none e]
      have hlen := List.getElem?_eq_none_iff.1 e
      refine ⟨h.keys, h.rising, ?_, ?_, h.before, h.low, h.first, .inr trivial⟩
      · intro p hp
        rw [List.getElem?_eq_none (by omega)] at hp; cases hp
      · intro i p hi hp
        have : i < (runTo nb m s a).length := (List.getElem?_eq_some_iff.1 hp).1
        exact h.shut i p (by omega) hp
    | some p =>
      obtain ⟨x, d⟩ := p
      rw [runTo_succ_some e]
      have hm : Mid nb m s a x d 0 (runTo nb m s a) := ⟨h.keys, h.rising, e, h.next _ e, h.shut, fun k y hk => by omega, h.before, h.low, h.first⟩
      have hM := hm.upTo m (Nat.le_refl _)
      refine ⟨hM.keys, hM.rising, ?_, ?_, hM.before, hM.low, hM.first, .inr trivial⟩
      · intro p hp q hq
        have h1 := hM.next q hq
        have h2 : d ≤ p.2 := by
          have hlt := (List.getElem?_eq_some_iff.1 hp).1
          have := List.pairwise_iff_getElem.1 hM.rising a (a + 1) (List.getElem?_eq_some_iff.1 hM.here).1 hlt (by omega)
          rw [(List.getElem?_eq_some_iff.1 hM.here).2, (List.getElem?_eq_some_iff.1 hp).2] at this
          exact this
        omega
      · intro i p hi hp k y hk hy
        rcases Nat.lt_or_ge i a with hlt | hge
        · exact hM.shut i p hlt hp k y hk hy
        · have : i = a := by omega
          subst this
          rw [hM.here] at hp
          injection hp with hp
          subst hp
          exact hM.mine k y hk hy

/-! ### What is found in the end -/
section
variable {nb : Nat → α → Option α} {m : Nat} {s : α} {a : Nat}
theorem found_way (h : (runTo nb m s a).length ≤ a) {y : α} {n : Nat} (hw : Way nb m s y n) : ∃ d, (y, d) ∈ runTo nb m s a ∧ d ≤ n := by
  have hF := found_run nb m s a
  induction hw with
  | refl => exact ⟨0, hF.first, Nat.le_refl _⟩
  | step _ hk hy ih =>
    obtain ⟨d, h1, h2⟩ := ih
    obtain ⟨i, hi⟩ := List.getElem?_of_mem h1
    have hlt := (List.getElem?_eq_some_iff.1 hi).1
    obtain ⟨d', h3, h4⟩ := hF.shut i _ (by omega) hi _ _ hk hy
    exact ⟨d', h3, by simp only at h4; omega⟩
theorem way_found : ∀ (d : Nat) {y : α}, (y, d) ∈ runTo nb m s a → Way nb m s y d
  | d, y, h => by
    have hF := found_run nb m s a
    rcases hF.before _ h with e | ⟨p, hp, k, hk, hy, hd⟩
    · injection e with e1 e2
      subst e1 e2
      exact .refl _
    · obtain ⟨x, d'⟩ := p
      simp only at hd hy
      subst hd
      exact .step (way_found d' hp) hk hy
theorem found_least (h : (runTo nb m s a).length ≤ a) {y : α} {d : Nat} : dOf (runTo nb m s a) y = some d ↔ Way nb m s y d ∧ ∀ n, Way nb m s y n → d ≤ n := by
  have hF := found_run nb m s a
  rw [dOf_some hF.keys]
  constructor
  · intro hm
    refine ⟨way_found d hm, fun n hn => ?_⟩
    obtain ⟨d', h1, h2⟩ := found_way h hn
    rw [hF.keys.uniq hm h1]
    exact h2
  · rintro ⟨hw, hl⟩
    obtain ⟨d', h1, h2⟩ := found_way h hw
    have := hl d' (way_found d' h1)
    have e : d = d' := by omega
    rw [e]; exact h1
theorem found_none (h : (runTo nb m s a).length ≤ a) {y : α} : dOf (runTo nb m s a) y = none ↔ ∀ n, ¬ Way nb m s y n := by
  rw [dOf_none]
  constructor
  · intro hn n hw
    obtain ⟨d, h1, _⟩ := found_way h hw
    exact hn _ h1 rfl
  · intro hn p hp e
    obtain ⟨x, d⟩ := p
    simp only at e
    subst e
    exact hn d (way_found d hp)
omit [DecidableEq α] in
theorem Way.all {P : α → Prop} (h0 : P s) (hP : ∀ k x y, k < m → P x → nb k x = some y → P y) {y : α} {n : Nat} (hw : Way nb m s y n) : P y := by
  induction hw with
  | refl => exact h0
  | step _ hk hy ih => exact hP _ _ _ hk ih hy
omit [DecidableEq α] in
theorem Way.cons {x y z : α} {n k : Nat} (hk : k < m) (hy : nb k x = some y) (hw : Way nb m y z n) : Way nb m x z (n + 1) := by
  induction hw with
  | refl => exact .step (.refl _) hk hy
  | step _ hk' hy' ih => exact .step ih hk' hy'
omit [DecidableEq α] in
theorem Way.back {nb' : Nat → α → Option α} {P : α → Prop} (hP : ∀ k x y, k < m → P x → nb k x = some y → P y) (hb : ∀ k x y, k < m → P x → nb k x = some y → nb' k y = some x) {x y : α} {n : Nat} (h0 : P x) (hw : Way nb m x y n) : Way nb' m y x n := by
  induction hw with
  | refl => exact .refl _
  | step hw' hk hy ih => exact .cons hk (hb _ _ _ hk (hw'.all h0 hP) hy) ih
theorem runTo_all {P : α → Prop} (h0 : P s) (hP : ∀ k x y, k < m → P x → nb k x = some y → P y) : ∀ p ∈ runTo nb m s a, P p.1 :=
  fun p hp => (way_found p.2 (y := p.1) hp).all h0 hP
end

/-! ### How many there can be -/
theorem nodup_lt : ∀ (n : Nat) (l : List Nat), l.Pairwise (· ≠ ·) → (∀ x ∈ l, x < n) → l.length ≤ n
  | 0, l, _, h => by
    cases l with
    | nil => simp
    | cons x r => have := h x (by simp); omega
  | n + 1, l, hd, h => by
    have h1 : (l.filter (· ≠ n)).length ≤ n := nodup_lt n _ (hd.filter _) fun x hx => by
      have := List.mem_filter.1 hx
      have h2 := h x this.1
      have h3 : x ≠ n := by simpa using this.2
      omega
    have h2 : l.length ≤ (l.filter (· ≠ n)).length + 1 := by
      clear h h1
      induction l with
      | nil => simp
      | cons x r ih =>
        obtain ⟨hx, hr⟩ := List.pairwise_cons.1 hd
        by_cases e : x = n
        · subst e
          have : (r.filter (· ≠ x)) = r := List.filter_eq_self.2 fun y hy => by simpa using (hx y hy).symm
          rw [List.filter_cons, if_neg (by simp), this, List.length_cons]
          exact Nat.le_refl _
        · rw [List.filter_cons, if_pos (by simpa using e), List.length_cons, List.length_cons]
          have := ih hr
          omega
    omega
omit [DecidableEq α] in
theorem KN.bound {L : List (α × Nat)} (h : KN L) {f : α → Nat} {N : Nat} (hf : ∀ p ∈ L, f p.1 < N) (hi : ∀ p ∈ L, ∀ q ∈ L, f p.1 = f q.1 → p.1 = q.1) : L.length ≤ N := by
  have h1 := nodup_lt N (L.map fun p => f p.1) (by
    refine List.pairwise_map.2 ?_
    refine List.Pairwise.imp_of_mem (fun {p q} hp hq hne => ?_) h
    exact fun e => hne (hi p hp q hq e)) (fun x hx => by
    obtain ⟨p, hp, rfl⟩ := List.mem_map.1 hx
    exact hf p hp)
  simpa using h1
end
end Go.Proofs.Ytbedepmcecdhfaa
