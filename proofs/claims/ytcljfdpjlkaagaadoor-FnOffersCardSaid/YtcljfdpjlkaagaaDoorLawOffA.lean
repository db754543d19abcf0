/- For the law FnOffers: the open contracts go down in price; a split keeps what is needed. Plain facts. -/
import Derived.Test.YtcljfdpjlkaagaaDoorOpenC
import Derived.Test.YtcljfdpjlkaagaaDoorContractC
import Derived.Test.YtcljfdpjlkaagaaDoorSplitS
namespace Go.Proofs.YtcljfdpjlkaagaaDoor
open Go.RowKit
theorem posDown_low (q : Nat → Bool) : ∀ k j, posDown q k ≤ j → j < k → q j = true
  | 0, j, _, h => by omega
  | k + 1, j, h, hj => by
    unfold posDown at h
    split at h
    · rename_i hq
      rcases Nat.lt_or_ge j k with h1 | h1
      · exact posDown_low q k j h h1
      · obtain rfl : j = k := by omega
        exact hq
    · omega
theorem posDown_stop (q : Nat → Bool) : ∀ k p, posDown q k = p + 1 → q p = false
  | 0, p, h => by cases h
  | k + 1, p, h => by
    unfold posDown at h
    split at h
    · exact posDown_stop q k p h
    · rename_i hq
      obtain rfl : k = p := by omega
      simpa using hq
theorem insAt_at {S : List Contract} {p : Nat} (x : Contract) (hp : p ≤ S.length) (i : Nat) (hi : i < S.length + 1) :
    (insAt S p x)[i]! = if i < p then S[i]! else if i = p then x else S[i - 1]! := by
  unfold insAt
  rw [List.getElem!_eq_getElem?_getD]
  split
  · rename_i h
    rw [List.getElem?_append_left (by simp; omega), List.getElem?_append_left (by simp; omega), List.getElem?_take_of_lt h, ← List.getElem!_eq_getElem?_getD]
  · split
    · rename_i h1 h2
      subst h2
      rw [List.getElem?_append_left (by simp; omega), List.getElem?_append_right (by simp; omega)]
      simp [Nat.min_eq_left hp]
    · rename_i h1 h2
      rw [List.getElem?_append_right (by simp; omega), List.getElem?_drop, List.getElem!_eq_getElem?_getD]
      congr 2
      simp
      omega
/-- Prices go down. -/
def DescC (S : List Contract) : Prop := ∀ i j, i < j → j < S.length → S[j]!.price ≤ S[i]!.price
theorem insTo_desc (P : List Contract) : ∀ k, DescC (insTo P k)
  | 0 => fun i j _ h => by simp [insTo] at h
  | k + 1 => fun i j hij hj => by
    have ih := insTo_desc P k
    have hl := insTo_length P k
    have hp := posDown_le (cheapP P (insTo P k) k) k
    have hlow := posDown_low (cheapP P (insTo P k) k) k
    have hstop := posDown_stop (cheapP P (insTo P k) k) k
    rw [insTo_length] at hj
    rw [insTo, insAt_at _ (by omega) i (by omega), insAt_at _ (by omega) j (by omega)]
    generalize posDown (cheapP P (insTo P k) k) k = p at hp hlow hstop ⊢
    have up : ∀ a, a < p → P[k]!.price ≤ (insTo P k)[a]!.price := fun a ha => by
      have h1 := hstop (p - 1) (by omega)
      unfold cheapP at h1
      have h2 := of_decide_eq_false h1
      rcases Nat.lt_or_ge a (p - 1) with h | h
      · have := ih a (p - 1) h (by omega)
        omega
      · obtain rfl : a = p - 1 := by omega
        omega
    have down : ∀ a, p ≤ a → a < k → (insTo P k)[a]!.price ≤ P[k]!.price := fun a h1 h2 => by
      have := hlow a h1 h2
      unfold cheapP at this
      have := of_decide_eq_true this
      omega
    by_cases c1 : i < p
    · rw [if_pos c1]
      by_cases c2 : j < p
      · rw [if_pos c2]; exact ih i j hij (by omega)
      · rw [if_neg c2]
        by_cases c3 : j = p
        · rw [if_pos c3]; exact up i c1
        · rw [if_neg c3]
          rcases Nat.lt_or_ge i (j - 1) with h | h
          · exact ih i (j - 1) h (by omega)
          · obtain rfl : i = j - 1 := by omega
            exact Int.le_refl _
    · rw [if_neg c1, if_neg (show ¬ j < p by omega), if_neg (show ¬ j = p by omega)]
      by_cases c2 : i = p
      · rw [if_pos c2]; exact down (j - 1) (by omega) (by omega)
      · rw [if_neg c2]
        exact ih (i - 1) (j - 1) (by omega) (by omega)
theorem mem_insAt {S : List Contract} {p : Nat} {x s : Contract} (h : s ∈ insAt S p x) : s = x ∨ s ∈ S := by
  unfold insAt at h
  simp only [List.mem_append, List.mem_singleton] at h
  rcases h with (h | h) | h
  · exact Or.inr (List.mem_of_mem_take h)
  · exact Or.inl h
  · exact Or.inr (List.mem_of_mem_drop h)
theorem insTo_mem {P : List Contract} {s : Contract} : ∀ k, k ≤ P.length → s ∈ insTo P k → s ∈ P
  | 0, _, h => by simp [insTo] at h
  | k + 1, hk, h => by
    rw [insTo] at h
    rcases mem_insAt h with h | h
    · rw [h, getElem!_pos P k (by omega)]; exact List.getElem_mem _
    · exact insTo_mem k (by omega) h
theorem openTo_mem {l : List Contract} {day : Int} {s : Contract} : ∀ k, s ∈ openTo l day k → ∃ q, q < k ∧ s = l[q]! ∧ inB day l[q]!.first l[q]!.last = true
  | 0, h => by simp [openTo, loopTo] at h
  | k + 1, h => by
    rw [openTo_succ] at h
    split at h
    · rename_i hb
      rw [List.mem_append] at h
      rcases h with h | h
      · obtain ⟨q, hq, h1⟩ := openTo_mem k h
        exact ⟨q, by omega, h1⟩
      · exact ⟨k, by omega, by simpa using h, hb⟩
    · obtain ⟨q, hq, h1⟩ := openTo_mem k h
      exact ⟨q, by omega, h1⟩
theorem idsTo_at (S : List Contract) : ∀ (k i : Nat), i < k → (idsTo S k)[i]? = some S[i]!.id
  | 0, i, h => by omega
  | k + 1, i, h => by
    rw [idsTo_succ]
    rcases Nat.lt_or_ge i k with h1 | h1
    · rw [List.getElem?_append_left (by rw [idsTo_length]; exact h1)]; exact idsTo_at S k i h1
    · obtain rfl : i = k := by omega
      rw [List.getElem?_append_right (by rw [idsTo_length]; exact Nat.le_refl _), idsTo_length]
      simp
/-- What the law asks of the open contracts. -/
structure OpenAt (l : List Contract) (day : Int) (S : List Contract) : Prop where
  len : (openP l day).length = S.length
  at_ : ∀ k, k < S.length → (openP l day)[k]? = some S[k]!.id
  desc : DescC S
  from_ : ∀ k, k < S.length → ∃ q, q < l.length ∧ S[k]! = l[q]! ∧ l[q]!.first ≤ day ∧ day ≤ l[q]!.last
theorem openAt (l : List Contract) (day : Int) : ∃ S, OpenAt l day S ∧ (S.length = 0 ∨ areContracts l = true) := by
  by_cases h : openOK l day = true
  · refine ⟨insTo (openTo l day l.length) (openTo l day l.length).length, ⟨?_, fun k hk => ?_, insTo_desc _ _, fun k hk => ?_⟩, ?_⟩
    · unfold openP; rw [if_pos h, idsTo_length, insTo_length]
    · unfold openP; rw [if_pos h]
      rw [insTo_length] at hk
      exact idsTo_at _ _ k hk
    · have hm : (insTo (openTo l day l.length) (openTo l day l.length).length)[k]! ∈ insTo (openTo l day l.length) (openTo l day l.length).length := by
        rw [getElem!_pos _ k hk]; exact List.getElem_mem _
      obtain ⟨q, hq, h1, h2⟩ := openTo_mem _ (insTo_mem _ (Nat.le_refl _) hm)
      simp only [inB, Bool.and_eq_true, decide_eq_true_eq] at h2
      exact ⟨q, hq, h1, h2⟩
    · right
      simp only [openOK, Bool.and_eq_true] at h
      exact h.1
  · refine ⟨[], ⟨?_, fun k hk => by simp at hk, fun i j _ h => by simp at h, fun k hk => by simp at hk⟩, Or.inl rfl⟩
    unfold openP; rw [if_neg h]; rfl
/-- The price that the law remembers ahead of place k. -/
def lastAt (S : List Contract) (k : Nat) : Int := if k = 0 then 500 else S[k - 1]!.price
theorem ids_eq {l : List Contract} (h : areContracts l = true) {i q : Nat} (hi : i < l.length) (hq : q < l.length) (e : l[i]!.id = l[q]!.id) : i = q := by
  rcases Nat.lt_trichotomy i q with c | c | c
  · have := ids_inc h c hq; omega
  · exact c
  · have := ids_inc h c hi; omega
theorem price_at {l : List Contract} {day : Int} {S : List Contract} (h : OpenAt l day S) (ha : areContracts l = true) {k : Nat} (hk : k < S.length) : S[k]!.price ≤ lastAt S k := by
  unfold lastAt
  split
  · obtain ⟨q, hq, h1, _⟩ := h.from_ k hk
    have hx : l[q]? = some l[q]! := by rw [getElem!_pos l q hq]; exact List.getElem?_eq_getElem hq
    have := (contractOK_at (areContracts_ok ha hx)).2.2.2.1
    rw [h1]
    omega
  · exact h.desc (k - 1) k (by omega) hk
/-! ### A split keeps what is needed -/
theorem setapp_at {l : List Contract} {p : Nat} {y z : Contract} (hp : p < l.length) {i : Nat} (hi : i < l.length) : (l.set p y ++ [z])[i]! = if i = p then y else l[i]! := by
  rw [List.getElem!_eq_getElem?_getD, List.getElem?_append_left (by simpa using hi), List.getElem?_set]
  by_cases h : i = p
  · subst h; simp [hi]
  · rw [if_neg (fun e => h e.symm), if_neg h, ← List.getElem!_eq_getElem?_getD]
theorem setapp_end {l : List Contract} {p : Nat} {y z : Contract} : (l.set p y ++ [z])[l.length]! = z := by
  rw [List.getElem!_eq_getElem?_getD, List.getElem?_append_right (by simp)]
  simp
theorem totG_succ (l : List Contract) (g : Int) (k : Nat) : totG l g (k + 1) = if l[k]!.grade == g then totG l g k + l[k]!.tons else totG l g k := rfl
theorem totG_split {l : List Contract} {p : Nat} {y z : Contract} (g : Int) (hp : p < l.length) (hy : y.grade = l[p]!.grade) : ∀ k, k ≤ l.length →
    totG (l.set p y ++ [z]) g k = totG l g k + (if p < k then (if l[p]!.grade == g then y.tons - l[p]!.tons else 0) else 0)
  | 0, _ => by simp [totG, loopTo]
  | k + 1, hk => by
    have ih := totG_split (z := z) g hp hy k (by omega)
    rw [totG_succ, totG_succ, ih, setapp_at hp (show k < l.length by omega)]
    by_cases h : k = p
    · subst h
      rw [if_pos rfl, if_neg (Nat.lt_irrefl k), if_pos (Nat.lt_succ_self k), hy]
      by_cases hg : (l[k]!.grade == g) = true
      · rw [if_pos hg, if_pos hg, if_pos hg]; omega
      · rw [if_neg hg, if_neg hg, if_neg hg]
    · rw [if_neg h]
      simp only [show (p < k + 1) ↔ (p < k) from by omega]
      by_cases hg : (l[k]!.grade == g) = true
      · rw [if_pos hg, if_pos hg]; omega
      · rw [if_neg hg, if_neg hg]
theorem totG_all {l : List Contract} {p : Nat} {y z : Contract} (g : Int) (hp : p < l.length) (hy : y.grade = l[p]!.grade) (hz : z.grade = l[p]!.grade) (ht : y.tons + z.tons = l[p]!.tons) :
    totG (l.set p y ++ [z]) g (l.set p y ++ [z]).length = totG l g l.length := by
  have e : (l.set p y ++ [z]).length = l.length + 1 := by simp
  rw [e, totG_succ, setapp_end, totG_split g hp hy l.length (Nat.le_refl _), if_pos hp, hz]
  by_cases hg : (l[p]!.grade == g) = true
  · rw [if_pos hg, if_pos hg]; omega
  · rw [if_neg hg, if_neg hg]; omega
theorem split_need {l : List Contract} {id t : Int} (h : splitOK l id t = true) : areContracts l = true ∧ areContracts (splitP l id t) = true ∧ neededP (splitP l id t) = neededP l := by
  have h0 := h
  unfold splitOK at h
  rw [Bool.and_eq_true] at h
  obtain ⟨h1, h2⟩ := h
  have h1' := h1
  unfold splitG at h1'
  simp only [Bool.and_eq_true, decide_eq_true_eq] at h1'
  obtain ⟨ha, hp0, _⟩ := h1'
  obtain ⟨p, hp, hlt⟩ := conPlace_lt (l := l) (id := id) rfl hp0
  have e1 : splitP l id t = splitAt l p t := by unfold splitP; rw [if_pos h0, hp]; rfl
  rw [hp] at h2
  simp only [Int.toNat_natCast] at h2
  refine ⟨ha, by rw [e1]; exact h2, ?_⟩
  rw [e1]
  unfold neededP
  rw [if_pos h2, if_pos ha]
  unfold splitAt
  have tt : ∀ g, totG (l.set p (withTons l[p]! t) ++ [secondOf l[p]! l[l.length - 1]!.id t]) g (l.set p (withTons l[p]! t) ++ [secondOf l[p]! l[l.length - 1]!.id t]).length = totG l g l.length := fun g =>
    totG_all g hlt rfl rfl (by simp [withTons, secondOf]; omega)
  rw [tt, tt, tt, tt]
end Go.Proofs.YtcljfdpjlkaagaaDoor
