/- Orders of bittern, plainly: the casks after an order. -/
import Derived.Test.YtcajgadgdjopdaaFillI
import Derived.Test.YtcajgadgdjopdaaBitPC
namespace Go.Proofs.Ytcajgadgdjopdaa
open Go.RowKit
def subK (x : Bittern) (a : Int) : Bittern := ⟨x.id, x.kilos - a, x.bitter⟩
theorem subK_zero (x : Bittern) : subK x 0 = x := by simp [subK]
def afterAt (l : List Bittern) (out : List Int) (t : Nat) : List Bittern := loopTo (fun i s => s.set i (subK l[i]! out[i]!)) l t
theorem afterAt_succ (l : List Bittern) (out : List Int) (t : Nat) : afterAt l out (t + 1) = (afterAt l out t).set t (subK l[t]! out[t]!) := rfl
theorem afterAt_length (l : List Bittern) (out : List Int) : ∀ t, (afterAt l out t).length = l.length
  | 0 => rfl
  | t + 1 => by rw [afterAt_succ, List.length_set, afterAt_length l out t]
theorem afterAt_get {l : List Bittern} {out : List Int} {i : Nat} (hi : i < l.length) : ∀ t, (afterAt l out t)[i]? = some (if i < t then subK l[i]! out[i]! else l[i]!)
  | 0 => by
    show l[i]? = _
    rw [if_neg (by omega), getElem!_pos l i hi]
    exact List.getElem?_eq_getElem _
  | t + 1 => by
    rw [afterAt_succ]
    by_cases e : t = i
    · subst e
      rw [List.getElem?_set_self (by rw [afterAt_length]; exact hi), if_pos (by omega)]
    · rw [List.getElem?_set_ne e, afterAt_get hi t]
      by_cases h : i < t
      · rw [if_pos h, if_pos (by omega)]
      · rw [if_neg h, if_neg (by omega)]
/-- One pair of an order is taken from its cask. -/
def subP (s : List Bittern) (p : Ditch) : List Bittern := s.set (bitPlace s p.src).toNat (subK s[(bitPlace s p.src).toNat]! p.dst)
theorem firstTo_nil {p : Nat → Bool} : ∀ k, (∀ j, j < k → p j = false) → firstTo p k = none
  | 0, _ => rfl
  | k + 1, h => firstTo_miss (firstTo_nil k fun j hj => h j (by omega)) (h k (by omega))
theorem after_id {l : List Bittern} {out : List Int} {i t : Nat} (hi : i < l.length) : (afterAt l out t)[i]!.id = l[i]!.id := by
  rw [List.getElem!_of_getElem? (afterAt_get hi t)]
  split <;> rfl
theorem place_after {l : List Bittern} (h : areBitterns l = true) {out : List Int} {t i : Nat} (hi : i < l.length) : bitPlace (afterAt l out t) l[i]!.id = i := by
  have h1 : firstTo (isAt (afterAt l out t) l[i]!.id) i = none := firstTo_nil i fun j hj => by
    unfold isAt
    rw [after_id (by omega)]
    have := bitternId_inc h hj hi
    exact decide_eq_false (by omega)
  have h2 : isAt (afterAt l out t) l[i]!.id i = true := by
    unfold isAt
    rw [after_id hi]
    exact decide_eq_true rfl
  unfold bitPlace
  rw [firstTo_hit h1 h2 _ (by rw [afterAt_length]; exact hi)]
  rfl
theorem sub_after {l : List Bittern} (h : areBitterns l = true) {out : List Int} {t : Nat} (ht : t < l.length) : subP (afterAt l out t) ⟨l[t]!.id, out[t]!⟩ = afterAt l out (t + 1) := by
  unfold subP
  rw [place_after h ht, Int.toNat_natCast, afterAt_succ, List.getElem!_of_getElem? (afterAt_get ht t), if_neg (by omega)]
theorem pairsS_succ (l : List Bittern) (out : List Int) (t : Nat) : pairsS l out (t + 1) = if 0 < out[t]! then pairsS l out t ++ [⟨l[t]!.id, out[t]!⟩] else pairsS l out t := rfl
theorem fold_pairs {l : List Bittern} (h : areBitterns l = true) {out : List Int} (h0 : ∀ i, i < l.length → 0 ≤ out[i]!) : ∀ t, t ≤ l.length → (pairsS l out t).foldl subP l = afterAt l out t
  | 0, _ => rfl
  | t + 1, ht => by
    have ih := fold_pairs h h0 t (by omega)
    rw [pairsS_succ]
    by_cases c : 0 < out[t]!
    · rw [if_pos c, List.foldl_append, ih]
      exact sub_after h (by omega)
    · rw [if_neg c, ih, afterAt_succ]
      have e : out[t]! = 0 := by have := h0 t (by omega); omega
      rw [e, subK_zero]
      have hx := afterAt_get (l := l) (out := out) (show t < l.length by omega) t
      rw [if_neg (by omega)] at hx
      apply List.ext_getElem?
      intro i
      by_cases q : t = i
      · subst q
        rw [List.getElem?_set_self (by rw [afterAt_length]; omega), hx]
      · rw [List.getElem?_set_ne q]
theorem pairs_at {l : List Bittern} {out : List Int} : ∀ n i, i < (pairsS l out n).length → ∃ t, t < n ∧ (pairsS l out n)[i]? = some ⟨l[t]!.id, out[t]!⟩ ∧ (pairsS l out n).take i = pairsS l out t ∧ (pairsS l out n).take (i + 1) = pairsS l out (t + 1) ∧ 0 < out[t]!
  | 0, i, h => by simp [pairsS, loopTo] at h
  | n + 1, i, h => by
    rw [pairsS_succ] at h ⊢
    by_cases c : 0 < out[n]!
    · rw [if_pos c] at h ⊢
      rw [List.length_append, List.length_singleton] at h
      by_cases e : i < (pairsS l out n).length
      · obtain ⟨t, h1, h2, h3, h4, h5⟩ := pairs_at n i e
        refine ⟨t, by omega, ?_, ?_, ?_, h5⟩
        · rw [List.getElem?_append_left e]; exact h2
        · rw [List.take_append_of_le_length (by omega)]; exact h3
        · rw [List.take_append_of_le_length (by omega)]; exact h4
      · obtain rfl : i = (pairsS l out n).length := by omega
        refine ⟨n, by omega, ?_, ?_, ?_, c⟩
        · rw [List.getElem?_append_right (Nat.le_refl _), Nat.sub_self]; rfl
        · rw [List.take_append_of_le_length (Nat.le_refl _), List.take_length]
        · rw [List.take_of_length_le (by simp), pairsS_succ, if_pos c]
    · rw [if_neg c] at h ⊢
      obtain ⟨t, h1, h2, h3, h4, h5⟩ := pairs_at n i h
      exact ⟨t, by omega, h2, h3, h4, h5⟩
/-- What is taken from a cask lies in it. -/
theorem out_rng {l : List Bittern} {k g : Int} (h : areBitterns l = true) (hf : FeasS (sorted l) (k, g)) {i : Nat} (hi : i < l.length) : 0 ≤ (outTo l k g l.length)[i]! ∧ (outTo l k g l.length)[i]! ≤ l[i]!.kilos := by
  have hm : (i : Int) ∈ ordTo l l.length := (ordTo_perm l l.length).mem_iff.2 (List.mem_map.2 ⟨i, List.mem_range.2 hi, rfl⟩)
  obtain ⟨j, hj, he⟩ := List.getElem_of_mem hm
  rw [ordTo_length] at hj
  have hoj : (ordTo l l.length)[j]? = some (i : Int) := by rw [← he]; exact List.getElem?_eq_getElem _
  have e := outTo_at (l := l) (k := k) (g := g) hj l.length hj (Nat.le_refl _)
  rw [List.getElem!_of_getElem? hoj, Int.toNat_natCast] at e
  rw [e]
  have hS := sorted_ok h
  have hfe := stA_feas hS hf j (by rw [sorted_length]; omega)
  have hok := okT_drop hS j
  rw [drop_at (show j < (sorted l).length by rw [sorted_length]; exact hj)] at hok hfe
  obtain ⟨p1, _⟩ := pick_feas (k := (stA (sorted l) k g j).1) (g := (stA (sorted l) k g j).2) hok hfe
  have e2 : (sorted l)[j]! = l[i]! := List.getElem!_of_getElem? (ins_at hoj)
  rw [e2] at p1
  have e3 : amtA (sorted l) k g j = pickN ((sorted l).drop (j + 1)) l[i]! (stA (sorted l) k g j).1 (stA (sorted l) k g j).2 := by unfold amtA; rw [e2]
  rw [e3]
  omega
theorem fill_feas {l : List Bittern} {k b : Int} (h : fillOK l k b = true) : areBitterns l = true ∧ (1 ≤ k ∧ k ≤ 100000) ∧ (0 ≤ b ∧ b ≤ 1000) ∧ FeasS (sorted l) (k, k * b) := by
  simp only [fillOK, askedB, inB, Bool.and_eq_true, decide_eq_true_eq] at h
  obtain ⟨⟨h1, h2, h3⟩, h4, h5⟩ := h
  exact ⟨h1, by omega, by omega, (by show 0 ≤ k; omega), h4, h5⟩
def afterP (l : List Bittern) (k b : Int) : List Bittern := if fillOK l k b then afterAt l (outTo l k (k * b) l.length) l.length else []
theorem after_no {l : List Bittern} {k b : Int} (h : fillOK l k b = false) : afterP l k b = [] := by simp [afterP, h]
theorem afterP_length (l : List Bittern) (k b : Int) : (afterP l k b).length ≤ l.length := by
  unfold afterP
  split
  · rw [afterAt_length]; exact Nat.le_refl _
  · simp
theorem afterP_8 (l : List Bittern) (k b : Int) : (afterP l k b).length ≤ 8 := by
  unfold afterP
  split
  · rename_i h
    rw [afterAt_length]
    exact areBitterns_len (fill_feas h).1
  · simp
end Go.Proofs.Ytcajgadgdjopdaa
