/- Orders of bittern, plainly: the sorted casks; impl.canFill's answer; the program's pairs and the reference's are the same. -/
import Derived.Test.YtcajgadgdjopdaaFillM
import Derived.Test.YtcajgadgdjopdaaSortP
import Derived.Test.YtcajgadgdjopdaaCan
namespace Go.Proofs.Ytcajgadgdjopdaa
open Go.RowKit
theorem insAt_atB {α : Type} [Inhabited α] {S : List α} {p : Nat} (x : α) (hp : p ≤ S.length) (i : Nat) (hi : i < S.length + 1) :
    (insAt S p x)[i]! = if i < p then S[i]! else if i = p then x else S[i - 1]! := by
  unfold insAt
  rw [List.getElem!_eq_getElem?_getD]
  split
  · rename_i h
    rw [List.getElem?_append_left (by simp; omega), List.getElem?_append_left (by simp; omega), List.getElem?_take_of_lt h, ← List.getElem!_eq_getElem?_getD]
  · split
    · rename_i h1 h2
      subst h2
      rw [List.getElem?_append_left (by simp; omega), List.getElem?_append_right (by simp; omega)]
      simp [Nat.min_eq_left hp]
    · rename_i h1 h2
      rw [List.getElem?_append_right (by simp; omega), List.getElem?_drop, List.getElem!_eq_getElem?_getD]
      congr 2
      simp
      omega
def AscB (S : List Bittern) : Prop := ∀ i j, i < j → j < S.length → S[i]!.bitter ≤ S[j]!.bitter
theorem insToB_asc (P : List Bittern) : ∀ k, AscB (insToB P k)
  | 0 => fun i j _ h => by simp [insToB] at h
  | k + 1 => fun i j hij hj => by
    have ih := insToB_asc P k
    have hl := insToB_length P k
    have hp := posDown_le (cheapPB P (insToB P k) k) k
    have hlow := posDown_low' (cheapPB P (insToB P k) k) k
    have hstop := posDown_stop' (cheapPB P (insToB P k) k) k
    rw [insToB_length] at hj
    rw [insToB, insAt_atB _ (by omega) i (by omega), insAt_atB _ (by omega) j (by omega)]
    generalize posDown (cheapPB P (insToB P k) k) k = p at hp hlow hstop ⊢
    have up : ∀ a, a < p → (insToB P k)[a]!.bitter ≤ P[k]!.bitter := fun a ha => by
      have h1 := hstop (p - 1) (by omega)
      unfold cheapPB at h1
      have h2 := of_decide_eq_false h1
      rcases Nat.lt_or_ge a (p - 1) with h | h
      · have := ih a (p - 1) h (by omega)
        omega
      · obtain rfl : a = p - 1 := by omega
        omega
    have down : ∀ a, p ≤ a → a < k → P[k]!.bitter ≤ (insToB P k)[a]!.bitter := fun a h1 h2 => by
      have := hlow a h1 h2
      unfold cheapPB at this
      have := of_decide_eq_true this
      omega
    by_cases c1 : i < p
    · rw [if_pos c1]
      by_cases c2 : j < p
      · rw [if_pos c2]; exact ih i j hij (by omega)
      · rw [if_neg c2]
        by_cases c3 : j = p
        · rw [if_pos c3]; exact up i c1
        · rw [if_neg c3]
          rcases Nat.lt_or_ge i (j - 1) with h | h
          · exact ih i (j - 1) h (by omega)
          · obtain rfl : i = j - 1 := by omega
            exact Int.le_refl _
    · rw [if_neg c1, if_neg (show ¬ j < p by omega), if_neg (show ¬ j = p by omega)]
      by_cases c2 : i = p
      · rw [if_pos c2]; exact down (j - 1) (by omega) (by omega)
      · rw [if_neg c2]
        exact ih (i - 1) (j - 1) (by omega) (by omega)
theorem insToB_perm (P : List Bittern) : ∀ k, k ≤ P.length → (insToB P k).Perm (P.take k)
  | 0, _ => by simp [insToB]
  | k + 1, hk => by
    have e : P.take (k + 1) = P.take k ++ [P[k]!] := by
      rw [List.take_add_one, getElem!_pos P k (by omega), List.getElem?_eq_getElem (by omega)]; rfl
    rw [insToB, e]
    exact (insAt_perm _ _ _).trans ((List.Perm.cons _ (insToB_perm P k (by omega))).trans (List.perm_append_comm (l₁ := P.take k) (l₂ := [P[k]!])).symm)
def AscP (S : List Ditch) : Prop := ∀ i j, i < j → j < S.length → S[i]!.src ≤ S[j]!.src
theorem insToP_asc (P : List Ditch) : ∀ k, AscP (insToP P k)
  | 0 => fun i j _ h => by simp [insToP] at h
  | k + 1 => fun i j hij hj => by
    have ih := insToP_asc P k
    have hl := insToP_length P k
    have hp := posDown_le (cheapPP P (insToP P k) k) k
    have hlow := posDown_low' (cheapPP P (insToP P k) k) k
    have hstop := posDown_stop' (cheapPP P (insToP P k) k) k
    rw [insToP_length] at hj
    rw [insToP, insAt_atB _ (by omega) i (by omega), insAt_atB _ (by omega) j (by omega)]
    generalize posDown (cheapPP P (insToP P k) k) k = p at hp hlow hstop ⊢
    have up : ∀ a, a < p → (insToP P k)[a]!.src ≤ P[k]!.src := fun a ha => by
      have h1 := hstop (p - 1) (by omega)
      unfold cheapPP at h1
      have h2 := of_decide_eq_false h1
      rcases Nat.lt_or_ge a (p - 1) with h | h
      · have := ih a (p - 1) h (by omega)
        omega
      · obtain rfl : a = p - 1 := by omega
        omega
    have down : ∀ a, p ≤ a → a < k → P[k]!.src ≤ (insToP P k)[a]!.src := fun a h1 h2 => by
      have := hlow a h1 h2
      unfold cheapPP at this
      have := of_decide_eq_true this
      omega
    by_cases c1 : i < p
    · rw [if_pos c1]
      by_cases c2 : j < p
      · rw [if_pos c2]; exact ih i j hij (by omega)
      · rw [if_neg c2]
        by_cases c3 : j = p
        · rw [if_pos c3]; exact up i c1
        · rw [if_neg c3]
          rcases Nat.lt_or_ge i (j - 1) with h | h
          · exact ih i (j - 1) h (by omega)
          · obtain rfl : i = j - 1 := by omega
            exact Int.le_refl _
    · rw [if_neg c1, if_neg (show ¬ j < p by omega), if_neg (show ¬ j = p by omega)]
      by_cases c2 : i = p
      · rw [if_pos c2]; exact down (j - 1) (by omega) (by omega)
      · rw [if_neg c2]
        exact ih (i - 1) (j - 1) (by omega) (by omega)
theorem insToP_perm (P : List Ditch) : ∀ k, k ≤ P.length → (insToP P k).Perm (P.take k)
  | 0, _ => by simp [insToP]
  | k + 1, hk => by
    have e : P.take (k + 1) = P.take k ++ [P[k]!] := by
      rw [List.take_add_one, getElem!_pos P k (by omega), List.getElem?_eq_getElem (by omega)]; rfl
    rw [insToP, e]
    exact (insAt_perm _ _ _).trans ((List.Perm.cons _ (insToP_perm P k (by omega))).trans (List.perm_append_comm (l₁ := P.take k) (l₂ := [P[k]!])).symm)
/-- The casks of a list, sorted. -/
def sorted (l : List Bittern) : List Bittern := insToB l l.length
theorem sorted_length (l : List Bittern) : (sorted l).length = l.length := insToB_length _ _
theorem sorted_ok {l : List Bittern} (h : areBitterns l = true) : OkT (sorted l) := fun x hx => by
  have := (insToB_perm l l.length (Nat.le_refl _)).mem_iff.1 hx
  rw [List.take_length] at this
  obtain ⟨i, hi, he⟩ := List.getElem_of_mem this
  have := bitternOK_at (areBitterns_ok h (show l[i]? = some x by rw [← he]; exact List.getElem?_eq_getElem hi))
  exact ⟨this.2.1, this.2.2⟩
theorem sorted_up (l : List Bittern) {i : Nat} : ∀ x ∈ (sorted l).drop (i + 1), (sorted l)[i]!.bitter ≤ x.bitter := fun x hx => by
  obtain ⟨j, hj, he⟩ := List.getElem_of_mem hx
  rw [List.length_drop] at hj
  have := insToB_asc l l.length i (i + 1 + j) (by omega) (by unfold sorted at hj; omega)
  rw [List.getElem_drop] at he
  rw [← he, ← getElem!_pos (sorted l) (i + 1 + j) (by omega)]
  exact this
/-- impl.canFill's answer, plainly. -/
theorem foldF_plain : ∀ {T : List Bittern} {k g : Int}, OkT T → 0 ≤ k → k ≤ 100000 → -1000000000 ≤ g → g ≤ 1000000000 → T.length ≤ 8 →
    T.foldr (fun b s => stepF s b) (k, g) = (leftT T k, g - gainT T k)
  | [], k, g, _, _, _, _, _, _ => by simp [leftT, gainT]
  | b :: T, k, g, h, h0, h1, g0, g1, hl => by
    obtain ⟨o1, o2⟩ := okT_cons h
    rw [List.length_cons] at hl
    rw [List.foldr_cons, foldF_plain o2 h0 h1 g0 g1 (by omega), leftT, gainT]
    have hr := gain_rng o2 h0
    have hlr := left_room o2 h0
    have hrr := room_rng o2
    unfold stepF
    dsimp only
    have hm : 0 ≤ min (leftT T k) b.kilos := by omega
    have hm2 : min (leftT T k) b.kilos ≤ 10000 := by omega
    have hm3 : min (leftT T k) b.kilos ≤ leftT T k := by omega
    generalize min (leftT T k) b.kilos = m at *
    have m1 := Int.mul_nonneg hm o1.2.1
    have m2 := Int.mul_le_mul_of_nonneg_left o1.2.2 hm
    generalize m * b.bitter = z at *
    have w1 : wrap64 (leftT T k - m) = leftT T k - m := by unfold wrap64; omega
    have w2 : wrap64 z = z := by unfold wrap64; omega
    have w3 : wrap64 (g - gainT T k - z) = g - gainT T k - z := by unfold wrap64; omega
    rw [w1, w2, w3]
    congr 1
    omega
theorem backTo_map (T : List Bittern) : (backTo T T.length).map (fun x => x.2) = T.reverse := by
  apply List.ext_getElem?
  intro i
  by_cases h : i < T.length
  · rw [List.getElem?_map, List.getElem?_reverse h]
    have : (backTo T T.length)[i]? = some (T.length - 1 - i, T[T.length - 1 - i]!) := by simp [backTo, h]
    rw [this, List.getElem?_eq_getElem (by omega)]
    simp
    rw [List.getElem?_eq_getElem (by omega)]
    rfl
  · rw [List.getElem?_eq_none (by simp [backTo]; omega), List.getElem?_eq_none (by simp; omega)]
theorem canFill_eq {T : List Bittern} {k g : Int} (h : OkT T) (h0 : 0 ≤ k) (h1 : k ≤ 100000) (g0 : -1000000000 ≤ g) (g1 : g ≤ 1000000000) (hl : T.length ≤ 8) :
    canFillW T k g = (decide (leftT T k = 0) && decide (g ≤ gainT T k)) := by
  have e : foldF (k, g) (backTo T T.length) = (leftT T k, g - gainT T k) := by
    rw [← foldF_plain h h0 h1 g0 g1 hl, List.foldr_eq_foldl_reverse, ← backTo_map, List.foldl_map]
    rfl
  unfold canFillW
  rw [e]
  congr 1
  apply decide_eq_decide.2
  dsimp only
  omega
/-! ### The pairs -/
def pairOf (S : List Bittern) (k g : Int) (i : Nat) : List Ditch := if 0 < amtA S k g i then [⟨S[i]!.id, amtA S k g i⟩] else []
def pairsTo (S : List Bittern) (k g : Int) (t : Nat) : List Ditch := loopTo (fun i s => s ++ pairOf S k g i) [] t
theorem pairsTo_succ (S : List Bittern) (k g : Int) (t : Nat) : pairsTo S k g (t + 1) = pairsTo S k g t ++ pairOf S k g t := rfl
theorem pairsTo_len (S : List Bittern) (k g : Int) : ∀ t, (pairsTo S k g t).length ≤ t
  | 0 => by simp [pairsTo, loopTo]
  | t + 1 => by
    have := pairsTo_len S k g t
    rw [pairsTo_succ, List.length_append]
    unfold pairOf
    split <;> simp <;> omega
/-- The amounts by the casks' places in the list. -/
def outTo (l : List Bittern) (k g : Int) (t : Nat) : List Int := loopTo (fun j s => s.set (ordTo l l.length)[j]!.toNat (amtA (sorted l) k g j)) (List.replicate l.length 0) t
theorem outTo_succ (l : List Bittern) (k g : Int) (t : Nat) : outTo l k g (t + 1) = (outTo l k g t).set (ordTo l l.length)[t]!.toNat (amtA (sorted l) k g t) := rfl
theorem outTo_length (l : List Bittern) (k g : Int) : ∀ t, (outTo l k g t).length = l.length
  | 0 => by simp [outTo, loopTo]
  | t + 1 => by rw [outTo_succ, List.length_set, outTo_length l k g t]
def pickF (l : List Bittern) (out : List Int) (z : Int) : Option Ditch := if 0 < out[z.toNat]! then some ⟨l[z.toNat]!.id, out[z.toNat]!⟩ else none
def pairsS (l : List Bittern) (out : List Int) (t : Nat) : List Ditch := loopTo (fun i s => if 0 < out[i]! then s ++ [⟨l[i]!.id, out[i]!⟩] else s) [] t
theorem pairsS_map (l : List Bittern) (out : List Int) : ∀ t, pairsS l out t = (((List.range t).map fun (i : Nat) => (i : Int)).filterMap (pickF l out))
  | 0 => rfl
  | t + 1 => by
    rw [List.range_succ, List.map_append, List.filterMap_append, ← pairsS_map l out t]
    show (if 0 < out[t]! then pairsS l out t ++ [⟨l[t]!.id, out[t]!⟩] else pairsS l out t) = _
    have hp : pickF l out (t : Int) = if 0 < out[t]! then some ⟨l[t]!.id, out[t]!⟩ else none := by unfold pickF; rw [Int.toNat_natCast]
    simp only [List.map_cons, List.map_nil, List.filterMap_cons, List.filterMap_nil, hp]
    by_cases h : 0 < out[t]!
    · rw [if_pos h, if_pos h]
    · rw [if_neg h, if_neg h]; simp
theorem ord_inj {l : List Bittern} {i j : Nat} (hi : i < l.length) (hj : j < l.length) (h : (ordTo l l.length)[i]!.toNat = (ordTo l l.length)[j]!.toNat) : i = j := by
  have hnd : (ordTo l l.length).Nodup := by
    rw [(ordTo_perm l l.length).nodup_iff]
    show List.Pairwise (· ≠ ·) _
    rw [List.pairwise_map]
    exact (List.pairwise_lt_range (n := l.length)).imp (fun h => by omega)
  have hne : ∀ a b, a < b → b < l.length → (ordTo l l.length)[a]? ≠ (ordTo l l.length)[b]? := fun a b hab hb => by
    have := (List.pairwise_iff_getElem.1 hnd) a b (by rw [ordTo_length]; omega) (by rw [ordTo_length]; exact hb) hab
    rw [List.getElem?_eq_getElem (by rw [ordTo_length]; omega), List.getElem?_eq_getElem (by rw [ordTo_length]; exact hb)]
    intro e
    injection e with e
    exact this e
  obtain ⟨a, _, ha⟩ := ordTo_at (l := l) (k := l.length) hi
  obtain ⟨b, _, hb⟩ := ordTo_at (l := l) (k := l.length) hj
  rw [List.getElem!_of_getElem? ha, List.getElem!_of_getElem? hb] at h
  simp at h
  subst h
  rcases Nat.lt_trichotomy i j with c | c | c
  · exact absurd (ha.trans hb.symm) (hne i j c hj)
  · exact c
  · exact absurd (hb.trans ha.symm) (hne j i c hi)
theorem outTo_at {l : List Bittern} {k g : Int} {j : Nat} (hj : j < l.length) : ∀ t, j < t → t ≤ l.length → (outTo l k g t)[(ordTo l l.length)[j]!.toNat]! = amtA (sorted l) k g j
  | 0, h, _ => by omega
  | t + 1, h, ht => by
    obtain ⟨a, ha1, ha⟩ := ordTo_at (l := l) (k := l.length) hj
    have ea : (ordTo l l.length)[j]!.toNat = a := by rw [List.getElem!_of_getElem? ha]; rfl
    rw [outTo_succ]
    by_cases e : j = t
    · subst e
      rw [ea, List.getElem!_eq_getElem?_getD, List.getElem?_set_self (by rw [outTo_length]; exact ha1)]
      rfl
    · rw [List.getElem!_eq_getElem?_getD, List.getElem?_set_ne (fun h2 => e (ord_inj hj (by omega) h2.symm)), ← List.getElem!_eq_getElem?_getD]
      exact outTo_at hj t (by omega) (by omega)
theorem pairsTo_map {l : List Bittern} {k g : Int} : ∀ t, t ≤ l.length → pairsTo (sorted l) k g t = ((ordTo l l.length).take t).filterMap (pickF l (outTo l k g l.length))
  | 0, _ => by simp [pairsTo, loopTo]
  | t + 1, ht => by
    obtain ⟨a, ha1, ha⟩ := ordTo_at (l := l) (k := l.length) (show t < l.length by omega)
    have e1 : (ordTo l l.length).take (t + 1) = (ordTo l l.length).take t ++ [(a : Int)] := by rw [List.take_add_one, ha]; rfl
    have e2 : (sorted l)[t]! = l[a]! := List.getElem!_of_getElem? (ins_at ha)
    have e3 := outTo_at (l := l) (k := k) (g := g) (show t < l.length by omega) l.length (by omega) (Nat.le_refl _)
    rw [List.getElem!_of_getElem? ha, Int.toNat_natCast] at e3
    rw [pairsTo_succ, pairsTo_map t (by omega), e1, List.filterMap_append]
    congr 1
    unfold pairOf
    rw [e2]
    by_cases h : 0 < amtA (sorted l) k g t
    · rw [if_pos h]; simp [pickF, e3, h]
    · rw [if_neg h]; simp [pickF, e3, h]
theorem pickF_src {l : List Bittern} {out : List Int} {z : Int} {x : Ditch} (h : pickF l out z = some x) : x.src = l[z.toNat]!.id := by
  unfold pickF at h
  split at h
  · injection h with h; rw [← h]
  · cases h
/-- The program's pairs, sorted by id, are the reference's. -/
theorem pairs_eq {l : List Bittern} (h : areBitterns l = true) (k g : Int) :
    insToP (pairsTo (sorted l) k g l.length) (pairsTo (sorted l) k g l.length).length = pairsS l (outTo l k g l.length) l.length := by
  obtain ⟨P, hP⟩ : ∃ P, pairsTo (sorted l) k g l.length = P := ⟨_, rfl⟩
  obtain ⟨Q, hQ⟩ : ∃ Q, pairsS l (outTo l k g l.length) l.length = Q := ⟨_, rfl⟩
  have h1 : P.Perm Q := by
    rw [← hP, ← hQ, pairsTo_map l.length (Nat.le_refl _), pairsS_map, List.take_of_length_le (by rw [ordTo_length]; exact Nat.le_refl _)]
    exact (ordTo_perm l l.length).filterMap _
  have h2 : (insToP P P.length).Perm P := by
    have := insToP_perm P P.length (Nat.le_refl _)
    rwa [List.take_length] at this
  have hq : Q.Pairwise (fun a b => a.src < b.src) := by
    rw [← hQ, pairsS_map, List.pairwise_filterMap]
    rw [List.pairwise_map]
    refine List.Pairwise.imp_of_mem ?_ (List.pairwise_lt_range (n := l.length))
    intro a b ha hb hab x hx y hy
    rw [pickF_src hx, pickF_src hy]
    exact bitternId_inc h hab (List.mem_range.1 hb)
  have hp : (insToP P P.length).Pairwise (fun a b => a.src ≤ b.src) := by
    rw [List.pairwise_iff_getElem]
    intro i j hi hj hij
    have := insToP_asc P P.length i j hij hj
    rwa [getElem!_pos _ i hi, getElem!_pos _ j hj] at this
  rw [hP, hQ]
  refine List.Perm.eq_of_pairwise (le := fun a b => a.src ≤ b.src) ?_ hp (hq.imp fun h => Int.le_of_lt h) (h2.trans h1)
  intro a b ha hb h3 h4
  have ha' : a ∈ Q := (h2.trans h1).mem_iff.1 ha
  obtain ⟨i, hi, rfl⟩ := List.getElem_of_mem ha'
  obtain ⟨j, hj, rfl⟩ := List.getElem_of_mem hb
  rw [List.pairwise_iff_getElem] at hq
  rcases Nat.lt_trichotomy i j with c | c | c
  · have := hq i j hi hj c; omega
  · subst c; rfl
  · have := hq j i hj hi c; omega
end Go.Proofs.Ytcajgadgdjopdaa
