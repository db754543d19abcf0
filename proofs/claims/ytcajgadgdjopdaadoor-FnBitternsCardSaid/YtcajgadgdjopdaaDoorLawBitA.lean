/- For the law FnBitterns: plain facts. A pour keeps the kilograms and loses at most the division's rest; the mean is no more than the bitterest. -/
import Derived.Test.YtcajgadgdjopdaaDoorBitternE
import Derived.Test.YtcajgadgdjopdaaDoorBitternF
namespace Go.Proofs.YtcajgadgdjopdaaDoor
open Go.RowKit
theorem set2_at {l : List Bittern} {p q : Nat} {y z : Bittern} {i : Nat} (hi : i < l.length) : ((l.set p y).set q z)[i]! = if q = i then z else if p = i then y else l[i]! := by
  rw [List.getElem!_eq_getElem?_getD, List.getElem?_set, List.getElem?_set]
  by_cases h1 : q = i
  · subst h1; simp [hi]
  · rw [if_neg h1, if_neg h1]
    by_cases h2 : p = i
    · subst h2; simp [hi]
    · rw [if_neg h2, if_neg h2, ← List.getElem!_eq_getElem?_getD]
theorem set2_sums {l : List Bittern} {p q : Nat} {y z : Bittern} (hpq : p ≠ q) (hl : areBitterns l = true) (hX : areBitterns ((l.set p y).set q z) = true) : ∀ k, k ≤ l.length →
    kilosTo ((l.set p y).set q z) k = kilosTo l k + (if p < k then y.kilos - l[p]!.kilos else 0) + (if q < k then z.kilos - l[q]!.kilos else 0) ∧
    gramsTo ((l.set p y).set q z) k = gramsTo l k + (if p < k then y.kilos * y.bitter - l[p]!.kilos * l[p]!.bitter else 0) + (if q < k then z.kilos * z.bitter - l[q]!.kilos * l[q]!.bitter else 0)
  | 0, _ => by simp [kilosTo, gramsTo, loopTo]
  | k + 1, hk => by
    obtain ⟨i1, i2⟩ := set2_sums hpq hl hX k (by omega)
    obtain ⟨a1, a2, _⟩ := (kg_step hl k (by omega)).2 (by omega)
    obtain ⟨b1, b2, _⟩ := (kg_step hX k (by simp; omega)).2 (by simp; omega)
    rw [a1, a2, b1, b2, i1, i2, set2_at (show k < l.length by omega)]
    by_cases h1 : q = k
    · subst h1
      rw [if_pos rfl, if_neg (Nat.lt_irrefl q), if_neg (Nat.lt_irrefl q), if_pos (Nat.lt_succ_self q), if_pos (Nat.lt_succ_self q)]
      by_cases h2 : p < q
      · rw [if_pos h2, if_pos h2, if_pos (by omega), if_pos (by omega)]
        constructor <;> omega
      · rw [if_neg h2, if_neg h2, if_neg (by omega), if_neg (by omega)]
        constructor <;> omega
    · rw [if_neg h1]
      have e1 : (q < k + 1) = (q < k) := by apply propext; omega
      simp only [e1]
      by_cases h2 : p = k
      · subst h2
        rw [if_pos rfl, if_neg (Nat.lt_irrefl p), if_neg (Nat.lt_irrefl p), if_pos (Nat.lt_succ_self p), if_pos (Nat.lt_succ_self p)]
        constructor <;> omega
      · rw [if_neg h2]
        have e2 : (p < k + 1) = (p < k) := by apply propext; omega
        simp only [e2]
        constructor <;> omega
theorem kilos_ge {l : List Bittern} (hl : areBitterns l = true) {i : Nat} : ∀ k, k ≤ l.length → i < k → l[i]!.kilos ≤ kilosTo l k
  | 0, _, h => by omega
  | k + 1, hk, h => by
    obtain ⟨⟨r1, _⟩, st⟩ := kg_step hl k (by omega)
    obtain ⟨a1, _⟩ := st (by omega)
    rw [a1]
    by_cases e : i = k
    · subst e; omega
    · have := kilos_ge (i := i) hl k (by omega) (by omega)
      have hx : l[k]? = some l[k]! := someB_at (by omega)
      have := (bitternOK_at (areBitterns_ok hl hx)).2.1.1
      omega
/-- What the law asks of a pour. -/
structure Poured (l X : List Bittern) : Prop where
  one : areBitterns l = true
  two : areBitterns X = true
  len : X.length = l.length
  less : gramsTo X l.length ≤ gramsTo l l.length
  same : kilosTo l l.length = kilosTo X l.length
  rest : gramsTo l l.length - gramsTo X l.length ≤ kilosTo X l.length
theorem poured {l : List Bittern} {f t : Int} (h : pourOK l f t = true) : Poured l (pourP l f t) := by
  have h0 := h
  unfold pourOK at h
  rw [Bool.and_eq_true] at h
  obtain ⟨h1, h2⟩ := h
  unfold pourG at h1
  simp only [Bool.and_eq_true, decide_eq_true_eq, Bool.not_eq_true', decide_eq_false_iff_not] at h1
  obtain ⟨ha, hi, hk, hne, hx0, hy0⟩ := h1
  obtain ⟨p, hp, hpl, _⟩ := bitPlace_lt (l := l) (id := f) rfl hi
  obtain ⟨q, hq, hql, _⟩ := bitPlace_lt (l := l) (id := t) rfl hk
  have e1 : pourP l f t = pourAt l p q := by unfold pourP; rw [if_pos h0, hp, hq]; rfl
  rw [hp, hq] at h2 hne
  rw [hp] at hx0
  rw [hq] at hy0
  simp only [Int.toNat_natCast] at h2 hx0 hy0
  have hpq : p ≠ q := by omega
  rw [e1]
  have hxo := areBitterns_ok ha (someB_at hpl)
  have hyo := areBitterns_ok ha (someB_at hql)
  obtain ⟨s1, s2, s3, s4⟩ := two_sums hxo hyo
  obtain ⟨_, ⟨x1, _⟩, _⟩ := bitternOK_at hxo
  obtain ⟨_, ⟨y1, _⟩, _⟩ := bitternOK_at hyo
  unfold pourAt at h2 ⊢
  obtain ⟨t1, t2⟩ := set2_sums hpq ha h2 l.length (Nat.le_refl _)
  rw [if_pos hpl, if_pos hql] at t1 t2
  have hge := kilos_ge h2 (i := q) l.length (by simp) hql
  rw [set2_at hql, if_pos rfl] at hge
  have f1 : (filled l[p]! l[q]!).kilos = kilosTo [l[p]!, l[q]!] 2 := rfl
  have f2 : (filled l[p]! l[q]!).bitter = (gramsTo [l[p]!, l[q]!] 2).tdiv (kilosTo [l[p]!, l[q]!] 2) := rfl
  have f3 : (emptied l[p]!).kilos = 0 := rfl
  rw [f1] at hge
  rw [f1, f3] at t1
  rw [f1, f2, f3, Int.zero_mul] at t2
  generalize gramsTo [l[p]!, l[q]!] 2 = G at *
  generalize kilosTo [l[p]!, l[q]!] 2 = K at *
  have hK : 0 < K := by omega
  have d1 := Int.mul_tdiv_add_tmod G K
  have d2 := Int.tmod_nonneg K s3
  have d3 := Int.tmod_lt_of_pos G hK
  generalize G.tdiv K = D at *
  generalize G.tmod K = R at *
  generalize hKD : K * D = KD at *
  generalize l[p]!.kilos * l[p]!.bitter = u at *
  generalize l[q]!.kilos * l[q]!.bitter = v at *
  refine ⟨ha, h2, by simp, ?_, ?_, ?_⟩
  · omega
  · omega
  · omega
/-- The bitterest of the first k casks: its place, and that no mean is above it. -/
theorem best_inv {l : List Bittern} (hl : areBitterns l = true) : ∀ k, k ≤ l.length →
    ((bitA l k).1 = 0 ∧ (bitA l k).2 = -1 ∧ kilosTo l k = 0 ∧ gramsTo l k = 0) ∨
    ((∃ j, j < k ∧ (bitA l k).1 = l[j]!.id ∧ (bitA l k).2 = l[j]!.bitter) ∧ 0 ≤ (bitA l k).2 ∧ 0 < kilosTo l k ∧ gramsTo l k ≤ (bitA l k).2 * kilosTo l k)
  | 0, _ => Or.inl (by simp [bitA, kilosTo, gramsTo, loopTo])
  | k + 1, hk => by
    have ih := best_inv hl k (by omega)
    obtain ⟨⟨r1, _, r3, _⟩, st⟩ := kg_step hl k (by omega)
    obtain ⟨a1, a2, _, _⟩ := st (by omega)
    obtain ⟨_, ⟨x1, _⟩, ⟨x3, _⟩⟩ := bitternOK_at (areBitterns_ok hl (someB_at (show k < l.length by omega)))
    have hs := bitA_succ l k
    rw [a1, a2]
    by_cases hc : 0 < l[k]!.kilos ∧ (bitA l k).2 < l[k]!.bitter
    · rw [if_pos hc] at hs
      rw [hs]
      dsimp only
      refine Or.inr ⟨⟨k, by omega, rfl, rfl⟩, x3, by omega, ?_⟩
      have e : l[k]!.bitter * (kilosTo l k + l[k]!.kilos) = l[k]!.bitter * kilosTo l k + l[k]!.kilos * l[k]!.bitter := by rw [Int.mul_add, Int.mul_comm l[k]!.bitter l[k]!.kilos]
      rw [e]
      rcases ih with ⟨_, _, i3, i4⟩ | ⟨_, _, i3, i4⟩
      · rw [i3, i4]; simp
      · have := Int.mul_le_mul_of_nonneg_right (show (bitA l k).2 ≤ l[k]!.bitter by omega) r1
        omega
    · rw [if_neg hc] at hs
      rw [hs]
      rcases ih with ⟨i1, i2, i3, i4⟩ | ⟨⟨j, hj, j1, j2⟩, i2, i3, i4⟩
      · have h0 : l[k]!.kilos = 0 := by omega
        exact Or.inl ⟨i1, i2, by rw [i3, h0]; rfl, by rw [i4, h0]; simp⟩
      · refine Or.inr ⟨⟨j, by omega, j1, j2⟩, i2, by omega, ?_⟩
        rw [Int.mul_add]
        have hm : l[k]!.kilos * l[k]!.bitter ≤ (bitA l k).2 * l[k]!.kilos := by
          rw [Int.mul_comm (bitA l k).2]
          by_cases h0 : l[k]!.kilos = 0
          · rw [h0]; simp
          · exact Int.mul_le_mul_of_nonneg_left (by omega) x1
        omega
theorem best_mean (l : List Bittern) : bestBOK l = meanOK l := by
  unfold bestBOK meanOK
  cases h : areBitterns l
  · rfl
  · rw [Bool.true_and, Bool.true_and]
    rcases best_inv h l.length (Nat.le_refl _) with ⟨i1, _, i3, _⟩ | ⟨⟨j, hj, j1, _⟩, _, i3, _⟩
    · rw [i1, i3]; rfl
    · have := (bitternOK_at (areBitterns_ok h (someB_at hj))).1.1
      rw [decide_eq_true (by omega), decide_eq_false (by omega)]; rfl
theorem mean_le {l : List Bittern} (h : meanOK l = true) {i : Nat} (hi : i < l.length) (he : l[i]!.id = bestB l) : meanN l ≤ l[i]!.bitter * meanD l ∧ 0 ≤ meanD l ∧ meanD l ≤ 80000 := by
  have ha : areBitterns l = true := by simp [meanOK] at h; exact h.1
  have h0 : kilosTo l l.length ≠ 0 := by simp [meanOK] at h; exact h.2
  obtain ⟨K, G, hK, hG, hk8, hg8⟩ := kg_rng ha
  have e1 : meanN l = ((G / Nat.gcd G K : Nat) : Int) := by unfold meanN; rw [if_pos h, hK, hG]; rfl
  have e2 : meanD l = ((K / Nat.gcd G K : Nat) : Int) := by unfold meanD; rw [if_pos h, hK, hG]; rfl
  have e3 : bestB l = (bitA l l.length).1 := by unfold bestB; rw [if_pos ha]
  rcases best_inv ha l.length (Nat.le_refl _) with ⟨_, _, i3, _⟩ | ⟨⟨j, hj, j1, j2⟩, i2, i3, i4⟩
  · exact absurd i3 h0
  · have hij : i = j := by
      rw [e3, j1] at he
      rcases Nat.lt_trichotomy i j with c | c | c
      · have := bitternId_inc ha c hj; omega
      · exact c
      · have := bitternId_inc ha c hi; omega
    subst hij
    rw [j2, hK, hG] at i4
    rw [hK] at i3
    rw [e1, e2]
    have hd := Nat.div_le_self K (Nat.gcd G K)
    obtain ⟨b, hb⟩ : ∃ b : Nat, l[i]!.bitter = b := ⟨l[i]!.bitter.toNat, by omega⟩
    rw [hb] at i4 ⊢
    have hg : 0 < Nat.gcd G K := Nat.gcd_pos_of_pos_right _ (by omega)
    have i5 : G ≤ b * K := by exact_mod_cast i4
    have i6 : G / Nat.gcd G K ≤ b * (K / Nat.gcd G K) := by
      rw [← Nat.mul_div_assoc b (Nat.gcd_dvd_right G K)]
      exact Nat.div_le_div_right i5
    refine ⟨by exact_mod_cast i6, Int.natCast_nonneg _, ?_⟩
    generalize K / Nat.gcd G K = z at *
    omega
end Go.Proofs.YtcajgadgdjopdaaDoor
