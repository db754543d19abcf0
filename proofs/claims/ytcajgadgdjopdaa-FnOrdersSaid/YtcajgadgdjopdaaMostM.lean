/- Orders of bittern, plainly: as much as possible that is bitter enough, and which orders can be filled. -/
import Derived.Test.YtcajgadgdjopdaaFillI
namespace Go.Proofs.Ytcajgadgdjopdaa
open Go.RowKit
/-- One cask, the bitterest first: kilograms taken and bitter grams to spare. -/
def numM (h : Int) (s : Int × Int) (b : Bittern) : Int := if b.bitter < h then min b.kilos (wrap64 (s.2.tdiv (h - b.bitter))) else b.kilos
def stepM (h : Int) (s : Int × Int) (b : Bittern) : Int × Int := (wrap64 (s.1 + numM h s b), wrap64 (s.2 + wrap64 (numM h s b * (b.bitter - h))))
def foldM (h : Int) (T : List Bittern) : Int × Int := T.foldr (fun b s => stepM h s b) (0, 0)
theorem foldM_cons (h : Int) (b : Bittern) (T : List Bittern) : foldM h (b :: T) = stepM h (foldM h T) b := rfl
def mostOK (l : List Bittern) (h : Int) : Bool := areBitterns l && inB h 0 1000
def mostP (l : List Bittern) (h : Int) : Int := if mostOK l h then (foldM h (sorted l)).1 else 0
theorem most_no {l : List Bittern} {h : Int} (q : mostOK l h = false) : mostP l h = 0 := by simp [mostP, q]
theorem gain_ge : ∀ {T : List Bittern} {k h : Int}, OkT T → (∀ x ∈ T, h ≤ x.bitter) → 0 ≤ h → 0 ≤ k → k ≤ roomT T → h * k ≤ gainT T k
  | [], k, h, _, _, _, k0, k1 => by
    simp only [roomT] at k1
    obtain rfl : k = 0 := by omega
    simp [gainT]
  | b :: T, k, h, hT, hb, h0, k0, k1 => by
    obtain ⟨o1, o2⟩ := okT_cons hT
    rw [roomT] at k1
    have hr := room_rng o2
    rw [gainT]
    have hbb := hb b (by simp)
    have hbT : ∀ x ∈ T, h ≤ x.bitter := fun x hx => hb x (by simp [hx])
    rw [left_room o2 k0]
    by_cases c : k ≤ roomT T
    · have ih := gain_ge o2 hbT h0 k0 c
      rw [show min (max 0 (k - roomT T)) b.kilos = 0 by omega, Int.zero_mul]
      omega
    · have ih := gain_ge o2 hbT h0 hr.1 (Int.le_refl (roomT T))
      rw [gain_cap o2 (show roomT T ≤ k by omega), show min (max 0 (k - roomT T)) b.kilos = k - roomT T by omega]
      have e : h * k = h * roomT T + h * (k - roomT T) := by rw [← Int.mul_add]; congr 1; omega
      have m := Int.mul_le_mul_of_nonneg_right hbb (show 0 ≤ k - roomT T by omega)
      rw [e, Int.mul_comm (k - roomT T)]
      omega
theorem gain_cons_low {b : Bittern} {T : List Bittern} {k : Int} (h : OkT (b :: T)) (k0 : 0 ≤ k) (k1 : k ≤ roomT T) : gainT (b :: T) k = gainT T k := by
  obtain ⟨o1, o2⟩ := okT_cons h
  rw [gainT, left_room o2 k0, show min (max 0 (k - roomT T)) b.kilos = 0 by omega, Int.zero_mul, Int.add_zero]
theorem gain_cons_high {b : Bittern} {T : List Bittern} {j : Int} (h : OkT (b :: T)) (j0 : 0 ≤ j) (j1 : j ≤ b.kilos) : gainT (b :: T) (roomT T + j) = gainT T (roomT T) + j * b.bitter := by
  obtain ⟨o1, o2⟩ := okT_cons h
  have hr := room_rng o2
  rw [gainT, left_room o2 (by omega), gain_cap o2 (show roomT T ≤ roomT T + j by omega), show min (max 0 (roomT T + j - roomT T)) b.kilos = j by omega]
/-- What the greedy filling has come to. -/
structure Most (h : Int) (T : List Bittern) (K S : Int) : Prop where
  k0 : 0 ≤ K
  kr : K ≤ roomT T
  s0 : 0 ≤ S
  se : S = gainT T K - h * K
  iff : ∀ k, 0 ≤ k → k ≤ roomT T → (h * k ≤ gainT T k ↔ k ≤ K)
  stuck : K < roomT T → ∃ x ∈ T, x.bitter < h ∧ S < h - x.bitter
theorem most_fold {h : Int} (h0 : 0 ≤ h) (h1 : h ≤ 1000) : ∀ {T : List Bittern}, OkT T → T.length ≤ 8 → List.Pairwise (fun a b => a.bitter ≤ b.bitter) T → Most h T (foldM h T).1 (foldM h T).2
  | [], _, _, _ => by
    refine ⟨by simp [foldM], by simp [foldM, roomT], by simp [foldM], by simp [foldM, gainT], fun k k0 k1 => ?_, fun q => by simp [foldM, roomT] at q⟩
    simp only [roomT] at k1
    obtain rfl : k = 0 := by omega
    simp [foldM, gainT]
  | b :: T, hT, hl, hp => by
    obtain ⟨o1, o2⟩ := okT_cons hT
    rw [List.pairwise_cons] at hp
    rw [List.length_cons] at hl
    obtain ⟨k0, kr, s0, se, hiff, hst⟩ := most_fold h0 h1 o2 (by omega) hp.2
    have hr := room_rng o2
    rw [foldM_cons]
    generalize hK : (foldM h T).1 = K at *
    generalize hS : (foldM h T).2 = S at *
    have hKS : foldM h T = (K, S) := by rw [← hK, ← hS]
    rw [hKS]
    clear hK hS hKS
    have hrl : roomT T ≤ 80000 := by omega
    have hg := gain_rng o2 k0
    have hlr := left_room o2 k0
    have mk := Int.mul_nonneg h0 k0
    have hSb : S ≤ 1000 * 80000 := by omega
    -- the number that is taken
    obtain ⟨n, hn⟩ : ∃ n, numM h (K, S) b = n := ⟨_, rfl⟩
    have key : 0 ≤ n ∧ n ≤ b.kilos ∧ (b.bitter < h → n * (h - b.bitter) ≤ S ∧ (n < b.kilos → S < (n + 1) * (h - b.bitter))) ∧ (h ≤ b.bitter → n = b.kilos) := by
      unfold numM at hn
      by_cases c : b.bitter < h
      · rw [if_pos c] at hn
        dsimp only at hn
        have hd : 0 < h - b.bitter := by omega
        obtain ⟨d, hd'⟩ : ∃ d, h - b.bitter = d := ⟨_, rfl⟩
        rw [hd'] at hn hd ⊢
        rw [Int.tdiv_eq_ediv_of_nonneg s0] at hn
        have q0 : 0 ≤ S / d := Int.ediv_nonneg s0 (by omega)
        have q1 : S / d ≤ S := Int.ediv_le_self _ s0
        have e1 := Int.mul_ediv_add_emod S d
        have e2 := Int.emod_nonneg S (show d ≠ 0 by omega)
        have e3 := Int.emod_lt_of_pos S hd
        obtain ⟨q, hq⟩ : ∃ q, S / d = q := ⟨_, rfl⟩
        rw [hq] at hn q0 q1 e1
        have w : wrap64 q = q := by unfold wrap64; omega
        rw [w] at hn
        refine ⟨by omega, by omega, fun _ => ⟨?_, fun hlt => ?_⟩, fun hh => by omega⟩
        · have : n * d ≤ q * d := Int.mul_le_mul_of_nonneg_right (by omega) (by omega)
          rw [Int.mul_comm q d] at this
          omega
        · obtain rfl : n = q := by omega
          rw [Int.add_mul, Int.one_mul, Int.mul_comm n d]
          omega
      · rw [if_neg c] at hn
        exact ⟨by omega, by omega, fun q => absurd q c, fun _ => hn.symm⟩
    obtain ⟨n0, n1, n2, n3⟩ := key
    have mb : n * (b.bitter - h) = - (n * (h - b.bitter)) := by rw [← Int.mul_neg]; congr 1; omega
    have hm1 : n * (b.bitter - h) ≤ 10000000 ∧ -80000000 ≤ n * (b.bitter - h) := by
      rcases Int.lt_or_le b.bitter h with c | c
      · have m0 := Int.mul_nonneg n0 (show 0 ≤ h - b.bitter by omega)
        have := (n2 c).1
        omega
      · have m0 := Int.mul_nonneg n0 (show 0 ≤ b.bitter - h by omega)
        have m1 : n * (b.bitter - h) ≤ 10000 * 1000 := Int.mul_le_mul (by omega) (by omega) (by omega) (by omega)
        omega
    have e : stepM h (K, S) b = (K + n, S + n * (b.bitter - h)) := by
      unfold stepM
      rw [hn]
      generalize n * (b.bitter - h) = z at hm1 ⊢
      dsimp only
      have w1 : wrap64 (K + n) = K + n := by unfold wrap64; omega
      have w2 : wrap64 z = z := by unfold wrap64; omega
      have w3 : wrap64 (S + z) = S + z := by unfold wrap64; omega
      rw [w1, w2, w3]
    rw [e]
    dsimp only
    clear e hn hm1
    have low : ∀ k, 0 ≤ k → k ≤ roomT T → (h * k ≤ gainT (b :: T) k ↔ k ≤ K) := fun k a1 a2 => by rw [gain_cons_low hT a1 a2]; exact hiff k a1 a2
    have hmul : ∀ j, h * (roomT T + j) = h * roomT T + h * j := fun j => Int.mul_add _ _ _
    rcases Int.lt_or_le K (roomT T) with c | c
    · -- stuck already
      obtain ⟨x, hx, hx1, hx2⟩ := hst c
      have hbx := hp.1 x hx
      have hbh : b.bitter < h := by omega
      have hn0 : n = 0 := by
        rcases Int.lt_or_le 0 n with q | q
        · have m : 1 * (h - b.bitter) ≤ n * (h - b.bitter) := Int.mul_le_mul_of_nonneg_right (by omega) (by omega)
          have := (n2 hbh).1
          omega
        · omega
      subst hn0
      rw [Int.zero_mul, Int.add_zero, Int.add_zero]
      refine ⟨k0, by rw [roomT]; omega, s0, by rw [gain_cons_low hT k0 kr]; exact se, fun k a1 a2 => ?_, fun _ => ⟨x, by simp [hx], hx1, hx2⟩⟩
      rw [roomT] at a2
      by_cases q : k ≤ roomT T
      · exact low k a1 q
      · obtain ⟨j, hj⟩ : ∃ j, k = roomT T + j := ⟨k - roomT T, by omega⟩
        subst hj
        rw [gain_cons_high hT (by omega) (by omega), hmul]
        have hF := hiff (roomT T) hr.1 (Int.le_refl _)
        have m : j * b.bitter ≤ j * h := Int.mul_le_mul_of_nonneg_left (by omega) (by omega)
        rw [Int.mul_comm j h] at m
        constructor
        · intro h5
          have := hF.1 (by omega)
          omega
        · intro h5
          omega
    · obtain rfl : K = roomT T := by omega
      have hge : gainT (b :: T) (roomT T + n) = gainT T (roomT T) + n * b.bitter := gain_cons_high hT n0 n1
      have hsub : n * (b.bitter - h) = n * b.bitter - h * n := by rw [Int.mul_sub, Int.mul_comm n h]
      have hsub2 : n * (h - b.bitter) = h * n - n * b.bitter := by rw [Int.mul_sub, Int.mul_comm n h]
      have all : h * roomT T ≤ gainT T (roomT T) := (hiff _ hr.1 (Int.le_refl _)).2 (Int.le_refl _)
      rcases Int.lt_or_le b.bitter h with c2 | c2
      · obtain ⟨m1, m2⟩ := n2 c2
        refine ⟨by omega, by rw [roomT]; omega, by omega, by rw [hge, hmul]; omega, fun k a1 a2 => ?_, fun q => ⟨b, by simp, c2, ?_⟩⟩
        · rw [roomT] at a2
          by_cases q : k ≤ roomT T
          · have := low k a1 q
            constructor
            · intro h5; have := this.1 h5; omega
            · intro h5; exact this.2 q
          · obtain ⟨j, hj⟩ : ∃ j, k = roomT T + j := ⟨k - roomT T, by omega⟩
            subst hj
            rw [gain_cons_high hT (by omega) (by omega), hmul]
            have e2 : j * (h - b.bitter) = h * j - j * b.bitter := by rw [Int.mul_sub, Int.mul_comm j h]
            constructor
            · intro h5
              rcases Int.lt_or_le n j with q2 | q2
              · have m3 := m2 (by omega)
                have m4 : (n + 1) * (h - b.bitter) ≤ j * (h - b.bitter) := Int.mul_le_mul_of_nonneg_right (by omega) (by omega)
                omega
              · omega
            · intro h5
              have m4 : j * (h - b.bitter) ≤ n * (h - b.bitter) := Int.mul_le_mul_of_nonneg_right (by omega) (by omega)
              omega
        · rw [roomT] at q
          have m3 := m2 (by omega)
          rw [Int.add_mul, Int.one_mul] at m3
          omega
      · have hnb := n3 c2
        have m0 := Int.mul_nonneg n0 (show 0 ≤ b.bitter - h by omega)
        have hb : ∀ x ∈ b :: T, h ≤ x.bitter := fun x hx => by
          rcases List.mem_cons.1 hx with rfl | hx
          · exact c2
          · have := hp.1 x hx; omega
        refine ⟨by omega, by rw [roomT]; omega, by omega, by rw [hge, hmul]; omega, fun k a1 a2 => ?_, fun q => by rw [roomT] at q; omega⟩
        have := gain_ge hT hb h0 a1 a2
        rw [roomT] at a2
        constructor
        · intro _; omega
        · intro _; exact this
theorem sorted_pw (l : List Bittern) : List.Pairwise (fun a b => a.bitter ≤ b.bitter) (sorted l) := by
  rw [List.pairwise_iff_getElem]
  intro i j hi hj hij
  have := insToB_asc l l.length i j hij (by unfold sorted at hj; exact hj)
  rwa [getElem!_pos _ i hi, getElem!_pos _ j hj] at this
/-- An order can be filled just where it asks for no more than the most. -/
theorem fill_most {l : List Bittern} {k h : Int} (hm : mostOK l h = true) (k0 : 1 ≤ k) (k1 : k ≤ 100000) : fillOK l k h = decide (k ≤ mostP l h) := by
  have hm' := hm
  simp only [mostOK, inB, Bool.and_eq_true, decide_eq_true_eq] at hm'
  obtain ⟨hA, h0, h1⟩ := hm'
  have hS := sorted_ok hA
  obtain ⟨m0, mr, s0, se, hiff, _⟩ := most_fold h0 h1 hS (by rw [sorted_length]; exact areBitterns_len hA) (sorted_pw l)
  have ha : askedB l k h = true := by simp only [askedB, inB, Bool.and_eq_true, decide_eq_true_eq]; exact ⟨hA, by omega, by omega⟩
  unfold fillOK mostP
  rw [ha, hm, if_pos rfl, Bool.true_and, left_room hS (by omega)]
  by_cases c : k ≤ roomT (sorted l)
  · rw [decide_eq_true (show max 0 (k - roomT (sorted l)) = 0 by omega), Bool.true_and, Int.mul_comm k h]
    exact decide_eq_decide.2 (hiff k (by omega) c)
  · rw [decide_eq_false (show ¬ max 0 (k - roomT (sorted l)) = 0 by omega), Bool.false_and]
    exact (decide_eq_false (by omega)).symm
theorem most_rng (l : List Bittern) (h : Int) : 0 ≤ mostP l h ∧ mostP l h ≤ 80000 := by
  cases hm : mostOK l h with
  | false => rw [most_no hm]; omega
  | true =>
    have hm' := hm
    simp only [mostOK, inB, Bool.and_eq_true, decide_eq_true_eq] at hm'
    obtain ⟨hA, h0, h1⟩ := hm'
    have hS := sorted_ok hA
    have hl := areBitterns_len hA
    obtain ⟨m0, mr, _⟩ := most_fold h0 h1 hS (by rw [sorted_length]; exact hl) (sorted_pw l)
    have hr := room_rng hS
    rw [sorted_length] at hr
    unfold mostP
    rw [hm, if_pos rfl]
    omega
end Go.Proofs.Ytcajgadgdjopdaa
