/- Orders of bittern, plainly: filling from the bitterest cask; the most that a cask may give; the order of the casks. -/
import Derived.Test.YtcajgadgdjopdaaBitternA
import Derived.Test.YtcajgadgdjopdaaSortB
namespace Go.Proofs.Ytcajgadgdjopdaa
open Go.RowKit
/-- Kilograms still asked, and grams given, when casks are emptied from the last one on. -/
def leftT : List Bittern → Int → Int
  | [], k => k
  | b :: T, k => leftT T k - min (leftT T k) b.kilos
def gainT : List Bittern → Int → Int
  | [], _ => 0
  | b :: T, k => gainT T k + min (leftT T k) b.kilos * b.bitter
def roomT : List Bittern → Int
  | [] => 0
  | b :: T => roomT T + b.kilos
def OkT (T : List Bittern) : Prop := ∀ x ∈ T, (0 ≤ x.kilos ∧ x.kilos ≤ 10000) ∧ (0 ≤ x.bitter ∧ x.bitter ≤ 1000)
theorem okT_cons {b : Bittern} {T : List Bittern} (h : OkT (b :: T)) : ((0 ≤ b.kilos ∧ b.kilos ≤ 10000) ∧ (0 ≤ b.bitter ∧ b.bitter ≤ 1000)) ∧ OkT T :=
  ⟨h b (by simp), fun x hx => h x (by simp [hx])⟩
theorem room_rng : ∀ {T : List Bittern}, OkT T → 0 ≤ roomT T ∧ roomT T ≤ 10000 * T.length
  | [], _ => by simp [roomT]
  | b :: T, h => by
    obtain ⟨h1, h2⟩ := okT_cons h
    have := room_rng h2
    rw [roomT, List.length_cons]
    omega
theorem left_room : ∀ {T : List Bittern} {k : Int}, OkT T → 0 ≤ k → leftT T k = max 0 (k - roomT T)
  | [], k, _, hk => by simp [leftT, roomT]; omega
  | b :: T, k, h, hk => by
    obtain ⟨h1, h2⟩ := okT_cons h
    rw [leftT, roomT, left_room h2 hk]
    omega
theorem gain_rng : ∀ {T : List Bittern} {k : Int}, OkT T → 0 ≤ k → 0 ≤ gainT T k ∧ gainT T k ≤ 1000 * (k - leftT T k)
  | [], k, _, hk => by simp [leftT, gainT]
  | b :: T, k, h, hk => by
    obtain ⟨h1, h2⟩ := okT_cons h
    have hr := gain_rng h2 hk
    have hl := left_room h2 hk
    rw [leftT, gainT]
    have hm : 0 ≤ min (leftT T k) b.kilos := by omega
    generalize min (leftT T k) b.kilos = m at *
    have m1 := Int.mul_nonneg hm h1.2.1
    have m2 := Int.mul_le_mul_of_nonneg_left h1.2.2 hm
    omega
theorem gain_cap : ∀ {T : List Bittern} {m : Int}, OkT T → roomT T ≤ m → gainT T m = gainT T (roomT T)
  | [], _, _, _ => rfl
  | b :: T, m, h, hm => by
    obtain ⟨h1, h2⟩ := okT_cons h
    have hr := room_rng h2
    rw [roomT] at hm ⊢
    rw [gainT, gainT, gain_cap h2 (show roomT T ≤ m by omega), gain_cap h2 (show roomT T ≤ roomT T + b.kilos by omega), left_room h2 (by omega), left_room h2 (by omega)]
    rw [show min (max 0 (m - roomT T)) b.kilos = b.kilos by omega, show min (max 0 (roomT T + b.kilos - roomT T)) b.kilos = b.kilos by omega]
theorem gain_step : ∀ {T : List Bittern} {m β : Int}, OkT T → (∀ x ∈ T, β ≤ x.bitter) → 0 ≤ m → m < roomT T → gainT T m + β ≤ gainT T (m + 1)
  | [], m, _, _, _, h0, h => by simp [roomT] at h; omega
  | b :: T, m, β, h, hb, h0, hlt => by
    obtain ⟨h1, h2⟩ := okT_cons h
    have hr := room_rng h2
    have hβ := hb b (by simp)
    rw [roomT] at hlt
    rw [gainT, gainT, left_room h2 h0, left_room h2 (show 0 ≤ m + 1 by omega)]
    by_cases c : m < roomT T
    · have ih := gain_step h2 (fun x hx => hb x (by simp [hx])) h0 c
      rw [show min (max 0 (m - roomT T)) b.kilos = 0 by omega, show min (max 0 (m + 1 - roomT T)) b.kilos = 0 by omega, Int.zero_mul]
      omega
    · rw [gain_cap h2 (show roomT T ≤ m by omega), gain_cap h2 (show roomT T ≤ m + 1 by omega)]
      rw [show min (max 0 (m - roomT T)) b.kilos = m - roomT T by omega, show min (max 0 (m + 1 - roomT T)) b.kilos = (m - roomT T) + 1 by omega, Int.add_mul, Int.one_mul]
      omega
/-- The cask b gives n kilograms, the casks T the rest. -/
def feasB (T : List Bittern) (b : Bittern) (k g : Int) (n : Nat) : Bool := decide (leftT T (k - n) = 0) && decide (g - n * b.bitter ≤ gainT T (k - n))
theorem feas_iff {T : List Bittern} {b : Bittern} {k g : Int} {n : Nat} : feasB T b k g n = true ↔ leftT T (k - n) = 0 ∧ g - n * b.bitter ≤ gainT T (k - n) := by simp [feasB]
theorem feas_down {T : List Bittern} {b : Bittern} {k g : Int} {n : Nat} (h : OkT T) (hb : ∀ x ∈ T, b.bitter ≤ x.bitter) (hn : (n : Int) + 1 ≤ k) (h0 : leftT T (k - n) = 0) (hf : feasB T b k g (n + 1) = true) : feasB T b k g n = true := by
  obtain ⟨f1, f2⟩ := feas_iff.1 hf
  rw [left_room h (by omega)] at h0
  have hs := gain_step h hb (show 0 ≤ k - (n + 1 : Nat) by omega) (by omega)
  rw [show k - ((n + 1 : Nat) : Int) + 1 = k - n by omega] at hs
  refine feas_iff.2 ⟨by rw [left_room h (by omega)]; exact h0, ?_⟩
  have e : ((n + 1 : Nat) : Int) * b.bitter = n * b.bitter + b.bitter := by push_cast; rw [Int.add_mul, Int.one_mul]
  rw [e] at f2
  omega
theorem feas_mono {T : List Bittern} {b : Bittern} {k g : Int} {a : Nat} (h : OkT T) (hb : ∀ x ∈ T, b.bitter ≤ x.bitter) (h0 : leftT T (k - a) = 0) : ∀ d : Nat, ((a + d : Nat) : Int) ≤ k → feasB T b k g (a + d) = true → feasB T b k g a = true
  | 0, _, hf => hf
  | d + 1, hk, hf => by
    refine feas_mono h hb h0 d (by omega) (feas_down h hb (by omega) ?_ hf)
    rw [left_room h (by omega)] at h0 ⊢
    omega
/-- The most that cask b may give. -/
def pickN (T : List Bittern) (b : Bittern) (k g : Int) : Nat := posDown (fun j => !feasB T b k g (j + 1)) (min k b.kilos).toNat
theorem posDown_low' (q : Nat → Bool) : ∀ k j, posDown q k ≤ j → j < k → q j = true
  | 0, j, _, h => by omega
  | k + 1, j, h, hj => by
    unfold posDown at h
    split at h
    · rename_i hq
      rcases Nat.lt_or_ge j k with h1 | h1
      · exact posDown_low' q k j h h1
      · obtain rfl : j = k := by omega
        exact hq
    · omega
theorem posDown_stop' (q : Nat → Bool) : ∀ k p, posDown q k = p + 1 → q p = false
  | 0, p, h => by cases h
  | k + 1, p, h => by
    unfold posDown at h
    split at h
    · exact posDown_stop' q k p h
    · rename_i hq
      obtain rfl : k = p := by omega
      simpa using hq
theorem posDown_eq (q : Nat → Bool) {lo : Nat} (h1 : ∀ p, lo = p + 1 → q p = false) : ∀ m, lo ≤ m → (∀ j, lo ≤ j → j < m → q j = true) → posDown q m = lo
  | 0, h, _ => by simp [posDown]; omega
  | m + 1, h, h2 => by
    unfold posDown
    by_cases e : lo = m + 1
    · rw [if_neg (by rw [h1 m e]; simp), e]
    · rw [if_pos (h2 m (by omega) (by omega))]
      exact posDown_eq q h1 m (by omega) (fun j a b => h2 j a (by omega))
/-- An order that casks can fill. -/
def FeasS (T : List Bittern) (s : Int × Int) : Prop := 0 ≤ s.1 ∧ leftT T s.1 = 0 ∧ s.2 ≤ gainT T s.1
theorem pick_feas {T : List Bittern} {b : Bittern} {k g : Int} (h : OkT (b :: T)) (hf : FeasS (b :: T) (k, g)) : (pickN T b k g : Int) ≤ min k b.kilos ∧ feasB T b k g (pickN T b k g) = true := by
  obtain ⟨h1, h2⟩ := okT_cons h
  obtain ⟨f0, f1, f2⟩ := hf
  dsimp only at f0 f1 f2
  have hr := room_rng h2
  have hl := left_room h2 f0
  rw [leftT] at f1
  rw [gainT] at f2
  have hle := posDown_le (fun j => !feasB T b k g (j + 1)) (min k b.kilos).toNat
  refine ⟨by unfold pickN; omega, ?_⟩
  -- the least that the cask must give
  obtain ⟨n0, hn0⟩ : ∃ n0 : Nat, leftT T k = n0 := ⟨(leftT T k).toNat, by omega⟩
  have hfe : feasB T b k g n0 = true := by
    refine feas_iff.2 ⟨by rw [left_room h2 (by omega)]; omega, ?_⟩
    have hg : gainT T (k - n0) = gainT T k := by
      by_cases c : k ≤ roomT T
      · rw [show (n0 : Int) = 0 by omega, Int.sub_zero]
      · rw [gain_cap h2 (show roomT T ≤ k - n0 by omega), gain_cap h2 (show roomT T ≤ k by omega)]
    rw [hg]
    rw [hn0] at f2
    rw [show min (n0 : Int) b.kilos = n0 by omega] at f2
    omega
  cases hp : pickN T b k g with
  | zero =>
    rcases Nat.eq_zero_or_pos n0 with e | e
    · rw [e] at hfe; exact hfe
    · have hq := posDown_low' (fun j => !feasB T b k g (j + 1)) (min k b.kilos).toNat (n0 - 1) (by unfold pickN at hp; rw [hp]; omega) (by omega)
      rw [show n0 - 1 + 1 = n0 by omega, hfe] at hq
      cases hq
  | succ p =>
    have hq := posDown_stop' _ _ _ hp
    simpa using hq
/-- The state when the first i casks have given what they give. -/
def stA (S : List Bittern) (k g : Int) : Nat → Int × Int
  | 0 => (k, g)
  | i + 1 => ((stA S k g i).1 - (pickN (S.drop (i + 1)) S[i]! (stA S k g i).1 (stA S k g i).2 : Nat), (stA S k g i).2 - (pickN (S.drop (i + 1)) S[i]! (stA S k g i).1 (stA S k g i).2 : Nat) * S[i]!.bitter)
def amtA (S : List Bittern) (k g : Int) (i : Nat) : Nat := pickN (S.drop (i + 1)) S[i]! (stA S k g i).1 (stA S k g i).2
theorem drop_at {S : List Bittern} {i : Nat} (h : i < S.length) : S.drop i = S[i]! :: S.drop (i + 1) := by
  rw [List.drop_eq_getElem_cons h, getElem!_pos S i h]
theorem okT_drop {S : List Bittern} (h : OkT S) (i : Nat) : OkT (S.drop i) := fun x hx => h x (List.mem_of_mem_drop hx)
theorem stA_feas {S : List Bittern} {k g : Int} (h : OkT S) (hf : FeasS S (k, g)) : ∀ i, i ≤ S.length → FeasS (S.drop i) (stA S k g i)
  | 0, _ => hf
  | i + 1, hi => by
    have ih := stA_feas h hf i (by omega)
    have ho := okT_drop h i
    rw [drop_at (show i < S.length by omega)] at ih ho
    obtain ⟨p1, p2⟩ := pick_feas (k := (stA S k g i).1) (g := (stA S k g i).2) ho ih
    obtain ⟨f1, f2⟩ := feas_iff.1 p2
    exact ⟨by rw [stA]; dsimp only; omega, f1, f2⟩
/-! ### The order of the casks -/
def laterB (l : List Bittern) (S : List Int) (k : Nat) (j : Nat) : Bool := decide (l[k]!.bitter < l[S[j]!.toNat]!.bitter)
def ordTo (l : List Bittern) : Nat → List Int
  | 0 => []
  | k + 1 => insAt (ordTo l k) (posDown (laterB l (ordTo l k) k) k) k
theorem ordTo_length (l : List Bittern) : ∀ k, (ordTo l k).length = k
  | 0 => rfl
  | k + 1 => by rw [ordTo, insAt_length, ordTo_length l k]
theorem insAt_perm {α : Type} (S : List α) (p : Nat) (x : α) : (insAt S p x).Perm (x :: S) := by
  unfold insAt
  rw [List.append_assoc, List.singleton_append]
  have := @List.perm_middle α x (S.take p) (S.drop p)
  rwa [List.take_append_drop] at this
theorem ordTo_perm (l : List Bittern) : ∀ k, (ordTo l k).Perm ((List.range k).map fun (i : Nat) => (i : Int))
  | 0 => List.Perm.refl _
  | k + 1 => by
    rw [ordTo, List.range_succ, List.map_append]
    refine (insAt_perm _ _ _).trans ((List.Perm.cons _ (ordTo_perm l k)).trans ?_)
    exact (List.perm_append_comm (l₁ := (List.range k).map fun (i : Nat) => (i : Int)) (l₂ := [(k : Int)])).symm
theorem ordTo_rng {l : List Bittern} {k : Nat} {z : Int} (h : z ∈ ordTo l k) : 0 ≤ z ∧ z < k := by
  have := (ordTo_perm l k).mem_iff.1 h
  simp only [List.mem_map, List.mem_range] at this
  obtain ⟨i, hi, rfl⟩ := this
  omega
theorem ordTo_at {l : List Bittern} {k j : Nat} (hj : j < k) : ∃ q : Nat, q < k ∧ (ordTo l k)[j]? = some (q : Int) := by
  have hx : (ordTo l k)[j]? = some ((ordTo l k)[j]'(by rw [ordTo_length]; exact hj)) := List.getElem?_eq_getElem _
  have := ordTo_rng (List.getElem_mem (show j < (ordTo l k).length by rw [ordTo_length]; exact hj))
  refine ⟨((ordTo l k)[j]'(by rw [ordTo_length]; exact hj)).toNat, by omega, ?_⟩
  rw [hx]
  congr 1
  omega
theorem insAt_map {α β : Type} (f : α → β) (S : List α) (p : Nat) (x : α) : (insAt S p x).map f = insAt (S.map f) p (f x) := by
  simp [insAt, List.map_take, List.map_drop]
/-- The sorted copy is the list read in that order. -/
theorem ins_ord (l : List Bittern) : ∀ k, k ≤ l.length → insToB l k = (ordTo l k).map fun z => l[z.toNat]!
  | 0, _ => rfl
  | k + 1, hk => by
    have ih := ins_ord l k (by omega)
    rw [insToB, ordTo, insAt_map]
    have e : posDown (cheapPB l (insToB l k) k) k = posDown (laterB l (ordTo l k) k) k := posDown_congr fun j hj => by
      unfold cheapPB laterB
      rw [ih]
      obtain ⟨q, _, hq⟩ := ordTo_at (l := l) hj
      have hm : (List.map (fun z : Int => l[z.toNat]!) (ordTo l k))[j]! = l[(ordTo l k)[j]!.toNat]! := by
        rw [List.getElem!_eq_getElem?_getD, List.getElem?_map, hq, List.getElem!_of_getElem? hq]
        rfl
      rw [hm]
    rw [e, ih]
    simp
theorem ins_at {l : List Bittern} {j q : Nat} (h : (ordTo l l.length)[j]? = some (q : Int)) : (insToB l l.length)[j]? = some l[q]! := by
  rw [ins_ord l _ (Nat.le_refl _), List.getElem?_map, h]
  rfl
end Go.Proofs.Ytcajgadgdjopdaa
