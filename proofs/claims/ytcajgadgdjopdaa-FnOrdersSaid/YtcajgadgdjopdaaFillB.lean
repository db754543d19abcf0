/- Orders of bittern, plainly: the reference's search for the most that a cask may give. -/
import Derived.Test.YtcajgadgdjopdaaFillS
namespace Go.Proofs.Ytcajgadgdjopdaa
open Go.RowKit
theorem bestV_of {T : List Bittern} {k : Int} (h0 : leftT T k = 0) : bestV T k = gainT T k := by
  unfold bestV
  rw [if_neg (by omega)]
theorem bestV_rng {T : List Bittern} {k : Int} (h : OkT T) (hk : 0 ≤ k) : -1 ≤ bestV T k ∧ bestV T k ≤ 1000 * k := by
  have := gain_rng h hk
  have hl := left_room h hk
  unfold bestV
  split <;> omega
theorem best_lt {T : List Bittern} {k g : Int} (h : OkT T) (hk : 0 ≤ k) (hg : 0 ≤ g) : decide (bestV T k < g) = !(decide (leftT T k = 0) && decide (g ≤ gainT T k)) := by
  have hl := left_room h hk
  unfold bestV
  by_cases c : 0 < leftT T k
  · rw [if_pos c, decide_eq_false (show ¬ leftT T k = 0 by omega), Bool.false_and]
    by_cases c2 : (-1 : Int) < g
    · rw [decide_eq_true c2]; rfl
    · omega
  · rw [if_neg c, decide_eq_true (show leftT T k = 0 by omega), Bool.true_and]
    by_cases c2 : g ≤ gainT T k
    · rw [decide_eq_true c2, decide_eq_false (by omega)]; rfl
    · rw [decide_eq_false c2, decide_eq_true (by omega)]; rfl
theorem bin_start {T : List Bittern} {x : Bittern} {k g : Int} (h : OkT (x :: T)) (hb : ∀ y ∈ T, x.bitter ≤ y.bitter) (hf : FeasS (x :: T) (k, g)) {p : Nat} (hp : (p : Int) = max 0 (k - roomT T)) :
    feasB T x k g p = true ∧ (p : Int) ≤ min k x.kilos := by
  obtain ⟨p1, p2⟩ := pick_feas h hf
  obtain ⟨_, hT⟩ := okT_cons h
  have hk : 0 ≤ k := hf.1
  have hr := room_rng hT
  generalize pickN T x k g = a at p1 p2
  have h0 := (feas_iff.1 p2).1
  rw [left_room hT (by omega)] at h0
  obtain ⟨d, rfl⟩ : ∃ d, a = p + d := ⟨a - p, by omega⟩
  exact ⟨feas_mono hT hb (by rw [left_room hT (by omega)]; omega) d (by omega) p2, by omega⟩
theorem bin_left {T : List Bittern} {x : Bittern} {k g : Int} {p m : Nat} (h : OkT T) (hp : feasB T x k g p = true) (hm : p ≤ m) (hk : (m : Int) ≤ k) : leftT T (k - m) = 0 := by
  have h0 := (feas_iff.1 hp).1
  rw [left_room h (by omega)] at h0 ⊢
  omega
theorem bin_test {T : List Bittern} {x : Bittern} {k g : Int} {p m : Nat} (h : OkT T) (hp : feasB T x k g p = true) (hm : p ≤ m) (hk : (m : Int) ≤ k) : decide (g ≤ bestV T (k - m) + m * x.bitter) = feasB T x k g m := by
  have h0 := bin_left h hp hm hk
  rw [bestV_of h0, feasB, decide_eq_true h0, Bool.true_and]
  exact decide_eq_decide.2 (by omega)
theorem bin_above {T : List Bittern} {x : Bittern} {k g : Int} {p m M : Nat} (h : OkT T) (hb : ∀ y ∈ T, x.bitter ≤ y.bitter) (hp : feasB T x k g p = true) (hm : p < m) (hM : (M : Int) ≤ k) (hn : feasB T x k g m = false) :
    ∀ j, m - 1 ≤ j → j < M → feasB T x k g (j + 1) = false := fun j h1 h2 => by
  cases he : feasB T x k g (j + 1) with
  | false => rfl
  | true =>
    obtain ⟨d, hd⟩ : ∃ d, j + 1 = m + d := ⟨j + 1 - m, by omega⟩
    rw [hd] at he
    have := feas_mono h hb (bin_left h hp (show p ≤ m by omega) (by omega)) d (by omega) he
    rw [this] at hn
    cases hn
theorem bin_end {T : List Bittern} {x : Bittern} {k g : Int} {p M : Nat} (hM : min k x.kilos = M) (hp : feasB T x k g p = true) (hle : p ≤ M) (ha : ∀ j, p ≤ j → j < M → feasB T x k g (j + 1) = false) : pickN T x k g = p := by
  unfold pickN
  rw [hM, Int.toNat_natCast]
  exact posDown_eq _ (fun q hq => by rw [← hq, hp]; rfl) M hle (fun j h1 h2 => by rw [ha j h1 h2]; rfl)
end Go.Proofs.Ytcajgadgdjopdaa
