/- A number's decimal text: spec.l1Num (by recursion) and impl.decimal (strconv.Itoa). -/
import Derived.Test.YtcajgadgdjopdaaDoorItoa
import Derived.Test.YtcajgadgdjopdaaDoorBase
import Derived.Lib.ItoaLen
namespace Go.Proofs.YtcajgadgdjopdaaDoor
open Go.RowKit
/-- The text of a number. -/
def numT (n : Nat) : ByteArray := ⟨(Lib.decDigits n).toArray⟩
/-- One digit. -/
def digitT (n : Nat) : ByteArray := ⟨#[UInt8.ofNat (48 + n)]⟩
theorem digitT_size (n : Nat) : (digitT n).size = 1 := rfl
theorem numT_size (n : Nat) (h : n ≤ 9223372036854775807) : (numT n).size ≤ 21 := by
  have := Lib.itoa_length_le (n : Int) (by omega) (by omega)
  unfold Lib.itoa at this
  rw [if_neg (by omega)] at this
  simpa [numT, ByteArray.size] using this
theorem digit_at : ∀ (n : Nat), n < 10 → ({ data := #[48, 49, 50, 51, 52, 53, 54, 55, 56, 57] } : ByteArray).extract n (n + 1) = digitT n
  | 0, _ | 1, _ | 2, _ | 3, _ | 4, _ | 5, _ | 6, _ | 7, _ | 8, _ | 9, _ => by kernel_rfl
  | n + 10, h => absurd h (by omega)
theorem numT_one {n : Nat} (h : n < 10) : numT n = digitT n := by
  unfold numT digitT
  rw [Lib.decDigits, dif_pos h]
theorem numT_more {n : Nat} (h : ¬ n < 10) : numT n = numT (n / 10) ++ digitT (n % 10) := by
  unfold numT digitT
  rw [Lib.decDigits, dif_neg h]
  apply ByteArray.ext
  simp
set_option maxHeartbeats 4000000 in
theorem l1Num_any (n : Nat) (w : World) (hn : n ≤ 4611686018427387904) :
    Calls Tryd.prog 33 #[.int .i64 n] w fun e w' => e = .returned (.string (numT n)) ∧ Below w.heap.size w w' := by
  by_cases hc : n < 10
  · have h1 : (n : Int) < 10 := by omega
    have h2 : ¬ (n : Int) < 0 := by omega
    go_enter Tryd.func33, Tryd.ntmps33
    go_wp2
    go_ret
    exact ⟨by rw [numT_one hc, ← digit_at n hc]; rfl, (by repeat (first | assumption | exact Below.refl _ _ | apply bl_gw | apply bl_alloc | apply bl_drewN | apply bl_drew))⟩
  · have h1 : ¬ (n : Int) < 10 := by omega
    have h2 : ¬ (n : Int) < 0 := by omega
    obtain ⟨q, hq⟩ : ∃ q, n / 10 = q := ⟨_, rfl⟩
    obtain ⟨r, hr⟩ : ∃ r, n % 10 = r := ⟨_, rfl⟩
    have hnt := numT_more hc
    rw [hq, hr] at hnt
    have hr10 : r < 10 := by omega
    have hrx := digit_at r hr10
    have IH := Lib.hid (fun W => l1Num_any (n / 10) W (by omega))
    rw [hq] at IH
    have e1 : (n : Int).tdiv 10 = (q : Int) := by rw [Int.tdiv_eq_ediv_of_nonneg (by omega)]; omega
    have e2 : (n : Int).tmod 10 = (r : Int) := by rw [Int.tmod_eq_emod_of_nonneg (by omega)]; omega
    have e4 : wrap64 (q : Int) = (q : Int) := by unfold wrap64; omega
    have e5 : wrap64 (r : Int) = (r : Int) := by unfold wrap64; omega
    have HNT := Lib.hid hnt
    have hsz := numT_size q (by omega)
    have hdz := digitT_size r
    clear hnt hq hr hn
    go_enter Tryd.func33, Tryd.ntmps33
    go_wp2
    refine wp_region_gw (by kernel_rfl) (by kernel_rfl) ?_
    repeat (first | go_big_quiet_step ((go_at_call 33; exact quiet_gw (v := .string (numT q)) (IH.out _))) | quiet_step ((go_at_call 33; exact quiet_gw (v := .string (numT q)) (IH.out _))))
    refine wpQuiet_nil ?_
    rintro _ ⟨pq, rfl⟩
    go_wp2
    go_ret
    exact ⟨by rw [HNT.out]; rfl, (by repeat (first | assumption | exact Below.refl _ _ | apply bl_gw | apply bl_alloc | apply bl_drewN | apply bl_drew))⟩
termination_by n
decreasing_by omega
theorem itoa_numT (n : Nat) : (⟨(Lib.itoa (n : Int)).toArray⟩ : ByteArray) = numT n := by
  unfold Lib.itoa numT
  rw [if_neg (by omega)]
  simp
theorem decimal_any (n : Nat) (w : World) (hn : n ≤ 9223372036854775807) (hN : Nums w) :
    Calls Tryd.prog 32 #[.int .i64 n] w fun e w' => e = .returned (.string (numT n)) ∧ Below w.heap.size w w' := by
  have h := hN n w (by omega) (by omega) (Below.refl _ _)
  rw [itoa_numT] at h
  have H := Lib.hid h
  clear h hn
  go_enter Tryd.func32, Tryd.ntmps32
  go_wp2_with (go_at_call 45; refine (H.out).mono ?_; rintro e w1 ⟨rfl, hb⟩; have HB := Lib.hid hb; clear hb)
  go_ret
  exact ⟨rfl, HB.out⟩
end Go.Proofs.YtcajgadgdjopdaaDoor
