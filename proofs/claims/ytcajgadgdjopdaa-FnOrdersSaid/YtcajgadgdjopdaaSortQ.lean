/- Pairs by their first number: slices.SortFunc of at most 12. -/
import Derived.Test.YtcajgadgdjopdaaSortP
namespace Go.Proofs.Ytcajgadgdjopdaa
open Go.RowKit
set_option maxRecDepth 100000 in
set_option maxHeartbeats 4000000 in
theorem len64_any (n : Nat) (hn : n ≤ 12) (w : World) :
    Calls Try.prog 97 #[.int .u64 n] w fun e w' => ∃ z : Int, e = .returned (.int .i64 z) ∧ w = w' := by
  have h1 : ¬ (4294967296 : Int) ≤ n := by omega
  have h2 : ¬ (65536 : Int) ≤ n := by omega
  have h3 : ¬ (256 : Int) ≤ n := by omega
  go_enter Try.func97, Try.ntmps97
  go_wp2
  go_ret
  exact ⟨_, rfl, rfl⟩
set_option maxHeartbeats 4000000 in
theorem bitsLen_any (n : Nat) (hn : n ≤ 12) (w : World) :
    Calls Try.prog 75 #[.int .u64 n] w fun e w' => ∃ z : Int, e = .returned (.int .i64 z) ∧ w = w' := by
  go_enter Try.func75, Try.ntmps75
  go_wp2_with fail
  refine (len64_any n hn _).mono ?_
  rintro e w1 ⟨z, rfl, rfl⟩
  go_wp2
  go_ret
  exact ⟨z, rfl, rfl⟩
set_option maxRecDepth 4000 in
set_option maxHeartbeats 4000000 in
theorem pdqP_any (P : List Ditch) (n : Nat) (hn : P.length = n) (A : Option Addr) (B c : Nat) (z : Int) (w : World) (hl : n ≤ 12) (hB : B ≤ w.heap.size)
    (ho : Own encDitch w B 37 (.slice A n c) P) :
    Calls Try.prog 74 #[.slice A n c, .int .i64 0, .int .i64 n, .int .i64 z, .func (.func 46) #[] #[]] w fun e w' => (∃ v, e = .returned v) ∧ Own encDitch w' B 37 (.slice A n c) (insToP P n) ∧ Below B w w' := by
  have HN := Lib.hid hn; clear hn
  have HO := Lib.hid ho; clear ho
  have k1 : (n : Int) ≤ 12 := by omega
  have k2 : IntKind.i64.wrap ((n : Int) - 0) = n := by rw [IntWalk.i64_in _ (by omega)]; omega
  have k3 : wrap64 (n : Int) = n := by unfold wrap64; omega
  go_enter Try.func74, Try.ntmps74
  go_wp2
  go_loopw [1, 2, 3, 10, 11] (fun a b d e f wr => a = .int .i64 0 ∧ b = .int .i64 n ∧ wr = w) (fun _ _ _ _ _ _ => 0)
  case atStart => exact ⟨rfl, rfl, rfl⟩
  case round =>
    obtain ⟨rfl, rfl, rfl⟩ := hrel
    go_wp2_with fail
    refine (insSortCP_any P n HN.out A B c _ (by omega) hB HO.out).mono ?_
    rintro e w1 ⟨⟨v, rfl⟩, o1, b1⟩
    have O1 := Lib.hid o1
    have B1 := Lib.hid b1
    clear o1 b1
    go_wp2
    refine bodyPost_ret (results_none rfl _ _ _) rfl ?_
    exact ⟨⟨_, rfl⟩, O1.out, B1.out⟩
set_option maxRecDepth 4000 in
set_option maxHeartbeats 4000000 in
theorem sortP_any (P : List Ditch) (n : Nat) (hn : P.length = n) (A : Option Addr) (B c : Nat) (w : World) (hl : n ≤ 12) (hB : B ≤ w.heap.size)
    (ho : Own encDitch w B 37 (.slice A n c) P) :
    Calls Try.prog 45 #[.slice A n c, .func (.func 46) #[] #[]] w fun e w' => (∃ v, e = .returned v) ∧ Own encDitch w' B 37 (.slice A n c) (insToP P n) ∧ Below B w w' := by
  have HN := Lib.hid hn; clear hn
  have HO := Lib.hid ho; clear ho
  have k3 : IntKind.u64.wrap (n : Int) = n := by
    unfold IntKind.wrap
    rw [show (2 : Int) ^ IntKind.u64.bits = 18446744073709551616 from rfl]
    simp [IntKind.signed]
    omega
  go_enter Try.func45, Try.ntmps45
  go_wp2_with fail
  refine (bitsLen_any n hl _).mono ?_
  rintro e w1 ⟨z, rfl, rfl⟩
  go_wp2_with fail
  refine (pdqP_any P n HN.out A B c _ _ hl hB HO.out).mono ?_
  rintro e w1 ⟨⟨v, rfl⟩, o1, b1⟩
  have O1 := Lib.hid o1
  have B1 := Lib.hid b1
  clear o1 b1
  go_wp2
  go_end0
  exact ⟨⟨_, rfl⟩, O1.out, B1.out⟩
end Go.Proofs.Ytcajgadgdjopdaa
