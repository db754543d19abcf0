/- Sizes of lists of casks. -/
import Derived.Test.YtcajgadgdjopdaaBittern
namespace Go.Proofs.Ytcajgadgdjopdaa
open Go.RowKit
set_option maxHeartbeats 400000 in
theorem szBitternS_fit (n : Nat) (A : Option Addr) (c : Nat) (z : Int) (w : World) (hn : (n : Int) ≤ z) (hz : z ≤ 1048576) :
    Calls Try.prog 23 #[.slice A n c, .int .i64 z] w fun e w' => e = .returned (.int .i64 (z - n)) ∧ w = w' := by
  have k1 : IntKind.i64.wrap (z - n) = z - n := IntWalk.i64_in _ (by omega)
  have k2 : ¬ z - (n : Int) < 0 := by omega
  go_enter Try.func23, Try.ntmps23
  go_wp2
  go_ret
  exact ⟨rfl, rfl⟩
set_option maxHeartbeats 400000 in
theorem szBitternS_over (n : Nat) (A : Option Addr) (c : Nat) (z : Int) (w : World) (hn : z < n) (hz : 0 ≤ z ∧ z ≤ 1048576) (hm : n ≤ 9223372036854775807) :
    Calls Try.prog 23 #[.slice A n c, .int .i64 z] w fun e w' => e = .returned (.int .i64 (-1)) ∧ w = w' := by
  have k1 : IntKind.i64.wrap (z - n) = z - n := IntWalk.i64_in _ (by omega)
  have k2 : z - (n : Int) < 0 := by omega
  go_enter Try.func23, Try.ntmps23
  go_wp2
  go_ret
  exact ⟨rfl, rfl⟩
end Go.Proofs.Ytcajgadgdjopdaa
