/- For the law FnContracts: lists compared and summed. -/
import Derived.Test.YtcljfdpjlkaagaaLawConA
import Derived.Test.YtcljfdpjlkaagaaLawKit
namespace Go.Proofs.Ytcljfdpjlkaagaa
open Go.RowKit
def sumTo (l : List Int) (k : Nat) : Int := sumI (l.take k)
theorem sumTo_succ {l : List Int} {k : Nat} {x : Int} (hx : l[k]? = some x) : sumTo l (k + 1) = sumTo l k + x := by
  unfold sumTo
  rw [List.take_add_one, hx, sumI_app]
  simp [sumI]
theorem sumTo_rng {l : List Int} (h : TonsIn l) : ∀ k, k ≤ l.length → 0 ≤ sumTo l k ∧ sumTo l k ≤ 50000 * k
  | 0, _ => by simp [sumTo, sumI]
  | k + 1, hk => by
    have ih := sumTo_rng h k (by omega)
    have hx : l[k]? = some (l[k]'(by omega)) := List.getElem?_eq_getElem _
    have := h k _ hx
    rw [sumTo_succ hx]
    omega
set_option maxHeartbeats 400000 in
theorem rBig_any (A : Option Addr) (n c : Nat) (w : World) :
    Calls Try.prog 44 #[.slice A n c] w fun e w' => e = .returned (.bool (decide ((65536 : Int) < n))) ∧ w = w' := by
  go_enter Try.func44, Try.ntmps44
  go_wp2
  go_ret
  exact ⟨rfl, rfl⟩
set_option maxHeartbeats 2000000 in
theorem rInts_same (l : List Int) (n : Nat) (hn : l.length = n) (A A' : Option Addr) (c c' : Nat) (w : World) (hl : n ≤ 1073741824) (hc : Sl encInt w w.heap.size A l) (hc' : Sl encInt w w.heap.size A' l) :
    Calls Try.prog 46 #[.slice A n c, .slice A' n c'] w fun e w' => e = .returned (.bool true) ∧ Below w.heap.size w w' := by
  have HC := Lib.hid hc; clear hc
  have HD := Lib.hid hc'; clear hc'
  have HN := Lib.hid hn; clear hn
  go_enter Try.func46, Try.ntmps46
  go_wp2
  go_loopw [5] (fun i wr => ∃ k : Nat, k ≤ n ∧ i = .int .i64 k ∧ Below w.heap.size w wr) (fun i _ => n - (intOf i).toNat)
  case atStart => exact ⟨0, Nat.zero_le _, rfl, Below.refl _ _⟩
  case round =>
    obtain ⟨k, hk, rfl, hbel⟩ := hrel
    have hsz := hbel.size
    by_cases hlt : k < n
    · obtain ⟨b, off, rfl, hb, hcs⟩ := HC.out.int_ (by rw [HN.out]; omega)
      obtain ⟨b', off', rfl, hb', hcs'⟩ := HD.out.int_ (by rw [HN.out]; omega)
      have hx : l[k]? = some (l[k]'(by rw [HN.out]; exact hlt)) := List.getElem?_eq_getElem _
      generalize l[k]'(by rw [HN.out]; exact hlt) = x at hx
      have c0 := hcs k x hx
      have d0 := hcs' k x hx
      clear hcs hcs' hx
      rw [← hbel.cell hb] at c0
      rw [← hbel.cell hb'] at d0
      have hbw : b < wr.heap.size := by omega
      have hbw' : b' < wr.heap.size := by omega
      have k1 : (k : Int) < n := by omega
      have k2 : (0 : Int) ≤ k := by omega
      go_wp2
      refine wp_region_gw (by kernel_rfl) (by kernel_rfl) ?_
      repeat (first | go_big_quiet_step (fail) | quiet_step (fail))
      refine wpQuiet_nil ?_
      rintro _ ⟨pq, rfl⟩
      go_wp2
      go_roundw
      case rel => exact ⟨k + 1, by omega, by go_num, (by repeat (first | assumption | exact Below.refl _ _ | apply bl_gw | apply bl_alloc | apply bl_drewN | apply bl_drew))⟩
      case measure => simp [intOf]; omega
    · go_wp2
      go_ret
      exact ⟨rfl, hbel⟩
set_option maxHeartbeats 2000000 in
theorem rSum_any (l : List Int) (n : Nat) (hn : l.length = n) (A : Option Addr) (cap : Nat) (w : World) (hl : n ≤ 11) (hs : TonsIn l) (hc : Sl encInt w w.heap.size A l) :
    Calls Try.prog 47 #[.slice A n cap] w fun e w' => e = .returned (.int .i64 (sumI l)) ∧ w = w' := by
  have HC := Lib.hid hc; clear hc
  have HN := Lib.hid hn; clear hn
  have HS := Lib.hid hs; clear hs
  go_enter Try.func47, Try.ntmps47
  go_wp2
  go_loopw [3, 4] (fun u j wr => ∃ k : Nat, k ≤ n ∧ j = .int .i64 k ∧ u = .int .i64 (sumTo l k) ∧ wr = w) (fun _ j _ => n - (intOf j).toNat)
  case atStart => exact ⟨0, Nat.zero_le _, rfl, rfl, rfl⟩
  case round =>
    obtain ⟨k, hk, rfl, rfl, rfl⟩ := hrel
    by_cases hlt : k < n
    · obtain ⟨b, off, rfl, hb, hcs⟩ := HC.out.int_ (by rw [HN.out]; omega)
      have hx : l[k]? = some (l[k]'(by rw [HN.out]; exact hlt)) := List.getElem?_eq_getElem _
      generalize l[k]'(by rw [HN.out]; exact hlt) = x at hx
      have c0 := hcs k x hx
      have hr := sumTo_rng HS.out k (by rw [HN.out]; exact hk)
      have hx6 := HS.out k x hx
      have HT := Lib.hid (sumTo_succ hx)
      clear hcs hx
      generalize sumTo l k = sm at *
      have k1 : (k : Int) < n := by omega
      have k2 : (0 : Int) ≤ k := by omega
      have k3 : IntKind.i64.wrap (sm + x) = sm + x := IntWalk.i64_in _ (by omega)
      go_wp2
      go_roundw
      case rel => exact ⟨k + 1, by omega, by go_num, by rw [HT.out], trivial⟩
      case measure => simp [intOf]; omega
    · go_wp2
      go_ret
      obtain rfl : k = n := by omega
      have : sumTo l k = sumI l := by unfold sumTo; rw [List.take_of_length_le (by rw [HN.out]; exact Nat.le_refl _)]
      rw [this]
      exact ⟨rfl, rfl⟩
end Go.Proofs.Ytcljfdpjlkaagaa
