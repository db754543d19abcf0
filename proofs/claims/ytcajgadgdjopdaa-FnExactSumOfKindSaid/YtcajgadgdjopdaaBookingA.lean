/- Walks of bookings: one booking, and whether a list are bookings. -/
import Derived.Test.YtcajgadgdjopdaaBooking
namespace Go.Proofs.Ytcajgadgdjopdaa
open Go.RowKit
set_option maxHeartbeats 400000 in
theorem within_any (n a b : Int) (w : World) :
    Calls Try.prog 41 #[.int .i64 n, .int .i64 a, .int .i64 b] w fun e w' => e = .returned (.bool (inB n a b)) ∧ w = w' := by
  go_enter Try.func41, Try.ntmps41
  go_wp2
  all_goals go_ret
  all_goals refine ⟨?_, rfl⟩
  all_goals simp [inB, *]
  all_goals omega
theorem within_q {n a b : Int} {v : Bool} (h : inB n a b = v) (w : World) :
    Calls Try.prog 41 #[.int .i64 n, .int .i64 a, .int .i64 b] w fun e w' => e = .returned (.bool v) ∧ w = w' := h ▸ within_any n a b w
set_option maxHeartbeats 400000 in
theorem l1In_any (n a b : Int) (w : World) :
    Calls Try.prog 53 #[.int .i64 n, .int .i64 a, .int .i64 b] w fun e w' => e = .returned (.bool (inB n a b)) ∧ w = w' := by
  go_enter Try.func53, Try.ntmps53
  go_wp2
  all_goals go_ret
  all_goals refine ⟨?_, rfl⟩
  all_goals simp [inB, *]
  all_goals omega
theorem l1In_q {n a b : Int} {v : Bool} (h : inB n a b = v) (w : World) :
    Calls Try.prog 53 #[.int .i64 n, .int .i64 a, .int .i64 b] w fun e w' => e = .returned (.bool v) ∧ w = w' := h ▸ l1In_any n a b w
set_option maxHeartbeats 400000 in
theorem isDay_any (n : Int) (w : World) :
    Calls Try.prog 69 #[.int .i64 n] w fun e w' => e = .returned (.bool (inB n 0 4000)) ∧ w = w' := by
  go_enter Try.func69, Try.ntmps69
  go_wp2_with (go_at_call 41; refine (within_any _ _ _ _).mono ?_; rintro e w' ⟨rfl, rfl⟩)
  go_ret
  exact ⟨rfl, rfl⟩
theorem isDay_q {n : Int} {v : Bool} (h : inB n 0 4000 = v) (w : World) :
    Calls Try.prog 69 #[.int .i64 n] w fun e w' => e = .returned (.bool v) ∧ w = w' := h ▸ isDay_any n w
set_option maxHeartbeats 400000 in
theorem isBookKind_any (n : Int) (w : World) :
    Calls Try.prog 68 #[.int .i64 n] w fun e w' => e = .returned (.bool (inB n 1 4)) ∧ w = w' := by
  go_enter Try.func68, Try.ntmps68
  go_wp2_with (go_at_call 41; refine (within_any _ _ _ _).mono ?_; rintro e w' ⟨rfl, rfl⟩)
  go_ret
  exact ⟨rfl, rfl⟩
theorem isBookKind_q {n : Int} {v : Bool} (h : inB n 1 4 = v) (w : World) :
    Calls Try.prog 68 #[.int .i64 n] w fun e w' => e = .returned (.bool v) ∧ w = w' := h ▸ isBookKind_any n w
set_option maxHeartbeats 400000 in
theorem l2Day_any (n : Int) (w : World) :
    Calls Try.prog 67 #[.int .i64 n] w fun e w' => e = .returned (.bool (inB n 0 4000)) ∧ w = w' := by
  go_enter Try.func67, Try.ntmps67
  go_wp2_with (first | (go_at_call 53; refine (l1In_any _ _ _ _).mono ?_; rintro e w1 ⟨rfl, rfl⟩))
  go_ret
  exact ⟨rfl, rfl⟩
def bookingOK (s : Booking) : Bool := inB s.day 0 4000 && (inB s.kind 1 4 && inB s.kilos 1 100000)
def bookAfter (a b : Booking) : Bool := decide (b.day < a.day) || (decide (a.day = b.day) && decide (b.kind < a.kind))
set_option maxHeartbeats 4000000 in
theorem isBooking_any (a b c : Int) (w : World) :
    Calls Try.prog 64 #[.agg #[.int .i64 a, .int .i64 b, .int .i64 c]] w fun x w' => x = .returned (.bool (bookingOK ⟨a, b, c⟩)) ∧ Below w.heap.size w w' := by
  rcases sp2 (inB a 0 4000) (inB b 1 4) with t | ⟨t1, t⟩ | ⟨t1, t⟩
  all_goals
    go_enter Try.func64, Try.ntmps64
    go_wp2_with (first | (go_at_call 41; refine (within_any _ _ _ _).mono ?_; rintro e w1 ⟨rfl, rfl⟩) | (go_at_call 68; refine (isBookKind_any _ _).mono ?_; rintro e w1 ⟨rfl, rfl⟩) | (go_at_call 69; refine (isDay_any _ _).mono ?_; rintro e w1 ⟨rfl, rfl⟩))
    all_goals go_ret
    all_goals exact ⟨ret_bool (by simp [bookingOK, *]), (by repeat (first | assumption | exact Below.refl _ _ | apply bl_gw | apply bl_alloc | apply bl_drewN | apply bl_drew))⟩
theorem isBooking_q {a b c : Int} {v : Bool} (h : bookingOK ⟨a, b, c⟩ = v) (w : World) :
    Calls Try.prog 64 #[.agg #[.int .i64 a, .int .i64 b, .int .i64 c]] w fun x w' => x = .returned (.bool v) ∧ Below w.heap.size w w' := h ▸ isBooking_any a b c w
set_option maxHeartbeats 4000000 in
theorem l20One_any (a b c : Int) (w : World) :
    Calls Try.prog 84 #[.agg #[.int .i64 a, .int .i64 b, .int .i64 c]] w fun x w' => x = .returned (.bool (bookingOK ⟨a, b, c⟩)) ∧ Below w.heap.size w w' := by
  rcases sp2 (inB a 0 4000) (inB b 1 4) with t | ⟨t1, t⟩ | ⟨t1, t⟩
  all_goals
    go_enter Try.func84, Try.ntmps84
    go_wp2_with (first | (go_at_call 53; refine (l1In_any _ _ _ _).mono ?_; rintro e w1 ⟨rfl, rfl⟩) | (go_at_call 67; refine (l2Day_any _ _).mono ?_; rintro e w1 ⟨rfl, rfl⟩))
    all_goals go_ret
    all_goals exact ⟨ret_bool (by simp [bookingOK, *]), (by repeat (first | assumption | exact Below.refl _ _ | apply bl_gw | apply bl_alloc | apply bl_drewN | apply bl_drew))⟩
theorem l20One_q {a b c : Int} {v : Bool} (h : bookingOK ⟨a, b, c⟩ = v) (w : World) :
    Calls Try.prog 84 #[.agg #[.int .i64 a, .int .i64 b, .int .i64 c]] w fun x w' => x = .returned (.bool v) ∧ Below w.heap.size w w' := h ▸ l20One_any a b c w
set_option maxHeartbeats 4000000 in
theorem bookedAfter_any (a b c a' b' c' : Int) (w : World) :
    Calls Try.prog 65 #[.agg #[.int .i64 a, .int .i64 b, .int .i64 c], .agg #[.int .i64 a', .int .i64 b', .int .i64 c']] w fun x w' => x = .returned (.bool (bookAfter ⟨a, b, c⟩ ⟨a', b', c'⟩)) ∧ Below w.heap.size w w' := by
  go_enter Try.func65, Try.ntmps65
  go_wp2
  all_goals go_ret
  all_goals refine ⟨ret_bool ?_, (by repeat (first | assumption | exact Below.refl _ _ | apply bl_gw | apply bl_alloc | apply bl_drewN | apply bl_drew))⟩
  all_goals simp [bookAfter, *]
  all_goals omega
theorem bookedAfter_q {a b c a' b' c' : Int} {v : Bool} (h : bookAfter ⟨a, b, c⟩ ⟨a', b', c'⟩ = v) (w : World) :
    Calls Try.prog 65 #[.agg #[.int .i64 a, .int .i64 b, .int .i64 c], .agg #[.int .i64 a', .int .i64 b', .int .i64 c']] w fun x w' => x = .returned (.bool v) ∧ Below w.heap.size w w' := h ▸ bookedAfter_any a b c a' b' c' w
set_option maxHeartbeats 4000000 in
theorem l20After_any (a b c a' b' c' : Int) (w : World) :
    Calls Try.prog 85 #[.agg #[.int .i64 a, .int .i64 b, .int .i64 c], .agg #[.int .i64 a', .int .i64 b', .int .i64 c']] w fun x w' => x = .returned (.bool (bookAfter ⟨a, b, c⟩ ⟨a', b', c'⟩)) ∧ Below w.heap.size w w' := by
  go_enter Try.func85, Try.ntmps85
  go_wp2
  all_goals go_ret
  all_goals refine ⟨ret_bool ?_, (by repeat (first | assumption | exact Below.refl _ _ | apply bl_gw | apply bl_alloc | apply bl_drewN | apply bl_drew))⟩
  all_goals simp [bookAfter, *]
  all_goals omega
theorem l20After_q {a b c a' b' c' : Int} {v : Bool} (h : bookAfter ⟨a, b, c⟩ ⟨a', b', c'⟩ = v) (w : World) :
    Calls Try.prog 85 #[.agg #[.int .i64 a, .int .i64 b, .int .i64 c], .agg #[.int .i64 a', .int .i64 b', .int .i64 c']] w fun x w' => x = .returned (.bool v) ∧ Below w.heap.size w w' := h ▸ l20After_any a b c a' b' c' w
def badBooking (l : List Booking) (i : Nat) : Bool := !(bookingOK l[i]! && (decide (i = 0) || !(bookAfter l[i-1]! l[i]!)))
def areBookings (l : List Booking) : Bool := (firstTo (badBooking l) l.length).isNone && decide (l.length ≤ 20)
set_option maxHeartbeats 4000000 in
theorem l20Good_any (l : List Booking) (n : Nat) (hn : l.length = n) (A : Option Addr) (cap : Nat) (w : World) (hl : n ≤ 1048576) (hc : Sl encBooking w w.heap.size A l) :
    Calls Try.prog 62 #[.slice A n cap] w fun e w' => e = .returned (.bool (areBookings l)) ∧ Below w.heap.size w w' := by
  have HC := Lib.hid hc; clear hc
  have HN := Lib.hid hn; clear hn
  go_enter Try.func62, Try.ntmps62
  go_wp2
  go_loopw [3] (fun i wr => ∃ k : Nat, k ≤ n ∧ i = .int .i64 k ∧ firstTo (badBooking l) k = none ∧ Below w.heap.size w wr) (fun i _ => n - (intOf i).toNat)
  case atStart => exact ⟨0, Nat.zero_le _, rfl, rfl, Below.refl _ _⟩
  case round =>
    obtain ⟨k, hk, rfl, hall, hbel⟩ := hrel
    have HA := Lib.hid hall; clear hall
    have hsz := hbel.size
    by_cases hlt : k < n
    · obtain ⟨b, off, rfl, hb, hcs⟩ := HC.out.booking (by rw [HN.out]; omega)
      have hx : l[k]? = some (l[k]'(by rw [HN.out]; exact hlt)) := List.getElem?_eq_getElem _
      have hy : l[k-1]? = some (l[k-1]'(by rw [HN.out]; omega)) := List.getElem?_eq_getElem _
      generalize l[k]'(by rw [HN.out]; exact hlt) = x at hx
      generalize l[k-1]'(by rw [HN.out]; omega) = y at hy
      obtain ⟨c0, c1, c2⟩ := hcs k x hx
      obtain ⟨d0, d1, d2⟩ := hcs (k-1) y hy
      clear hcs
      have hbad : badBooking l k = !(bookingOK x && (decide (k = 0) || !(bookAfter y x))) := by simp [badBooking, hx, hy]
      clear hx hy
      obtain ⟨x1, x2, x3⟩ := x
      obtain ⟨z1, z2, z3⟩ := y
      dsimp only at c0 c1 c2 d0 d1 d2 hbad
      rw [← hbel.cell hb] at c0 c1 c2 d0 d1 d2
      have hbw : b < wr.heap.size := by omega
      have hexit : badBooking l k = true → Ending.returned (.bool false) = .returned (.bool (areBookings l)) := fun h => by
        simp [areBookings, firstTo_hit HA.out h l.length (by rw [HN.out]; exact hlt)]
      have hnext : badBooking l k = false → firstTo (badBooking l) (k + 1) = none := fun h => firstTo_miss HA.out h
      rw [hbad] at hexit hnext
      have HX := Lib.hid hexit
      have HY := Lib.hid hnext
      clear hexit hnext hbad
      have k3 : ((k : Int) - 1).toNat = k - 1 := by omega
      have k4 : (k : Int) - 1 < n := by omega
      have k5' : (k : Int) < n := by omega
      have k6' : (0 : Int) ≤ (k : Int) := by omega
      rcases sp3 (bookingOK ⟨x1, x2, x3⟩) (decide (0 < k)) (bookAfter ⟨z1, z2, z3⟩ ⟨x1, x2, x3⟩) with t1 | ⟨t1, t2⟩ | ⟨t1, t2, t3⟩ | ⟨t1, t2, t3⟩
      case' inr.inr.inl =>
        have t5 : 0 < k := by simpa using t2
        have k5 : (0 : Int) ≤ (k : Int) - 1 := by omega
        have k6 : (1 : Int) ≤ (k : Int) := by omega
        have k7 : IntKind.i64.wrap ((k : Int) - 1) = (k : Int) - 1 := IntWalk.i64_in _ (by omega)
      case' inr.inr.inr =>
        have t5 : 0 < k := by simpa using t2
        have k5 : (0 : Int) ≤ (k : Int) - 1 := by omega
        have k6 : (1 : Int) ≤ (k : Int) := by omega
        have k7 : IntKind.i64.wrap ((k : Int) - 1) = (k : Int) - 1 := IntWalk.i64_in _ (by omega)
      all_goals
        go_wp2
        refine wp_region_gw (by kernel_rfl) (by kernel_rfl) ?_
        repeat (first | go_big_quiet_step ((first | (go_at_call 84; exact quiet_gw (l20One_q (by assumption) _)) | (go_at_call 85; exact quiet_gw (l20After_q (by assumption) _)))) | quiet_step ((first | (go_at_call 84; exact quiet_gw (l20One_q (by assumption) _)) | (go_at_call 85; exact quiet_gw (l20After_q (by assumption) _)))))
        refine wpQuiet_nil ?_
        rintro _ ⟨pq, rfl⟩
        go_wp2
      all_goals first
        | (go_ret
           exact ⟨HX.out (by simp [*] <;> first | omega | (simp at t2; omega)), (by repeat (first | assumption | exact Below.refl _ _ | apply bl_gw | apply bl_alloc | apply bl_drewN | apply bl_drew))⟩)
        | (go_roundw
           case rel => exact ⟨k + 1, by omega, by go_num, HY.out (by simp [*] <;> first | omega | (simp at t2; omega)), (by repeat (first | assumption | exact Below.refl _ _ | apply bl_gw | apply bl_alloc | apply bl_drewN | apply bl_drew))⟩
           case measure => simp [intOf]; omega)
    · go_wp2
      go_ret
      refine ⟨ret_bool ?_, hbel⟩
      obtain rfl : k = n := by omega
      simp [areBookings, HN.out, HA.out]
      omega
set_option maxHeartbeats 4000000 in
theorem impl_AreBookings_any (l : List Booking) (n : Nat) (hn : l.length = n) (A : Option Addr) (cap : Nat) (w : World) (hl : n ≤ 1048576) (hc : Sl encBooking w w.heap.size A l) :
    Calls Try.prog 34 #[.slice A n cap] w fun e w' => e = .returned (.bool (areBookings l)) ∧ Below w.heap.size w w' := by
  have HC := Lib.hid hc; clear hc
  have HN := Lib.hid hn; clear hn
  go_enter Try.func34, Try.ntmps34
  go_wp2
  go_loopw [7] (fun i wr => ∃ k : Nat, k ≤ n ∧ i = .int .i64 k ∧ firstTo (badBooking l) k = none ∧ Below w.heap.size w wr) (fun i _ => n - (intOf i).toNat)
  case atStart => exact ⟨0, Nat.zero_le _, rfl, rfl, Below.refl _ _⟩
  case round =>
    obtain ⟨k, hk, rfl, hall, hbel⟩ := hrel
    have HA := Lib.hid hall; clear hall
    have hsz := hbel.size
    by_cases hlt : k < n
    · obtain ⟨b, off, rfl, hb, hcs⟩ := HC.out.booking (by rw [HN.out]; omega)
      have hx : l[k]? = some (l[k]'(by rw [HN.out]; exact hlt)) := List.getElem?_eq_getElem _
      have hy : l[k-1]? = some (l[k-1]'(by rw [HN.out]; omega)) := List.getElem?_eq_getElem _
      generalize l[k]'(by rw [HN.out]; exact hlt) = x at hx
      generalize l[k-1]'(by rw [HN.out]; omega) = y at hy
      obtain ⟨c0, c1, c2⟩ := hcs k x hx
      obtain ⟨d0, d1, d2⟩ := hcs (k-1) y hy
      clear hcs
      have hbad : badBooking l k = !(bookingOK x && (decide (k = 0) || !(bookAfter y x))) := by simp [badBooking, hx, hy]
      clear hx hy
      obtain ⟨x1, x2, x3⟩ := x
      obtain ⟨z1, z2, z3⟩ := y
      dsimp only at c0 c1 c2 d0 d1 d2 hbad
      rw [← hbel.cell hb] at c0 c1 c2 d0 d1 d2
      have hbw : b < wr.heap.size := by omega
      have hexit : badBooking l k = true → Ending.returned (.bool false) = .returned (.bool (areBookings l)) := fun h => by
        simp [areBookings, firstTo_hit HA.out h l.length (by rw [HN.out]; exact hlt)]
      have hnext : badBooking l k = false → firstTo (badBooking l) (k + 1) = none := fun h => firstTo_miss HA.out h
      rw [hbad] at hexit hnext
      have HX := Lib.hid hexit
      have HY := Lib.hid hnext
      clear hexit hnext hbad
      have k3 : ((k : Int) - 1).toNat = k - 1 := by omega
      have k4 : (k : Int) - 1 < n := by omega
      have k5' : (k : Int) < n := by omega
      have k6' : (0 : Int) ≤ (k : Int) := by omega
      rcases sp3 (bookingOK ⟨x1, x2, x3⟩) (decide (0 < k)) (bookAfter ⟨z1, z2, z3⟩ ⟨x1, x2, x3⟩) with t1 | ⟨t1, t2⟩ | ⟨t1, t2, t3⟩ | ⟨t1, t2, t3⟩
      case' inr.inr.inl =>
        have t5 : 0 < k := by simpa using t2
        have k5 : (0 : Int) ≤ (k : Int) - 1 := by omega
        have k6 : (1 : Int) ≤ (k : Int) := by omega
        have k7 : IntKind.i64.wrap ((k : Int) - 1) = (k : Int) - 1 := IntWalk.i64_in _ (by omega)
      case' inr.inr.inr =>
        have t5 : 0 < k := by simpa using t2
        have k5 : (0 : Int) ≤ (k : Int) - 1 := by omega
        have k6 : (1 : Int) ≤ (k : Int) := by omega
        have k7 : IntKind.i64.wrap ((k : Int) - 1) = (k : Int) - 1 := IntWalk.i64_in _ (by omega)
      all_goals
        go_wp2
        refine wp_region_gw (by kernel_rfl) (by kernel_rfl) ?_
        repeat (first | go_big_quiet_step ((first | (go_at_call 64; exact quiet_gw (isBooking_q (by assumption) _)) | (go_at_call 65; exact quiet_gw (bookedAfter_q (by assumption) _)))) | quiet_step ((first | (go_at_call 64; exact quiet_gw (isBooking_q (by assumption) _)) | (go_at_call 65; exact quiet_gw (bookedAfter_q (by assumption) _)))))
        refine wpQuiet_nil ?_
        rintro _ ⟨pq, rfl⟩
        go_wp2
      all_goals first
        | (go_ret
           exact ⟨HX.out (by simp [*] <;> first | omega | (simp at t2; omega)), (by repeat (first | assumption | exact Below.refl _ _ | apply bl_gw | apply bl_alloc | apply bl_drewN | apply bl_drew))⟩)
        | (go_roundw
           case rel => exact ⟨k + 1, by omega, by go_num, HY.out (by simp [*] <;> first | omega | (simp at t2; omega)), (by repeat (first | assumption | exact Below.refl _ _ | apply bl_gw | apply bl_alloc | apply bl_drewN | apply bl_drew))⟩
           case measure => simp [intOf]; omega)
    · go_wp2
      go_ret
      refine ⟨ret_bool ?_, hbel⟩
      obtain rfl : k = n := by omega
      simp [areBookings, HN.out, HA.out]
      omega
set_option maxHeartbeats 1000000 in
theorem specAreBookings_any (l : List Booking) (n : Nat) (hn : l.length = n) (A : Option Addr) (cap : Nat) (w : World) (hl : n ≤ 1048576) (hc : Sl encBooking w w.heap.size A l) :
    Calls Try.prog 32 #[.slice A n cap] w fun e w' => e = .returned (.bool (areBookings l)) ∧ Below w.heap.size w w' := by
  have HC := Lib.hid hc; clear hc
  have HN := Lib.hid hn; clear hn
  go_enter Try.func32, Try.ntmps32
  go_wp2_with (go_at_call 62; refine (l20Good_any l n HN.out _ _ _ hl HC.out).mono ?_; rintro e w1 ⟨rfl, hb⟩)
  go_ret
  exact ⟨rfl, hb⟩
end Go.Proofs.Ytcajgadgdjopdaa
