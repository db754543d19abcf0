/- Walks of bookings: the sum of a kind. -/
import Derived.Test.YtcajgadgdjopdaaBookingA
namespace Go.Proofs.Ytcajgadgdjopdaa
open Go.RowKit
set_option maxHeartbeats 400000 in
theorem szBookingS_fit (n : Nat) (A : Option Addr) (c : Nat) (z : Int) (w : World) (hn : (n : Int) ≤ z) (hz : z ≤ 1048576) :
    Calls Try.prog 31 #[.slice A n c, .int .i64 z] w fun e w' => e = .returned (.int .i64 (z - n)) ∧ w = w' := by
  have k1 : IntKind.i64.wrap (z - n) = z - n := IntWalk.i64_in _ (by omega)
  have k2 : ¬ z - (n : Int) < 0 := by omega
  go_enter Try.func31, Try.ntmps31
  go_wp2
  go_ret
  exact ⟨rfl, rfl⟩
set_option maxHeartbeats 400000 in
theorem szBookingS_over (n : Nat) (A : Option Addr) (c : Nat) (z : Int) (w : World) (hn : z < n) (hz : 0 ≤ z ∧ z ≤ 1048576) (hm : n ≤ 9223372036854775807) :
    Calls Try.prog 31 #[.slice A n c, .int .i64 z] w fun e w' => e = .returned (.int .i64 (-1)) ∧ w = w' := by
  have k1 : IntKind.i64.wrap (z - n) = z - n := IntWalk.i64_in _ (by omega)
  have k2 : z - (n : Int) < 0 := by omega
  go_enter Try.func31, Try.ntmps31
  go_wp2
  go_ret
  exact ⟨rfl, rfl⟩
theorem areBookings_len {l : List Booking} (h : areBookings l = true) : l.length ≤ 20 := by
  simp only [areBookings, Bool.and_eq_true, decide_eq_true_eq] at h; exact h.2
theorem areBookings_ok {l : List Booking} (h : areBookings l = true) {k : Nat} {x : Booking} (hx : l[k]? = some x) : bookingOK x = true := by
  simp only [areBookings, Bool.and_eq_true, Option.isNone_iff_eq_none] at h
  have := firstTo_none h.1 k (List.getElem?_eq_some_iff.1 hx).1
  simp only [badBooking, List.getElem!_of_getElem? hx, Bool.not_eq_false', Bool.and_eq_true] at this
  exact this.1
theorem bookingOK_at {x : Booking} (h : bookingOK x = true) : (0 ≤ x.day ∧ x.day ≤ 4000) ∧ (1 ≤ x.kind ∧ x.kind ≤ 4) ∧ (1 ≤ x.kilos ∧ x.kilos ≤ 100000) := by
  simp only [bookingOK, Bool.and_eq_true] at h
  exact ⟨inB_true h.1, inB_true h.2.1, inB_true h.2.2⟩
def sumKind (l : List Booking) (d f t : Int) (k : Nat) : Int := loopTo (fun i s => if decide (l[i]!.kind = d) && inB l[i]!.day f t then s + l[i]!.kilos else s) 0 k
def sumP (l : List Booking) (d f t : Int) : Int × Bool := if ((areBookings l && inB d 1 4) && inB f 0 4000) && inB t 0 4000 then (sumKind l d f t l.length, true) else (0, false)
set_option maxRecDepth 4000 in
set_option maxHeartbeats 4000000 in
theorem spec_SumOfKind_any (l : List Booking) (m : Nat) (hn : l.length = m) (A : Option Addr) (cap : Nat) (d f t : Int) (w : World) (hl : m ≤ 1048576) (hc : Sl encBooking w w.heap.size A l) :
    Calls Try.prog 36 #[.slice A m cap, .int .i64 d, .int .i64 f, .int .i64 t] w fun e w' => e = .returned (.tuple #[.int .i64 (sumP l d f t).1, .bool (sumP l d f t).2]) ∧ Below w.heap.size w w' := by
  have HC := Lib.hid hc; clear hc
  have HN := Lib.hid hn; clear hn
  have HD := HC
  rcases sp4 (areBookings l) (inB d 1 4) (inB f 0 4000) (inB t 0 4000) with t1 | ⟨t1, t2⟩ | ⟨t1, t2, t3⟩ | ⟨t1, t2, t3, t4⟩ | ⟨t1, t2, t3, t4⟩
  rotate_left 4
  · have HT1 := Lib.hid t1
    have hd : sumP l d f t = (sumKind l d f t l.length, true) := by simp [sumP, t1, t2, t3, t4]
    rw [hd]
    clear hd
    have hm20 : m ≤ 20 := by have := areBookings_len t1; rw [HN.out] at this; exact this
    go_enter Try.func36, Try.ntmps36
    go_wp2_with (first | (go_at_call 62; refine (l20Good_any l m HN.out _ _ _ hl HC.out).mono ?_; rintro e w1 ⟨rfl, hb⟩; obtain ⟨p, rfl⟩ := below_gw hb; clear hb) | (go_at_call 53; refine (l1In_any _ _ _ _).mono ?_; rintro e w1 ⟨rfl, rfl⟩) | (go_at_call 67; refine (l2Day_any _ _).mono ?_; rintro e w1 ⟨rfl, rfl⟩))
    clear t1 t2 t3 t4
    go_loopw [10, 11] (fun i j wr => ∃ (k : Nat) (s : Int), k ≤ m ∧ j = .int .i64 k ∧ i = .int .i64 s ∧ (0 ≤ s ∧ s ≤ 100000 * k) ∧ s = sumKind l d f t k ∧ Below w.heap.size w wr) (fun _ j _ => m - (intOf j).toNat)
    case atStart => exact ⟨0, 0, Nat.zero_le _, rfl, rfl, by omega, rfl, (by repeat (first | assumption | exact Below.refl _ _ | apply bl_gw | apply bl_alloc | apply bl_drewN | apply bl_drew))⟩
    case round =>
      obtain ⟨k, s, hkm, rfl, rfl, ⟨hs0, hs1⟩, hs, hbel⟩ := hrel
      have HS := Lib.hid hs; clear hs
      have hsz := hbel.size
      by_cases hlt : k < m
      · obtain ⟨bk, off, rfl, hb, hcs⟩ := HD.out.booking (by rw [HN.out]; omega)
        have hx : l[k]? = some (l[k]'(by rw [HN.out]; exact hlt)) := List.getElem?_eq_getElem _
        generalize l[k]'(by rw [HN.out]; exact hlt) = y at hx
        obtain ⟨c0, c1, c2⟩ := hcs k y hx
        clear hcs
        have hstep : sumKind l d f t (k + 1) = if decide (y.kind = d) && inB y.day f t then s + y.kilos else s := by rw [HS.out]; simp [sumKind, loopTo, List.getElem!_of_getElem? hx]
        obtain ⟨⟨_, _⟩, ⟨_, _⟩, ⟨y5, y6⟩⟩ := bookingOK_at (areBookings_ok HT1.out hx)
        clear hx
        rw [← hbel.cell hb] at c0 c1 c2
        have hbw : bk < wr.heap.size := by omega
        have k1 : (k : Int) < m := by omega
        have k2 : (0 : Int) ≤ k := by omega
        have k3 : IntKind.i64.wrap (s + y.kilos) = s + y.kilos := IntWalk.i64_in _ (by omega)
        have HQ := Lib.hid hstep
        clear hstep
        go_wp2_with ((go_at_call 53; refine (l1In_any _ _ _ _).mono ?_; rintro e w1 ⟨rfl, rfl⟩))
        all_goals
          go_roundw
          case rel =>
            first
            | exact ⟨k + 1, s, by omega, by go_num, rfl, by omega, by rw [HQ.out]; simp [*], (by repeat (first | assumption | exact Below.refl _ _ | apply bl_gw | apply bl_alloc | apply bl_drewN | apply bl_drew))⟩
            | exact ⟨k + 1, s + y.kilos, by omega, by go_num, rfl, by omega, by rw [HQ.out]; simp [*], (by repeat (first | assumption | exact Below.refl _ _ | apply bl_gw | apply bl_alloc | apply bl_drewN | apply bl_drew))⟩
          case measure => simp [intOf]; omega
      · go_wp2
        go_ret2
        obtain rfl : k = m := by omega
        exact ⟨by rw [HS.out, HN.out]; rfl, hbel⟩
  all_goals
    have hd : sumP l d f t = (0, false) := by simp [sumP, *]
    rw [hd]
    clear hd
    go_enter Try.func36, Try.ntmps36
    go_wp2_with (first | (go_at_call 62; refine (l20Good_any l m HN.out _ _ _ hl HC.out).mono ?_; rintro e w1 ⟨rfl, hb⟩; obtain ⟨p, rfl⟩ := below_gw hb; clear hb) | (go_at_call 53; refine (l1In_any _ _ _ _).mono ?_; rintro e w1 ⟨rfl, rfl⟩) | (go_at_call 67; refine (l2Day_any _ _).mono ?_; rintro e w1 ⟨rfl, rfl⟩))
    go_ret2
    exact ⟨rfl, (by repeat (first | assumption | exact Below.refl _ _ | apply bl_gw | apply bl_alloc | apply bl_drewN | apply bl_drew))⟩
set_option maxRecDepth 4000 in
set_option maxHeartbeats 4000000 in
theorem impl_SumOfKind_any (l : List Booking) (m : Nat) (hn : l.length = m) (A : Option Addr) (cap : Nat) (d f t : Int) (w : World) (hl : m ≤ 1048576) (hc : Sl encBooking w w.heap.size A l) :
    Calls Try.prog 37 #[.slice A m cap, .int .i64 d, .int .i64 f, .int .i64 t] w fun e w' => e = .returned (.tuple #[.int .i64 (sumP l d f t).1, .bool (sumP l d f t).2]) ∧ Below w.heap.size w w' := by
  have HC := Lib.hid hc; clear hc
  have HN := Lib.hid hn; clear hn
  have HD := HC
  rcases sp4 (areBookings l) (inB d 1 4) (inB f 0 4000) (inB t 0 4000) with t1 | ⟨t1, t2⟩ | ⟨t1, t2, t3⟩ | ⟨t1, t2, t3, t4⟩ | ⟨t1, t2, t3, t4⟩
  rotate_left 4
  · have HT1 := Lib.hid t1
    have hd : sumP l d f t = (sumKind l d f t l.length, true) := by simp [sumP, t1, t2, t3, t4]
    rw [hd]
    clear hd
    have hm20 : m ≤ 20 := by have := areBookings_len t1; rw [HN.out] at this; exact this
    go_enter Try.func37, Try.ntmps37
    go_wp2_with (first | (go_at_call 34; refine (impl_AreBookings_any l m HN.out _ _ _ hl HC.out).mono ?_; rintro e w1 ⟨rfl, hb⟩; obtain ⟨p, rfl⟩ := below_gw hb; clear hb) | (go_at_call 68; refine (isBookKind_any _ _).mono ?_; rintro e w1 ⟨rfl, rfl⟩) | (go_at_call 69; refine (isDay_any _ _).mono ?_; rintro e w1 ⟨rfl, rfl⟩))
    clear t1 t2 t3 t4
    go_loopw [10, 33] (fun i j wr => ∃ (k : Nat) (s : Int), k ≤ m ∧ j = .int .i64 k ∧ i = .int .i64 s ∧ (0 ≤ s ∧ s ≤ 100000 * k) ∧ s = sumKind l d f t k ∧ Below w.heap.size w wr) (fun _ j _ => m - (intOf j).toNat)
    case atStart => exact ⟨0, 0, Nat.zero_le _, rfl, rfl, by omega, rfl, (by repeat (first | assumption | exact Below.refl _ _ | apply bl_gw | apply bl_alloc | apply bl_drewN | apply bl_drew))⟩
    case round =>
      obtain ⟨k, s, hkm, rfl, rfl, ⟨hs0, hs1⟩, hs, hbel⟩ := hrel
      have HS := Lib.hid hs; clear hs
      have hsz := hbel.size
      by_cases hlt : k < m
      · obtain ⟨bk, off, rfl, hb, hcs⟩ := HD.out.booking (by rw [HN.out]; omega)
        have hx : l[k]? = some (l[k]'(by rw [HN.out]; exact hlt)) := List.getElem?_eq_getElem _
        generalize l[k]'(by rw [HN.out]; exact hlt) = y at hx
        obtain ⟨c0, c1, c2⟩ := hcs k y hx
        clear hcs
        have hstep : sumKind l d f t (k + 1) = if decide (y.kind = d) && inB y.day f t then s + y.kilos else s := by rw [HS.out]; simp [sumKind, loopTo, List.getElem!_of_getElem? hx]
        obtain ⟨⟨_, _⟩, ⟨_, _⟩, ⟨y5, y6⟩⟩ := bookingOK_at (areBookings_ok HT1.out hx)
        clear hx
        rw [← hbel.cell hb] at c0 c1 c2
        have hbw : bk < wr.heap.size := by omega
        have k1 : (k : Int) < m := by omega
        have k2 : (0 : Int) ≤ k := by omega
        have k3 : IntKind.i64.wrap (s + y.kilos) = s + y.kilos := IntWalk.i64_in _ (by omega)
        have HQ := Lib.hid hstep
        clear hstep
        go_wp2_with ((go_at_call 41; refine (within_any _ _ _ _).mono ?_; rintro e w1 ⟨rfl, rfl⟩))
        all_goals
          go_roundw
          case rel =>
            first
            | exact ⟨k + 1, s, by omega, by go_num, rfl, by omega, by rw [HQ.out]; simp [*], (by repeat (first | assumption | exact Below.refl _ _ | apply bl_gw | apply bl_alloc | apply bl_drewN | apply bl_drew))⟩
            | exact ⟨k + 1, s + y.kilos, by omega, by go_num, rfl, by omega, by rw [HQ.out]; simp [*], (by repeat (first | assumption | exact Below.refl _ _ | apply bl_gw | apply bl_alloc | apply bl_drewN | apply bl_drew))⟩
          case measure => simp [intOf]; omega
      · go_wp2
        go_ret2
        obtain rfl : k = m := by omega
        exact ⟨by rw [HS.out, HN.out]; rfl, hbel⟩
  all_goals
    have hd : sumP l d f t = (0, false) := by simp [sumP, *]
    rw [hd]
    clear hd
    go_enter Try.func37, Try.ntmps37
    go_wp2_with (first | (go_at_call 34; refine (impl_AreBookings_any l m HN.out _ _ _ hl HC.out).mono ?_; rintro e w1 ⟨rfl, hb⟩; obtain ⟨p, rfl⟩ := below_gw hb; clear hb) | (go_at_call 68; refine (isBookKind_any _ _).mono ?_; rintro e w1 ⟨rfl, rfl⟩) | (go_at_call 69; refine (isDay_any _ _).mono ?_; rintro e w1 ⟨rfl, rfl⟩))
    go_ret2
    exact ⟨rfl, (by repeat (first | assumption | exact Below.refl _ _ | apply bl_gw | apply bl_alloc | apply bl_drewN | apply bl_drew))⟩
end Go.Proofs.Ytcajgadgdjopdaa
