/- The law FnExactAreBookings: for every list of bookings the program's AreBookings returns what the reference's returns, and leaves its argument alone. No condition. -/
import Derived.Test.YtcajgadgdjopdaaBookingA
import Derived.Test.YtcajgadgdjopdaaFrame
namespace Go.Proofs.Ytcajgadgdjopdaa
open Go.ChangeShapes Go.WideShapes Go.ChangeAt Go.RowKit
set_option maxHeartbeats 2000000 in
theorem FnExactAreBookings_walk (l : List Booking) (n : Nat) (hn : l.length = n) (A : Option Addr) (cap : Nat) (w : World) (hm : n ≤ 9223372036854775807) (hc : Sl encBooking w w.heap.size A l) :
    Calls Try.prog 6 #[.slice A n cap] w fun e w' => e = .returned (.bool true) ∧ Below w.heap.size w w' := by
  have HC := Lib.hid hc; clear hc
  have HN := Lib.hid hn; clear hn
  by_cases hl : n ≤ 1048576
  · go_enter Try.func6, Try.ntmps6
    go_wp2_with (go_at_call 31; refine (szBookingS_ok _ _ _ _ hl).mono ?_; rintro e w' ⟨rfl, rfl⟩)
    refine (toBookingS_sl l n HN.out _ _ _ hl HC.out).mono ?_
    rintro e w1 ⟨A1, c1, rfl, s1, _, b1⟩
    have S1 := Lib.hid s1; have B1 := Lib.hid b1; have HC1 := Lib.hid (HC.out.past b1); clear s1 b1
    go_wp2_with fail
    refine (specAreBookings_any l n HN.out _ _ _ hl S1.out).mono ?_
    rintro e w2 ⟨rfl, b2⟩
    have B2 := Lib.hid (below_step B1.out b2); have HC2 := Lib.hid (HC1.out.past b2); clear b2
    go_wp2_with fail
    refine (toBookingS_sl l n HN.out _ _ _ hl HC2.out).mono ?_
    rintro e w3 ⟨A3, c3, rfl, s3, _, b3⟩
    have S3 := Lib.hid s3; have B3 := Lib.hid (below_step B2.out b3); have HC3 := Lib.hid (HC2.out.past b3); clear s3 b3
    go_wp2_with fail
    refine (impl_AreBookings_any l n HN.out _ _ _ hl S3.out).mono ?_
    rintro e w4 ⟨rfl, b4⟩
    have B4 := Lib.hid (below_step B3.out b4); have S4 := Lib.hid (S3.out.past b4); have HC4 := Lib.hid (HC3.out.past b4); clear b4
    go_wp2_with fail
    refine (toBookingS_sl l n HN.out _ _ _ hl HC4.out).mono ?_
    rintro e w5 ⟨A5, c5, rfl, s5, _, b5⟩
    have S5 := Lib.hid s5; have B5 := Lib.hid (below_step B4.out b5); have T5 := Lib.hid (S4.out.past b5); clear s5 b5
    go_wp2_with fail
    refine (eqBookingS_same l n HN.out _ _ _ _ _ hl T5.out S5.out).mono ?_
    rintro e w6 ⟨rfl, b6⟩
    have B6 := Lib.hid (below_step B5.out b6); clear b6
    go_wp2_with fail
    go_ret
    exact ⟨rfl, B6.out⟩
  · have hl' : 1048576 < n := by omega
    go_enter Try.func6, Try.ntmps6
    go_wp2_with (go_at_call 31; refine (szBookingS_big _ _ _ _ hl' hm).mono ?_; rintro e w' ⟨rfl, rfl⟩)
    go_ret
    exact ⟨rfl, Below.refl _ _⟩
set_option maxRecDepth 100000 in
theorem FnExactAreBookings_lifted (os : Os) (started : os.Started) (H : Type) (enc : TypeId × Value → H) :
    ReturnsInHanded {} Try.checked os 6 .any (Rows.fnExactAreBookingsSpec.pre6 enc Try.prog Try.f6 Rows.fnExactAreBookingsRow.domain false) (Rows.fnExactAreBookingsSpec.post enc Try.prog Try.f6 false true false false) := by
  refine returnsInHanded_of_change (C := Try.checked) own_ started (by kernel_rfl) Try.func6
    (ChangeSpec.witness6 (enc := enc) (C := Try.checked) false ⟨#[], #[.slice none 0 0], []⟩ 8 (by kernel_rfl) (by kernel_rfl) (by kernel_rfl) (by kernel_rfl)) ?_
  intro W base args ds gs before hval0 hW hcnd _
  have hval : ∀ (j : Nat) t v, Try.f6.params[j]? = some t → args[j]? = some v → Value.okWide Try.prog W .any base t v := hval0
  clear hval0 hcnd
  refine law_contract laid_ (tb := 4) rfl rfl Try.underlying4 (fun ds hd => ?_) (by show Readable Try.prog [47]; repeat (first | exact trivial | refine ⟨⟨by kernel_rfl, of_decide_eq_true (by kernel_rfl)⟩, ?_⟩)) hW ?_
  · match ds, hd with
    | [d0], _ => rfl
  obtain ⟨p, q, hA0, hV, rfl, hfz, hnd⟩ := hW
  have hA : DataW.TrodAll enc Try.prog W 0 (fun _ => true) true Try.f6.params.toList args.toList ds p := hA0
  clear hA0
  rw [Try.params6] at hA hval
  obtain ⟨v0, vs0, d0, ds0, p0, q0, hargs, rfl, rfl, h0, r0⟩ := trodAll_cons hA
  obtain ⟨rfl, rfl, rfl⟩ := trodAll_nil r0
  obtain rfl : args = #[v0] := by cases args; simp_all
  obtain ⟨A, m, c, l, rfl, hn, hm, hsl, _⟩ := open_sl encBooking mkBooking mkBooking_f Try.underlying47 Try.underlying88 (by kernel_rfl) (by kernel_rfl) rfl (by decide) (fun j f hj => by
    match j, hj with
    | 0, hj | 1, hj | 2, hj => simp at hj; subst hj; exact Try.underlying3) (hval 0 _ v0 rfl rfl) h0
  exact FnExactAreBookings_walk l m hn A c W (by unfold maxLen at hm; exact hm) hsl
theorem FnExactAreBookings_holds : Rows.FnExactAreBookingsSaid :=
  OpenClaim.holds_of_wide 6 Try.f6 rfl rfl rfl rfl rfl rfl rfl ⟨rfl, rfl, rfl, rfl, rfl⟩ rfl rfl rfl rfl rfl (by kernel_rfl) Try.func6 (by kernel_rfl)
    (of_decide_eq_true (by kernel_rfl)) (by unfold Func.isWrapper; rw [if_neg (of_decide_eq_false (by kernel_rfl))]; exact ⟨rfl, rfl⟩)
    (fun os started H enc _ => FnExactAreBookings_lifted os started H enc)
end Go.Proofs.Ytcajgadgdjopdaa
