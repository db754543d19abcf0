/- The law FnExactIsField: the program's answer is the reference's, shares no memory and leaves its arguments alone. No condition. -/
import Derived.Test.YtbedepmcecdhfaaFieldC
import Derived.Test.YtbedepmcecdhfaaFrame
import Derived.Test.YtbedepmcecdhfaaTurn
namespace Go.Proofs.Ytbedepmcecdhfaa
open Go.ChangeShapes Go.WideShapes Go.ChangeAt Go.RowKit
set_option maxRecDepth 4000 in
set_option maxHeartbeats 8000000 in
theorem FnExactIsField_walk (l0 : List Gauge) (n0 : Nat) (hn0 : l0.length = n0) (A0 : Option Addr) (cap0 : Nat) (l1 : List Ditch) (n1 : Nat) (hn1 : l1.length = n1) (A1 : Option Addr) (cap1 : Nat) (w : World) (hm0 : n0 ≤ 9223372036854775807) (hc0 : Sl encGauge w w.heap.size A0 l0) (hm1 : n1 ≤ 9223372036854775807) (hc1 : Sl encDitch w w.heap.size A1 l1) :
    Calls Try.prog 6 #[.slice A0 n0 cap0, .slice A1 n1 cap1] w fun e w' => e = .returned (.bool true) ∧ Below w.heap.size w w' := by
  have C0_0 := Lib.hid hc0; clear hc0
  have HN0 := Lib.hid hn0; clear hn0
  have C1_0 := Lib.hid hc1; clear hc1
  have HN1 := Lib.hid hn1; clear hn1
  by_cases hl0 : n0 ≤ 1048576
  rotate_left
  · have hl' : 1048576 < n0 := by omega
    go_enter Try.func6, Try.ntmps6
    go_wp2_with fail
    refine (szGaugeS_over _ _ _ _ _ (by omega) (by omega) hm0).mono ?_; rintro e w' ⟨rfl, rfl⟩
    go_wp2
    go_ret
    exact ⟨rfl, (by repeat (first | assumption | exact Below.refl _ _ | apply bl_gw | apply bl_alloc | apply bl_drewN | apply bl_drew))⟩
  by_cases hl1 : n0 + n1 ≤ 1048576
  rotate_left
  · have hl' : 1048576 < n0 + n1 := by omega
    go_enter Try.func6, Try.ntmps6
    go_wp2_with fail
    refine (szGaugeS_fit _ _ _ _ _ (by omega) (by omega)).mono ?_; rintro e w' ⟨rfl, rfl⟩
    go_wp2_with fail
    refine (szDitchS_over _ _ _ _ _ (by omega) (by omega) hm1).mono ?_; rintro e w' ⟨rfl, rfl⟩
    go_wp2
    go_ret
    exact ⟨rfl, (by repeat (first | assumption | exact Below.refl _ _ | apply bl_gw | apply bl_alloc | apply bl_drewN | apply bl_drew))⟩
  have hq0 : n0 ≤ 1048576 := by omega
  have hq1 : n1 ≤ 1048576 := by omega
  go_enter Try.func6, Try.ntmps6
  go_wp2_with fail
  refine (szGaugeS_fit _ _ _ _ _ (by omega) (by omega)).mono ?_; rintro e w' ⟨rfl, rfl⟩
  go_wp2_with fail
  refine (szDitchS_fit _ _ _ _ _ (by omega) (by omega)).mono ?_; rintro e w' ⟨rfl, rfl⟩
  have BB_0 := Lib.hid (Below.refl w.heap.size w)
  go_wp2_with fail
  refine (toGaugeS_sl l0 n0 HN0.out _ _ _ hq0 (C0_0.out.more BB_0.out.size)).mono ?_
  rintro e w1 ⟨a0A, a0c, rfl, s, o, b⟩
  have a0p := o.cap
  have C0_1 := Lib.hid (C0_0.out.below (b.mono BB_0.out.size)); clear C0_0
  have C1_1 := Lib.hid (C1_0.out.below (b.mono BB_0.out.size)); clear C1_0
  have BB_1 := Lib.hid (below_step BB_0.out b)
  have a0o_1 := Lib.hid o
  clear s o b
  go_wp2_with fail
  refine (toDitchS_sl l1 n1 HN1.out _ _ _ hq1 (C1_1.out.more BB_1.out.size)).mono ?_
  rintro e w2 ⟨a1A, a1c, rfl, s, o, b⟩
  have a1p := o.cap
  have C0_2 := Lib.hid (C0_1.out.below (b.mono BB_1.out.size)); clear C0_1
  have C1_2 := Lib.hid (C1_1.out.below (b.mono BB_1.out.size)); clear C1_1
  have a0o_2 := Lib.hid (a0o_1.out.past b (Nat.le_refl _)); clear a0o_1
  have BB_2 := Lib.hid (below_step BB_1.out b)
  have a1o_2 := Lib.hid o
  clear s o b
  go_wp2_with fail
  refine (spec_IsField_any l0 l1 n0 n1 HN0.out HN1.out _ _ _ _ _ hq0 hq1 (a0o_2.out.rd) (a1o_2.out.rd)).mono ?_
  rintro e w3 ⟨rfl, b⟩
  have BW_3 := Lib.hid (Below.refl w3.heap.size w3)
  have C0_3 := Lib.hid (C0_2.out.below (b.mono BB_2.out.size)); clear C0_2
  have C1_3 := Lib.hid (C1_2.out.below (b.mono BB_2.out.size)); clear C1_2
  have a0o_3 := Lib.hid (a0o_2.out.past b (Nat.le_refl _)); clear a0o_2
  have a1o_3 := Lib.hid (a1o_2.out.past b (Nat.le_refl _)); clear a1o_2
  have BB_3 := Lib.hid (below_step BB_2.out b)
  clear b 
  clear a0o_3
  clear a1o_3
  go_wp2_with fail
  refine (toGaugeS_sl l0 n0 HN0.out _ _ _ hq0 (C0_3.out.more BB_3.out.size)).mono ?_
  have bx0 := BB_3.out.size
  have by0 := BW_3.out.size
  rintro e w4 ⟨x0A, x0c, rfl, s, o, b⟩
  have x0p := o.cap
  have x0lo := Lib.hid o.lo
  have C0_4 := Lib.hid (C0_3.out.below (b.mono BB_3.out.size)); clear C0_3
  have C1_4 := Lib.hid (C1_3.out.below (b.mono BB_3.out.size)); clear C1_3
  have BB_4 := Lib.hid (below_step BB_3.out b)
  have BW_4 := Lib.hid (below_step BW_3.out b)
  have x0h_4 := Lib.hid o.hi
  have x0o_4 := Lib.hid o
  clear s o b
  go_wp2_with fail
  refine (toDitchS_sl l1 n1 HN1.out _ _ _ hq1 (C1_4.out.more BB_4.out.size)).mono ?_
  have bx1 := BB_4.out.size
  have by1 := BW_4.out.size
  have x0h_at1 := x0h_4
  rintro e w5 ⟨x1A, x1c, rfl, s, o, b⟩
  have x1p := o.cap
  have x1lo := Lib.hid o.lo
  have C0_5 := Lib.hid (C0_4.out.below (b.mono BB_4.out.size)); clear C0_4
  have C1_5 := Lib.hid (C1_4.out.below (b.mono BB_4.out.size)); clear C1_4
  have x0o_5 := Lib.hid (x0o_4.out.past b (Nat.le_refl _)); clear x0o_4
  have x0h_5 := Lib.hid (x0h_4.out.mono b.size); clear x0h_4
  have BB_5 := Lib.hid (below_step BB_4.out b)
  have BW_5 := Lib.hid (below_step BW_4.out b)
  have x1h_5 := Lib.hid o.hi
  have x1o_5 := Lib.hid o
  clear s o b
  have bgx := BB_5.out.size
  have bgy := BW_5.out.size
  go_wp2_with fail
  refine (impl_IsField_any l0 l1 n0 n1 HN0.out HN1.out _ _ _ _ _ hq0 hq1 (x0o_5.out.rd) (x1o_5.out.rd)).mono ?_
  rintro e w6 ⟨rfl, b⟩
  have x0h_at := x0h_5
  have x1h_at := x1h_5
  have C0_6 := Lib.hid (C0_5.out.below (b.mono BB_5.out.size)); clear C0_5
  have C1_6 := Lib.hid (C1_5.out.below (b.mono BB_5.out.size)); clear C1_5
  have x0o_6 := Lib.hid (x0o_5.out.past b (Nat.le_refl _)); clear x0o_5
  have x1o_6 := Lib.hid (x1o_5.out.past b (Nat.le_refl _)); clear x1o_5
  have x0h_6 := Lib.hid (x0h_5.out.mono b.size); clear x0h_5
  have x1h_6 := Lib.hid (x1h_5.out.mono b.size); clear x1h_5
  have BB_6 := Lib.hid (below_step BB_5.out b)
  have BW_6 := Lib.hid (below_step BW_5.out b)
  clear b 
  go_wp2_with fail
  refine (toGaugeS_sl l0 n0 HN0.out _ _ _ hq0 (C0_6.out.more BB_6.out.size)).mono ?_
  rintro e w7 ⟨yA, yc, rfl, s, o, b⟩
  have C0_7 := Lib.hid (C0_6.out.below (b.mono BB_6.out.size)); clear C0_6
  have C1_7 := Lib.hid (C1_6.out.below (b.mono BB_6.out.size)); clear C1_6
  have x0o_7 := Lib.hid (x0o_6.out.past b (Nat.le_refl _)); clear x0o_6
  have x1o_7 := Lib.hid (x1o_6.out.past b (Nat.le_refl _)); clear x1o_6
  have BB_7 := Lib.hid (below_step BB_6.out b)
  have BW_7 := Lib.hid (below_step BW_6.out b)
  have y_ := Lib.hid s
  clear s o b
  go_wp2_with fail
  refine (eqGaugeS_same l0 n0 HN0.out _ _ _ _ _ (by omega) (x0o_7.out.rd) (y_.out)).mono ?_
  rintro e w8 ⟨rfl, b⟩
  have C0_8 := Lib.hid (C0_7.out.below (b.mono BB_7.out.size)); clear C0_7
  have C1_8 := Lib.hid (C1_7.out.below (b.mono BB_7.out.size)); clear C1_7
  have x0o_8 := Lib.hid (x0o_7.out.past b (Nat.le_refl _)); clear x0o_7
  have x1o_8 := Lib.hid (x1o_7.out.past b (Nat.le_refl _)); clear x1o_7
  have BB_8 := Lib.hid (below_step BB_7.out b)
  have BW_8 := Lib.hid (below_step BW_7.out b)
  clear b
  clear y_
  go_wp2_with fail
  refine (toDitchS_sl l1 n1 HN1.out _ _ _ hq1 (C1_8.out.more BB_8.out.size)).mono ?_
  rintro e w9 ⟨yA, yc, rfl, s, o, b⟩
  have C0_9 := Lib.hid (C0_8.out.below (b.mono BB_8.out.size)); clear C0_8
  have C1_9 := Lib.hid (C1_8.out.below (b.mono BB_8.out.size)); clear C1_8
  have x0o_9 := Lib.hid (x0o_8.out.past b (Nat.le_refl _)); clear x0o_8
  have x1o_9 := Lib.hid (x1o_8.out.past b (Nat.le_refl _)); clear x1o_8
  have BB_9 := Lib.hid (below_step BB_8.out b)
  have BW_9 := Lib.hid (below_step BW_8.out b)
  have y_ := Lib.hid s
  clear s o b
  go_wp2_with fail
  refine (eqDitchS_same l1 n1 HN1.out _ _ _ _ _ (by omega) (x1o_9.out.rd) (y_.out)).mono ?_
  rintro e w10 ⟨rfl, b⟩
  have C0_10 := Lib.hid (C0_9.out.below (b.mono BB_9.out.size)); clear C0_9
  have C1_10 := Lib.hid (C1_9.out.below (b.mono BB_9.out.size)); clear C1_9
  have x0o_10 := Lib.hid (x0o_9.out.past b (Nat.le_refl _)); clear x0o_9
  have x1o_10 := Lib.hid (x1o_9.out.past b (Nat.le_refl _)); clear x1o_9
  have BB_10 := Lib.hid (below_step BB_9.out b)
  have BW_10 := Lib.hid (below_step BW_9.out b)
  clear b
  clear y_
  go_wp2
  go_ret
  exact ⟨rfl, BB_10.out⟩
set_option maxRecDepth 100000 in
theorem FnExactIsField_lifted (os : Os) (started : os.Started) (H : Type) (enc : TypeId × Value → H) :
    ReturnsInHanded {} Try.checked os 6 .any (Rows.fnExactIsFieldSpec.pre6 enc Try.prog Try.f6 Rows.fnExactIsFieldRow.domain false) (Rows.fnExactIsFieldSpec.post enc Try.prog Try.f6 false true false false) := by
  refine returnsInHanded_of_change (C := Try.checked) own_ started (by kernel_rfl) Try.func6
    (ChangeSpec.witness6 (enc := enc) (C := Try.checked) false ⟨#[], #[.slice none 0 0, .slice none 0 0], []⟩ 8 (by kernel_rfl) (by kernel_rfl) (by kernel_rfl) (by kernel_rfl)) ?_
  intro W base args ds gs before hval0 hW hcnd _
  have hval : ∀ (j : Nat) t v, Try.f6.params[j]? = some t → args[j]? = some v → Value.okWide Try.prog W .any base t v := hval0
  clear hval0 hcnd
  refine law_contract laid_ (tb := 4) rfl rfl Try.underlying4 (fun ds hd => ?_) (by show Readable Try.prog [38, 25]; repeat (first | exact trivial | refine ⟨⟨by kernel_rfl, of_decide_eq_true (by kernel_rfl)⟩, ?_⟩)) hW ?_
  · match ds, hd with
    | [d0, d1], _ => rfl
  obtain ⟨p, q, hA0, hV, rfl, hfz, hnd⟩ := hW
  have hA : DataW.TrodAll enc Try.prog W 0 (fun _ => true) true Try.f6.params.toList args.toList ds p := hA0
  clear hA0
  rw [Try.params6] at hA hval
  obtain ⟨v0, vs0, d0, ds0, p0, q0, hargs, rfl, rfl, h0, r0⟩ := trodAll_cons hA
  obtain ⟨v1, vs1, d1, ds1, p1, q1, rfl, rfl, rfl, h1, r1⟩ := trodAll_cons r0
  obtain ⟨rfl, rfl, rfl⟩ := trodAll_nil r1
  obtain rfl : args = #[v0, v1] := by cases args; simp_all
  obtain ⟨A0, m0, cc0, ll0, rfl, hn0, hm0, hsl0, _⟩ := open_sl encGauge mkGauge mkGauge_f Try.underlying38 Try.underlying101 (by kernel_rfl) (by kernel_rfl) rfl (by decide) (fun j f hj => by
    match j, hj with
    | 0, hj | 1, hj => simp at hj; subst hj; exact Try.underlying3) (hval 0 _ v0 rfl rfl) h0
  obtain ⟨A1, m1, cc1, ll1, rfl, hn1, hm1, hsl1, _⟩ := open_sla encDitch mkDitch mkDitch_f Try.underlying25 Try.underlying84 Try.underlying3 (by kernel_rfl) (by kernel_rfl) (by decide) (hval 1 _ v1 rfl rfl) h1
  exact FnExactIsField_walk ll0 m0 hn0 A0 cc0 ll1 m1 hn1 A1 cc1 W (by unfold maxLen at hm0; exact hm0) hsl0 (by unfold maxLen at hm1; exact hm1) hsl1
theorem FnExactIsField_holds : Rows.FnExactIsFieldSaid :=
  OpenClaim.holds_of_wide 6 Try.f6 rfl rfl rfl rfl rfl rfl rfl ⟨rfl, rfl, rfl, rfl, rfl⟩ rfl rfl rfl rfl rfl (by kernel_rfl) Try.func6 (by kernel_rfl)
    (of_decide_eq_true (by kernel_rfl)) (by unfold Func.isWrapper; rw [if_neg (of_decide_eq_false (by kernel_rfl))]; exact ⟨rfl, rfl⟩)
    (fun os started H enc _ => FnExactIsField_lifted os started H enc)
end Go.Proofs.Ytbedepmcecdhfaa
