/- The law FnExactWhyNoPlan: the program's answer is the reference's, shares no memory and leaves its arguments alone. No condition. -/
import Derived.Test.YtbedepmcecdhfaaWhyNo
import Derived.Test.YtbedepmcecdhfaaGaugeM
import Derived.Test.YtbedepmcecdhfaaDitchM
import Derived.Test.YtbedepmcecdhfaaIntM
import Derived.Test.YtbedepmcecdhfaaFrameI
import Derived.Test.YtbedepmcecdhfaaTurn
namespace Go.Proofs.Ytbedepmcecdhfaa
open Go.ChangeShapes Go.WideShapes Go.ChangeAt Go.RowKit
set_option maxRecDepth 4000 in
set_option maxHeartbeats 8000000 in
theorem FnExactWhyNoPlan_walk (l0 : List Gauge) (n0 : Nat) (hn0 : l0.length = n0) (A0 : Option Addr) (cap0 : Nat) (l1 : List Ditch) (n1 : Nat) (hn1 : l1.length = n1) (A1 : Option Addr) (cap1 : Nat) (l2 : List Int) (n2 : Nat) (hn2 : l2.length = n2) (A2 : Option Addr) (cap2 : Nat) (l3 : List Int) (n3 : Nat) (hn3 : l3.length = n3) (A3 : Option Addr) (cap3 : Nat) (w : World) (hm0 : n0 ≤ 9223372036854775807) (hc0 : Sl encGauge w w.heap.size A0 l0) (hm1 : n1 ≤ 9223372036854775807) (hc1 : Sl encDitch w w.heap.size A1 l1) (hm2 : n2 ≤ 9223372036854775807) (hc2 : Sl encInt w w.heap.size A2 l2) (hm3 : n3 ≤ 9223372036854775807) (hc3 : Sl encInt w w.heap.size A3 l3) :
    Calls Try.prog 12 #[.slice A0 n0 cap0, .slice A1 n1 cap1, .slice A2 n2 cap2, .slice A3 n3 cap3] w fun e w' => e = .returned (.bool true) ∧ Below w.heap.size w w' := by
  have C0_0 := Lib.hid hc0; clear hc0
  have HN0 := Lib.hid hn0; clear hn0
  have C1_0 := Lib.hid hc1; clear hc1
  have HN1 := Lib.hid hn1; clear hn1
  have C2_0 := Lib.hid hc2; clear hc2
  have HN2 := Lib.hid hn2; clear hn2
  have C3_0 := Lib.hid hc3; clear hc3
  have HN3 := Lib.hid hn3; clear hn3
  by_cases hq2 : n2 ≤ 1048576
  rotate_left
  · have hl' : 1048576 < n2 := by omega
    go_enter Try.func12, Try.ntmps12
    go_wp2
    go_ret
    exact ⟨rfl, (by repeat (first | assumption | exact Below.refl _ _ | apply bl_gw | apply bl_alloc | apply bl_drewN | apply bl_drew))⟩
  by_cases hq3 : n3 ≤ 1048576
  rotate_left
  · have hl' : 1048576 < n3 := by omega
    go_enter Try.func12, Try.ntmps12
    go_wp2
    go_ret
    exact ⟨rfl, (by repeat (first | assumption | exact Below.refl _ _ | apply bl_gw | apply bl_alloc | apply bl_drewN | apply bl_drew))⟩
  by_cases hl0 : n0 ≤ 1048576
  rotate_left
  · have hl' : 1048576 < n0 := by omega
    go_enter Try.func12, Try.ntmps12
    go_wp2_with fail
    refine (szGaugeS_over _ _ _ _ _ (by omega) (by omega) hm0).mono ?_; rintro e w' ⟨rfl, rfl⟩
    go_wp2
    go_ret
    exact ⟨rfl, (by repeat (first | assumption | exact Below.refl _ _ | apply bl_gw | apply bl_alloc | apply bl_drewN | apply bl_drew))⟩
  by_cases hl1 : n0 + n1 ≤ 1048576
  rotate_left
  · have hl' : 1048576 < n0 + n1 := by omega
    go_enter Try.func12, Try.ntmps12
    go_wp2_with fail
    refine (szGaugeS_fit _ _ _ _ _ (by omega) (by omega)).mono ?_; rintro e w' ⟨rfl, rfl⟩
    go_wp2_with fail
    refine (szDitchS_over _ _ _ _ _ (by omega) (by omega) hm1).mono ?_; rintro e w' ⟨rfl, rfl⟩
    go_wp2
    go_ret
    exact ⟨rfl, (by repeat (first | assumption | exact Below.refl _ _ | apply bl_gw | apply bl_alloc | apply bl_drewN | apply bl_drew))⟩
  have hq0 : n0 ≤ 1048576 := by omega
  have hq1 : n1 ≤ 1048576 := by omega
  go_enter Try.func12, Try.ntmps12
  go_wp2_with fail
  refine (szGaugeS_fit _ _ _ _ _ (by omega) (by omega)).mono ?_; rintro e w' ⟨rfl, rfl⟩
  go_wp2_with fail
  refine (szDitchS_fit _ _ _ _ _ (by omega) (by omega)).mono ?_; rintro e w' ⟨rfl, rfl⟩
  have BB_0 := Lib.hid (Below.refl w.heap.size w)
  go_wp2_with fail
  refine (toGaugeS_sl l0 n0 HN0.out _ _ _ hq0 (C0_0.out.more BB_0.out.size)).mono ?_
  rintro e w1 ⟨a0A, a0c, rfl, s, o, b⟩
  have a0p := o.cap
  have C0_1 := Lib.hid (C0_0.out.below (b.mono BB_0.out.size)); clear C0_0
  have C1_1 := Lib.hid (C1_0.out.below (b.mono BB_0.out.size)); clear C1_0
  have C2_1 := Lib.hid (C2_0.out.below (b.mono BB_0.out.size)); clear C2_0
  have C3_1 := Lib.hid (C3_0.out.below (b.mono BB_0.out.size)); clear C3_0
  have BB_1 := Lib.hid (below_step BB_0.out b)
  have a0o_1 := Lib.hid o
  clear s o b
  go_wp2_with fail
  refine (toDitchS_sl l1 n1 HN1.out _ _ _ hq1 (C1_1.out.more BB_1.out.size)).mono ?_
  rintro e w2 ⟨a1A, a1c, rfl, s, o, b⟩
  have a1p := o.cap
  have C0_2 := Lib.hid (C0_1.out.below (b.mono BB_1.out.size)); clear C0_1
  have C1_2 := Lib.hid (C1_1.out.below (b.mono BB_1.out.size)); clear C1_1
  have C2_2 := Lib.hid (C2_1.out.below (b.mono BB_1.out.size)); clear C2_1
  have C3_2 := Lib.hid (C3_1.out.below (b.mono BB_1.out.size)); clear C3_1
  have a0o_2 := Lib.hid (a0o_1.out.past b (Nat.le_refl _)); clear a0o_1
  have BB_2 := Lib.hid (below_step BB_1.out b)
  have a1o_2 := Lib.hid o
  clear s o b
  go_wp2_with fail
  refine (toIntS_sl l2 n2 HN2.out _ _ _ hq2 (C2_2.out.more BB_2.out.size)).mono ?_
  rintro e w3 ⟨a2A, a2c, rfl, s, o, b⟩
  have a2p := o.cap
  have C0_3 := Lib.hid (C0_2.out.below (b.mono BB_2.out.size)); clear C0_2
  have C1_3 := Lib.hid (C1_2.out.below (b.mono BB_2.out.size)); clear C1_2
  have C2_3 := Lib.hid (C2_2.out.below (b.mono BB_2.out.size)); clear C2_2
  have C3_3 := Lib.hid (C3_2.out.below (b.mono BB_2.out.size)); clear C3_2
  have a0o_3 := Lib.hid (a0o_2.out.past b (Nat.le_refl _)); clear a0o_2
  have a1o_3 := Lib.hid (a1o_2.out.past b (Nat.le_refl _)); clear a1o_2
  have BB_3 := Lib.hid (below_step BB_2.out b)
  have a2o_3 := Lib.hid o
  clear s o b
  go_wp2_with fail
  refine (toIntS_sl l3 n3 HN3.out _ _ _ hq3 (C3_3.out.more BB_3.out.size)).mono ?_
  rintro e w4 ⟨a3A, a3c, rfl, s, o, b⟩
  have a3p := o.cap
  have C0_4 := Lib.hid (C0_3.out.below (b.mono BB_3.out.size)); clear C0_3
  have C1_4 := Lib.hid (C1_3.out.below (b.mono BB_3.out.size)); clear C1_3
  have C2_4 := Lib.hid (C2_3.out.below (b.mono BB_3.out.size)); clear C2_3
  have C3_4 := Lib.hid (C3_3.out.below (b.mono BB_3.out.size)); clear C3_3
  have a0o_4 := Lib.hid (a0o_3.out.past b (Nat.le_refl _)); clear a0o_3
  have a1o_4 := Lib.hid (a1o_3.out.past b (Nat.le_refl _)); clear a1o_3
  have a2o_4 := Lib.hid (a2o_3.out.past b (Nat.le_refl _)); clear a2o_3
  have BB_4 := Lib.hid (below_step BB_3.out b)
  have a3o_4 := Lib.hid o
  clear s o b
  go_wp2_with fail
  refine (spec_WhyNoPlan_any l0 l1 l2 l3 n0 n1 n2 n3 HN0.out HN1.out HN2.out HN3.out _ _ _ _ _ _ _ _ _ hq0 hq1 hq2 hq3 a2p (a0o_4.out.rd) (a1o_4.out.rd) (a2o_4.out.rd) (a3o_4.out.rd)).mono ?_
  rintro e w5 ⟨rfl, b⟩
  have BW_5 := Lib.hid (Below.refl w5.heap.size w5)
  have C0_5 := Lib.hid (C0_4.out.below (b.mono BB_4.out.size)); clear C0_4
  have C1_5 := Lib.hid (C1_4.out.below (b.mono BB_4.out.size)); clear C1_4
  have C2_5 := Lib.hid (C2_4.out.below (b.mono BB_4.out.size)); clear C2_4
  have C3_5 := Lib.hid (C3_4.out.below (b.mono BB_4.out.size)); clear C3_4
  have a0o_5 := Lib.hid (a0o_4.out.past b (Nat.le_refl _)); clear a0o_4
  have a1o_5 := Lib.hid (a1o_4.out.past b (Nat.le_refl _)); clear a1o_4
  have a2o_5 := Lib.hid (a2o_4.out.past b (Nat.le_refl _)); clear a2o_4
  have a3o_5 := Lib.hid (a3o_4.out.past b (Nat.le_refl _)); clear a3o_4
  have BB_5 := Lib.hid (below_step BB_4.out b)
  clear b 
  clear a0o_5
  clear a1o_5
  clear a2o_5
  clear a3o_5
  go_wp2_with fail
  refine (toGaugeS_sl l0 n0 HN0.out _ _ _ hq0 (C0_5.out.more BB_5.out.size)).mono ?_
  have bx0 := BB_5.out.size
  have by0 := BW_5.out.size
  rintro e w6 ⟨x0A, x0c, rfl, s, o, b⟩
  have x0p := o.cap
  have x0lo := Lib.hid o.lo
  have C0_6 := Lib.hid (C0_5.out.below (b.mono BB_5.out.size)); clear C0_5
  have C1_6 := Lib.hid (C1_5.out.below (b.mono BB_5.out.size)); clear C1_5
  have C2_6 := Lib.hid (C2_5.out.below (b.mono BB_5.out.size)); clear C2_5
  have C3_6 := Lib.hid (C3_5.out.below (b.mono BB_5.out.size)); clear C3_5
  have BB_6 := Lib.hid (below_step BB_5.out b)
  have BW_6 := Lib.hid (below_step BW_5.out b)
  have x0h_6 := Lib.hid o.hi
  have x0o_6 := Lib.hid o
  clear s o b
  go_wp2_with fail
  refine (toDitchS_sl l1 n1 HN1.out _ _ _ hq1 (C1_6.out.more BB_6.out.size)).mono ?_
  have bx1 := BB_6.out.size
  have by1 := BW_6.out.size
  have x0h_at1 := x0h_6
  rintro e w7 ⟨x1A, x1c, rfl, s, o, b⟩
  have x1p := o.cap
  have x1lo := Lib.hid o.lo
  have C0_7 := Lib.hid (C0_6.out.below (b.mono BB_6.out.size)); clear C0_6
  have C1_7 := Lib.hid (C1_6.out.below (b.mono BB_6.out.size)); clear C1_6
  have C2_7 := Lib.hid (C2_6.out.below (b.mono BB_6.out.size)); clear C2_6
  have C3_7 := Lib.hid (C3_6.out.below (b.mono BB_6.out.size)); clear C3_6
  have x0o_7 := Lib.hid (x0o_6.out.past b (Nat.le_refl _)); clear x0o_6
  have x0h_7 := Lib.hid (x0h_6.out.mono b.size); clear x0h_6
  have BB_7 := Lib.hid (below_step BB_6.out b)
  have BW_7 := Lib.hid (below_step BW_6.out b)
  have x1h_7 := Lib.hid o.hi
  have x1o_7 := Lib.hid o
  clear s o b
  go_wp2_with fail
  refine (toIntS_sl l2 n2 HN2.out _ _ _ hq2 (C2_7.out.more BB_7.out.size)).mono ?_
  have bx2 := BB_7.out.size
  have by2 := BW_7.out.size
  have x0h_at2 := x0h_7
  have x1h_at2 := x1h_7
  rintro e w8 ⟨x2A, x2c, rfl, s, o, b⟩
  have x2p := o.cap
  have x2lo := Lib.hid o.lo
  have C0_8 := Lib.hid (C0_7.out.below (b.mono BB_7.out.size)); clear C0_7
  have C1_8 := Lib.hid (C1_7.out.below (b.mono BB_7.out.size)); clear C1_7
  have C2_8 := Lib.hid (C2_7.out.below (b.mono BB_7.out.size)); clear C2_7
  have C3_8 := Lib.hid (C3_7.out.below (b.mono BB_7.out.size)); clear C3_7
  have x0o_8 := Lib.hid (x0o_7.out.past b (Nat.le_refl _)); clear x0o_7
  have x1o_8 := Lib.hid (x1o_7.out.past b (Nat.le_refl _)); clear x1o_7
  have x0h_8 := Lib.hid (x0h_7.out.mono b.size); clear x0h_7
  have x1h_8 := Lib.hid (x1h_7.out.mono b.size); clear x1h_7
  have BB_8 := Lib.hid (below_step BB_7.out b)
  have BW_8 := Lib.hid (below_step BW_7.out b)
  have x2h_8 := Lib.hid o.hi
  have x2o_8 := Lib.hid o
  clear s o b
  go_wp2_with fail
  refine (toIntS_sl l3 n3 HN3.out _ _ _ hq3 (C3_8.out.more BB_8.out.size)).mono ?_
  have bx3 := BB_8.out.size
  have by3 := BW_8.out.size
  have x0h_at3 := x0h_8
  have x1h_at3 := x1h_8
  have x2h_at3 := x2h_8
  rintro e w9 ⟨x3A, x3c, rfl, s, o, b⟩
  have x3p := o.cap
  have x3lo := Lib.hid o.lo
  have C0_9 := Lib.hid (C0_8.out.below (b.mono BB_8.out.size)); clear C0_8
  have C1_9 := Lib.hid (C1_8.out.below (b.mono BB_8.out.size)); clear C1_8
  have C2_9 := Lib.hid (C2_8.out.below (b.mono BB_8.out.size)); clear C2_8
  have C3_9 := Lib.hid (C3_8.out.below (b.mono BB_8.out.size)); clear C3_8
  have x0o_9 := Lib.hid (x0o_8.out.past b (Nat.le_refl _)); clear x0o_8
  have x1o_9 := Lib.hid (x1o_8.out.past b (Nat.le_refl _)); clear x1o_8
  have x2o_9 := Lib.hid (x2o_8.out.past b (Nat.le_refl _)); clear x2o_8
  have x0h_9 := Lib.hid (x0h_8.out.mono b.size); clear x0h_8
  have x1h_9 := Lib.hid (x1h_8.out.mono b.size); clear x1h_8
  have x2h_9 := Lib.hid (x2h_8.out.mono b.size); clear x2h_8
  have BB_9 := Lib.hid (below_step BB_8.out b)
  have BW_9 := Lib.hid (below_step BW_8.out b)
  have x3h_9 := Lib.hid o.hi
  have x3o_9 := Lib.hid o
  clear s o b
  have bgx := BB_9.out.size
  have bgy := BW_9.out.size
  go_wp2_with fail
  refine (impl_WhyNoPlan_any l0 l1 l2 l3 n0 n1 n2 n3 HN0.out HN1.out HN2.out HN3.out _ _ _ _ _ _ _ _ _ hq0 hq1 hq2 hq3 x2p x3p (x0o_9.out.rd) (x1o_9.out.rd) (x2o_9.out.rd) (x3o_9.out.rd)).mono ?_
  rintro e w10 ⟨rfl, b⟩
  have x0h_at := x0h_9
  have x1h_at := x1h_9
  have x2h_at := x2h_9
  have x3h_at := x3h_9
  have C0_10 := Lib.hid (C0_9.out.below (b.mono BB_9.out.size)); clear C0_9
  have C1_10 := Lib.hid (C1_9.out.below (b.mono BB_9.out.size)); clear C1_9
  have C2_10 := Lib.hid (C2_9.out.below (b.mono BB_9.out.size)); clear C2_9
  have C3_10 := Lib.hid (C3_9.out.below (b.mono BB_9.out.size)); clear C3_9
  have x0o_10 := Lib.hid (x0o_9.out.past b (Nat.le_refl _)); clear x0o_9
  have x1o_10 := Lib.hid (x1o_9.out.past b (Nat.le_refl _)); clear x1o_9
  have x2o_10 := Lib.hid (x2o_9.out.past b (Nat.le_refl _)); clear x2o_9
  have x3o_10 := Lib.hid (x3o_9.out.past b (Nat.le_refl _)); clear x3o_9
  have x0h_10 := Lib.hid (x0h_9.out.mono b.size); clear x0h_9
  have x1h_10 := Lib.hid (x1h_9.out.mono b.size); clear x1h_9
  have x2h_10 := Lib.hid (x2h_9.out.mono b.size); clear x2h_9
  have x3h_10 := Lib.hid (x3h_9.out.mono b.size); clear x3h_9
  have BB_10 := Lib.hid (below_step BB_9.out b)
  have BW_10 := Lib.hid (below_step BW_9.out b)
  clear b 
  go_wp2_with fail
  refine (toGaugeS_sl l0 n0 HN0.out _ _ _ hq0 (C0_10.out.more BB_10.out.size)).mono ?_
  rintro e w11 ⟨yA, yc, rfl, s, o, b⟩
  have C0_11 := Lib.hid (C0_10.out.below (b.mono BB_10.out.size)); clear C0_10
  have C1_11 := Lib.hid (C1_10.out.below (b.mono BB_10.out.size)); clear C1_10
  have C2_11 := Lib.hid (C2_10.out.below (b.mono BB_10.out.size)); clear C2_10
  have C3_11 := Lib.hid (C3_10.out.below (b.mono BB_10.out.size)); clear C3_10
  have x0o_11 := Lib.hid (x0o_10.out.past b (Nat.le_refl _)); clear x0o_10
  have x1o_11 := Lib.hid (x1o_10.out.past b (Nat.le_refl _)); clear x1o_10
  have x2o_11 := Lib.hid (x2o_10.out.past b (Nat.le_refl _)); clear x2o_10
  have x3o_11 := Lib.hid (x3o_10.out.past b (Nat.le_refl _)); clear x3o_10
  have BB_11 := Lib.hid (below_step BB_10.out b)
  have BW_11 := Lib.hid (below_step BW_10.out b)
  have y_ := Lib.hid s
  clear s o b
  go_wp2_with fail
  refine (eqGaugeS_same l0 n0 HN0.out _ _ _ _ _ (by omega) (x0o_11.out.rd) (y_.out)).mono ?_
  rintro e w12 ⟨rfl, b⟩
  have C0_12 := Lib.hid (C0_11.out.below (b.mono BB_11.out.size)); clear C0_11
  have C1_12 := Lib.hid (C1_11.out.below (b.mono BB_11.out.size)); clear C1_11
  have C2_12 := Lib.hid (C2_11.out.below (b.mono BB_11.out.size)); clear C2_11
  have C3_12 := Lib.hid (C3_11.out.below (b.mono BB_11.out.size)); clear C3_11
  have x0o_12 := Lib.hid (x0o_11.out.past b (Nat.le_refl _)); clear x0o_11
  have x1o_12 := Lib.hid (x1o_11.out.past b (Nat.le_refl _)); clear x1o_11
  have x2o_12 := Lib.hid (x2o_11.out.past b (Nat.le_refl _)); clear x2o_11
  have x3o_12 := Lib.hid (x3o_11.out.past b (Nat.le_refl _)); clear x3o_11
  have BB_12 := Lib.hid (below_step BB_11.out b)
  have BW_12 := Lib.hid (below_step BW_11.out b)
  clear b
  clear y_
  go_wp2_with fail
  refine (toDitchS_sl l1 n1 HN1.out _ _ _ hq1 (C1_12.out.more BB_12.out.size)).mono ?_
  rintro e w13 ⟨yA, yc, rfl, s, o, b⟩
  have C0_13 := Lib.hid (C0_12.out.below (b.mono BB_12.out.size)); clear C0_12
  have C1_13 := Lib.hid (C1_12.out.below (b.mono BB_12.out.size)); clear C1_12
  have C2_13 := Lib.hid (C2_12.out.below (b.mono BB_12.out.size)); clear C2_12
  have C3_13 := Lib.hid (C3_12.out.below (b.mono BB_12.out.size)); clear C3_12
  have x0o_13 := Lib.hid (x0o_12.out.past b (Nat.le_refl _)); clear x0o_12
  have x1o_13 := Lib.hid (x1o_12.out.past b (Nat.le_refl _)); clear x1o_12
  have x2o_13 := Lib.hid (x2o_12.out.past b (Nat.le_refl _)); clear x2o_12
  have x3o_13 := Lib.hid (x3o_12.out.past b (Nat.le_refl _)); clear x3o_12
  have BB_13 := Lib.hid (below_step BB_12.out b)
  have BW_13 := Lib.hid (below_step BW_12.out b)
  have y_ := Lib.hid s
  clear s o b
  go_wp2_with fail
  refine (eqDitchS_same l1 n1 HN1.out _ _ _ _ _ (by omega) (x1o_13.out.rd) (y_.out)).mono ?_
  rintro e w14 ⟨rfl, b⟩
  have C0_14 := Lib.hid (C0_13.out.below (b.mono BB_13.out.size)); clear C0_13
  have C1_14 := Lib.hid (C1_13.out.below (b.mono BB_13.out.size)); clear C1_13
  have C2_14 := Lib.hid (C2_13.out.below (b.mono BB_13.out.size)); clear C2_13
  have C3_14 := Lib.hid (C3_13.out.below (b.mono BB_13.out.size)); clear C3_13
  have x0o_14 := Lib.hid (x0o_13.out.past b (Nat.le_refl _)); clear x0o_13
  have x1o_14 := Lib.hid (x1o_13.out.past b (Nat.le_refl _)); clear x1o_13
  have x2o_14 := Lib.hid (x2o_13.out.past b (Nat.le_refl _)); clear x2o_13
  have x3o_14 := Lib.hid (x3o_13.out.past b (Nat.le_refl _)); clear x3o_13
  have BB_14 := Lib.hid (below_step BB_13.out b)
  have BW_14 := Lib.hid (below_step BW_13.out b)
  clear b
  clear y_
  go_wp2_with fail
  refine (toIntS_sl l2 n2 HN2.out _ _ _ hq2 (C2_14.out.more BB_14.out.size)).mono ?_
  rintro e w15 ⟨yA, yc, rfl, s, o, b⟩
  have C0_15 := Lib.hid (C0_14.out.below (b.mono BB_14.out.size)); clear C0_14
  have C1_15 := Lib.hid (C1_14.out.below (b.mono BB_14.out.size)); clear C1_14
  have C2_15 := Lib.hid (C2_14.out.below (b.mono BB_14.out.size)); clear C2_14
  have C3_15 := Lib.hid (C3_14.out.below (b.mono BB_14.out.size)); clear C3_14
  have x0o_15 := Lib.hid (x0o_14.out.past b (Nat.le_refl _)); clear x0o_14
  have x1o_15 := Lib.hid (x1o_14.out.past b (Nat.le_refl _)); clear x1o_14
  have x2o_15 := Lib.hid (x2o_14.out.past b (Nat.le_refl _)); clear x2o_14
  have x3o_15 := Lib.hid (x3o_14.out.past b (Nat.le_refl _)); clear x3o_14
  have BB_15 := Lib.hid (below_step BB_14.out b)
  have BW_15 := Lib.hid (below_step BW_14.out b)
  have y_ := Lib.hid s
  clear s o b
  go_wp2_with fail
  refine (eqIntS_same l2 n2 HN2.out _ _ _ _ _ (by omega) (x2o_15.out.rd) (y_.out)).mono ?_
  rintro e w16 ⟨rfl, b⟩
  have C0_16 := Lib.hid (C0_15.out.below (b.mono BB_15.out.size)); clear C0_15
  have C1_16 := Lib.hid (C1_15.out.below (b.mono BB_15.out.size)); clear C1_15
  have C2_16 := Lib.hid (C2_15.out.below (b.mono BB_15.out.size)); clear C2_15
  have C3_16 := Lib.hid (C3_15.out.below (b.mono BB_15.out.size)); clear C3_15
  have x0o_16 := Lib.hid (x0o_15.out.past b (Nat.le_refl _)); clear x0o_15
  have x1o_16 := Lib.hid (x1o_15.out.past b (Nat.le_refl _)); clear x1o_15
  have x2o_16 := Lib.hid (x2o_15.out.past b (Nat.le_refl _)); clear x2o_15
  have x3o_16 := Lib.hid (x3o_15.out.past b (Nat.le_refl _)); clear x3o_15
  have BB_16 := Lib.hid (below_step BB_15.out b)
  have BW_16 := Lib.hid (below_step BW_15.out b)
  clear b
  clear y_
  go_wp2_with fail
  refine (toIntS_sl l3 n3 HN3.out _ _ _ hq3 (C3_16.out.more BB_16.out.size)).mono ?_
  rintro e w17 ⟨yA, yc, rfl, s, o, b⟩
  have C0_17 := Lib.hid (C0_16.out.below (b.mono BB_16.out.size)); clear C0_16
  have C1_17 := Lib.hid (C1_16.out.below (b.mono BB_16.out.size)); clear C1_16
  have C2_17 := Lib.hid (C2_16.out.below (b.mono BB_16.out.size)); clear C2_16
  have C3_17 := Lib.hid (C3_16.out.below (b.mono BB_16.out.size)); clear C3_16
  have x0o_17 := Lib.hid (x0o_16.out.past b (Nat.le_refl _)); clear x0o_16
  have x1o_17 := Lib.hid (x1o_16.out.past b (Nat.le_refl _)); clear x1o_16
  have x2o_17 := Lib.hid (x2o_16.out.past b (Nat.le_refl _)); clear x2o_16
  have x3o_17 := Lib.hid (x3o_16.out.past b (Nat.le_refl _)); clear x3o_16
  have BB_17 := Lib.hid (below_step BB_16.out b)
  have BW_17 := Lib.hid (below_step BW_16.out b)
  have y_ := Lib.hid s
  clear s o b
  go_wp2_with fail
  refine (eqIntS_same l3 n3 HN3.out _ _ _ _ _ (by omega) (x3o_17.out.rd) (y_.out)).mono ?_
  rintro e w18 ⟨rfl, b⟩
  have C0_18 := Lib.hid (C0_17.out.below (b.mono BB_17.out.size)); clear C0_17
  have C1_18 := Lib.hid (C1_17.out.below (b.mono BB_17.out.size)); clear C1_17
  have C2_18 := Lib.hid (C2_17.out.below (b.mono BB_17.out.size)); clear C2_17
  have C3_18 := Lib.hid (C3_17.out.below (b.mono BB_17.out.size)); clear C3_17
  have x0o_18 := Lib.hid (x0o_17.out.past b (Nat.le_refl _)); clear x0o_17
  have x1o_18 := Lib.hid (x1o_17.out.past b (Nat.le_refl _)); clear x1o_17
  have x2o_18 := Lib.hid (x2o_17.out.past b (Nat.le_refl _)); clear x2o_17
  have x3o_18 := Lib.hid (x3o_17.out.past b (Nat.le_refl _)); clear x3o_17
  have BB_18 := Lib.hid (below_step BB_17.out b)
  have BW_18 := Lib.hid (below_step BW_17.out b)
  clear b
  clear y_
  go_wp2
  go_ret
  exact ⟨rfl, BB_18.out⟩
set_option maxRecDepth 100000 in
theorem FnExactWhyNoPlan_lifted (os : Os) (started : os.Started) (H : Type) (enc : TypeId × Value → H) :
    ReturnsInHanded {} Try.checked os 12 .any (Rows.fnExactWhyNoPlanSpec.pre6 enc Try.prog Try.f12 Rows.fnExactWhyNoPlanRow.domain false) (Rows.fnExactWhyNoPlanSpec.post enc Try.prog Try.f12 false true false false) := by
  refine returnsInHanded_of_change (C := Try.checked) own_ started (by kernel_rfl) Try.func12
    (ChangeSpec.witness6 (enc := enc) (C := Try.checked) false ⟨#[], #[.slice none 0 0, .slice none 0 0, .slice none 0 0, .slice none 0 0], []⟩ 8 (by kernel_rfl) (by kernel_rfl) (by kernel_rfl) (by kernel_rfl)) ?_
  intro W base args ds gs before hval0 hW hcnd _
  have hval : ∀ (j : Nat) t v, Try.f12.params[j]? = some t → args[j]? = some v → Value.okWide Try.prog W .any base t v := hval0
  clear hval0 hcnd
  refine law_contract laid_ (tb := 4) rfl rfl Try.underlying4 (fun ds hd => ?_) (by show Readable Try.prog [38, 25, 26, 26]; repeat (first | exact trivial | refine ⟨⟨by kernel_rfl, of_decide_eq_true (by kernel_rfl)⟩, ?_⟩)) hW ?_
  · match ds, hd with
    | [d0, d1, d2, d3], _ => rfl
  obtain ⟨p, q, hA0, hV, rfl, hfz, hnd⟩ := hW
  have hA : DataW.TrodAll enc Try.prog W 0 (fun _ => true) true Try.f12.params.toList args.toList ds p := hA0
  clear hA0
  rw [Try.params12] at hA hval
  obtain ⟨v0, vs0, d0, ds0, p0, q0, hargs, rfl, rfl, h0, r0⟩ := trodAll_cons hA
  obtain ⟨v1, vs1, d1, ds1, p1, q1, rfl, rfl, rfl, h1, r1⟩ := trodAll_cons r0
  obtain ⟨v2, vs2, d2, ds2, p2, q2, rfl, rfl, rfl, h2, r2⟩ := trodAll_cons r1
  obtain ⟨v3, vs3, d3, ds3, p3, q3, rfl, rfl, rfl, h3, r3⟩ := trodAll_cons r2
  obtain ⟨rfl, rfl, rfl⟩ := trodAll_nil r3
  obtain rfl : args = #[v0, v1, v2, v3] := by cases args; simp_all
  obtain ⟨A0, m0, cc0, ll0, rfl, hn0, hm0, hsl0, _⟩ := open_sl encGauge mkGauge mkGauge_f Try.underlying38 Try.underlying101 (by kernel_rfl) (by kernel_rfl) rfl (by decide) (fun j f hj => by
    match j, hj with
    | 0, hj | 1, hj => simp at hj; subst hj; exact Try.underlying3) (hval 0 _ v0 rfl rfl) h0
  obtain ⟨A1, m1, cc1, ll1, rfl, hn1, hm1, hsl1, _⟩ := open_sla encDitch mkDitch mkDitch_f Try.underlying25 Try.underlying84 Try.underlying3 (by kernel_rfl) (by kernel_rfl) (by decide) (hval 1 _ v1 rfl rfl) h1
  obtain ⟨A2, m2, cc2, ll2, rfl, hn2, hm2, hsl2, _⟩ := open_is Try.underlying26 Try.underlying3 (by kernel_rfl) (hval 2 _ v2 rfl rfl) h2
  obtain ⟨A3, m3, cc3, ll3, rfl, hn3, hm3, hsl3, _⟩ := open_is Try.underlying26 Try.underlying3 (by kernel_rfl) (hval 3 _ v3 rfl rfl) h3
  exact FnExactWhyNoPlan_walk ll0 m0 hn0 A0 cc0 ll1 m1 hn1 A1 cc1 ll2 m2 hn2 A2 cc2 ll3 m3 hn3 A3 cc3 W (by unfold maxLen at hm0; exact hm0) hsl0 (by unfold maxLen at hm1; exact hm1) hsl1 (by unfold maxLen at hm2; exact hm2) hsl2 (by unfold maxLen at hm3; exact hm3) hsl3
theorem FnExactWhyNoPlan_holds : Rows.FnExactWhyNoPlanSaid :=
  OpenClaim.holds_of_wide 12 Try.f12 rfl rfl rfl rfl rfl rfl rfl ⟨rfl, rfl, rfl, rfl, rfl⟩ rfl rfl rfl rfl rfl (by kernel_rfl) Try.func12 (by kernel_rfl)
    (of_decide_eq_true (by kernel_rfl)) (by unfold Func.isWrapper; rw [if_neg (of_decide_eq_false (by kernel_rfl))]; exact ⟨rfl, rfl⟩)
    (fun os started H enc _ => FnExactWhyNoPlan_lifted os started H enc)
end Go.Proofs.Ytbedepmcecdhfaa
