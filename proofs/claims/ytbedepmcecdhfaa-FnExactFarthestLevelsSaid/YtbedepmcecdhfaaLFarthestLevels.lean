/- The law FnExactFarthestLevels: the program's answer is the reference's, shares no memory and leaves its arguments alone. No condition. -/
import Derived.Test.YtbedepmcecdhfaaFarth
import Derived.Test.YtbedepmcecdhfaaGaugeM
import Derived.Test.YtbedepmcecdhfaaDitchM
import Derived.Test.YtbedepmcecdhfaaIntM
import Derived.Test.YtbedepmcecdhfaaFrameI
import Derived.Test.YtbedepmcecdhfaaTurn
namespace Go.Proofs.Ytbedepmcecdhfaa
open Go.ChangeShapes Go.WideShapes Go.ChangeAt Go.RowKit
set_option maxRecDepth 4000 in
set_option maxHeartbeats 8000000 in
theorem FnExactFarthestLevels_walk (l0 : List Gauge) (n0 : Nat) (hn0 : l0.length = n0) (A0 : Option Addr) (cap0 : Nat) (l1 : List Ditch) (n1 : Nat) (hn1 : l1.length = n1) (A1 : Option Addr) (cap1 : Nat) (l2 : List Int) (n2 : Nat) (hn2 : l2.length = n2) (A2 : Option Addr) (cap2 : Nat) (w : World) (hm0 : n0 ≤ 9223372036854775807) (hc0 : Sl encGauge w w.heap.size A0 l0) (hm1 : n1 ≤ 9223372036854775807) (hc1 : Sl encDitch w w.heap.size A1 l1) (hm2 : n2 ≤ 9223372036854775807) (hc2 : Sl encInt w w.heap.size A2 l2) :
    Calls Try.prog 10 #[.slice A0 n0 cap0, .slice A1 n1 cap1, .slice A2 n2 cap2] w fun e w' => e = .returned (.bool true) ∧ Below w.heap.size w w' := by
  have C0_0 := Lib.hid hc0; clear hc0
  have HN0 := Lib.hid hn0; clear hn0
  have C1_0 := Lib.hid hc1; clear hc1
  have HN1 := Lib.hid hn1; clear hn1
  have C2_0 := Lib.hid hc2; clear hc2
  have HN2 := Lib.hid hn2; clear hn2
  by_cases hq2 : n2 ≤ 1048576
  rotate_left
  · have hl' : 1048576 < n2 := by omega
    go_enter Try.func10, Try.ntmps10
    go_wp2
    go_ret
    exact ⟨rfl, (by repeat (first | assumption | exact Below.refl _ _ | apply bl_gw | apply bl_alloc | apply bl_drewN | apply bl_drew))⟩
  by_cases hl0 : n0 ≤ 1048576
  rotate_left
  · have hl' : 1048576 < n0 := by omega
    go_enter Try.func10, Try.ntmps10
    go_wp2_with fail
    refine (szGaugeS_over _ _ _ _ _ (by omega) (by omega) hm0).mono ?_; rintro e w' ⟨rfl, rfl⟩
    go_wp2
    go_ret
    exact ⟨rfl, (by repeat (first | assumption | exact Below.refl _ _ | apply bl_gw | apply bl_alloc | apply bl_drewN | apply bl_drew))⟩
  by_cases hl1 : n0 + n1 ≤ 1048576
  rotate_left
  · have hl' : 1048576 < n0 + n1 := by omega
    go_enter Try.func10, Try.ntmps10
    go_wp2_with fail
    refine (szGaugeS_fit _ _ _ _ _ (by omega) (by omega)).mono ?_; rintro e w' ⟨rfl, rfl⟩
    go_wp2_with fail
    refine (szDitchS_over _ _ _ _ _ (by omega) (by omega) hm1).mono ?_; rintro e w' ⟨rfl, rfl⟩
    go_wp2
    go_ret
    exact ⟨rfl, (by repeat (first | assumption | exact Below.refl _ _ | apply bl_gw | apply bl_alloc | apply bl_drewN | apply bl_drew))⟩
  have hq0 : n0 ≤ 1048576 := by omega
  have hq1 : n1 ≤ 1048576 := by omega
  go_enter Try.func10, Try.ntmps10
  go_wp2_with fail
  refine (szGaugeS_fit _ _ _ _ _ (by omega) (by omega)).mono ?_; rintro e w' ⟨rfl, rfl⟩
  go_wp2_with fail
  refine (szDitchS_fit _ _ _ _ _ (by omega) (by omega)).mono ?_; rintro e w' ⟨rfl, rfl⟩
  have BB_0 := Lib.hid (Below.refl w.heap.size w)
  obtain ⟨q0, hP0⟩ : ∃ q, ((farthP l0 l1 l2).1).length = q := ⟨_, rfl⟩
  have hQ0 : q0 ≤ 1000000 := by rw [← hP0]; exact farthP_length _ _ _
  have HP0 := Lib.hid hP0; clear hP0
  go_wp2_with fail
  refine (toGaugeS_sl l0 n0 HN0.out _ _ _ hq0 (C0_0.out.more BB_0.out.size)).mono ?_
  rintro e w1 ⟨a0A, a0c, rfl, s, o, b⟩
  have a0p := o.cap
  have C0_1 := Lib.hid (C0_0.out.below (b.mono BB_0.out.size)); clear C0_0
  have C1_1 := Lib.hid (C1_0.out.below (b.mono BB_0.out.size)); clear C1_0
  have C2_1 := Lib.hid (C2_0.out.below (b.mono BB_0.out.size)); clear C2_0
  have BB_1 := Lib.hid (below_step BB_0.out b)
  have a0o_1 := Lib.hid o
  clear s o b
  go_wp2_with fail
  refine (toDitchS_sl l1 n1 HN1.out _ _ _ hq1 (C1_1.out.more BB_1.out.size)).mono ?_
  rintro e w2 ⟨a1A, a1c, rfl, s, o, b⟩
  have a1p := o.cap
  have C0_2 := Lib.hid (C0_1.out.below (b.mono BB_1.out.size)); clear C0_1
  have C1_2 := Lib.hid (C1_1.out.below (b.mono BB_1.out.size)); clear C1_1
  have C2_2 := Lib.hid (C2_1.out.below (b.mono BB_1.out.size)); clear C2_1
  have a0o_2 := Lib.hid (a0o_1.out.past b (Nat.le_refl _)); clear a0o_1
  have BB_2 := Lib.hid (below_step BB_1.out b)
  have a1o_2 := Lib.hid o
  clear s o b
  go_wp2_with fail
  refine (toIntS_sl l2 n2 HN2.out _ _ _ hq2 (C2_2.out.more BB_2.out.size)).mono ?_
  rintro e w3 ⟨a2A, a2c, rfl, s, o, b⟩
  have a2p := o.cap
  have C0_3 := Lib.hid (C0_2.out.below (b.mono BB_2.out.size)); clear C0_2
  have C1_3 := Lib.hid (C1_2.out.below (b.mono BB_2.out.size)); clear C1_2
  have C2_3 := Lib.hid (C2_2.out.below (b.mono BB_2.out.size)); clear C2_2
  have a0o_3 := Lib.hid (a0o_2.out.past b (Nat.le_refl _)); clear a0o_2
  have a1o_3 := Lib.hid (a1o_2.out.past b (Nat.le_refl _)); clear a1o_2
  have BB_3 := Lib.hid (below_step BB_2.out b)
  have a2o_3 := Lib.hid o
  clear s o b
  go_wp2_with fail
  refine (spec_FarthestLevels_any l0 l1 l2 n0 n1 n2 HN0.out HN1.out HN2.out _ _ _ _ _ _ _ hq0 hq1 hq2 a2p (a0o_3.out.rd) (a1o_3.out.rd) (a2o_3.out.rd)).mono ?_
  rintro e w4 ⟨v0, rfl, o0, b⟩
  obtain ⟨wA0, wc0, rfl, _, _, _⟩ := o0.slice
  rw [HP0.out] at o0 ⊢
  have BW_4 := Lib.hid (Below.refl w4.heap.size w4)
  have C0_4 := Lib.hid (C0_3.out.below (b.mono BB_3.out.size)); clear C0_3
  have C1_4 := Lib.hid (C1_3.out.below (b.mono BB_3.out.size)); clear C1_3
  have C2_4 := Lib.hid (C2_3.out.below (b.mono BB_3.out.size)); clear C2_3
  have a0o_4 := Lib.hid (a0o_3.out.past b (Nat.le_refl _)); clear a0o_3
  have a1o_4 := Lib.hid (a1o_3.out.past b (Nat.le_refl _)); clear a1o_3
  have a2o_4 := Lib.hid (a2o_3.out.past b (Nat.le_refl _)); clear a2o_3
  have BB_4 := Lib.hid (below_step BB_3.out b)
  have ws0_4 := Lib.hid o0.rd
  clear b o0
  clear a0o_4
  clear a1o_4
  clear a2o_4
  go_wp2_with fail
  refine (toGaugeS_sl l0 n0 HN0.out _ _ _ hq0 (C0_4.out.more BB_4.out.size)).mono ?_
  have bx0 := BB_4.out.size
  have by0 := BW_4.out.size
  rintro e w5 ⟨x0A, x0c, rfl, s, o, b⟩
  have x0p := o.cap
  have x0lo := Lib.hid o.lo
  have C0_5 := Lib.hid (C0_4.out.below (b.mono BB_4.out.size)); clear C0_4
  have C1_5 := Lib.hid (C1_4.out.below (b.mono BB_4.out.size)); clear C1_4
  have C2_5 := Lib.hid (C2_4.out.below (b.mono BB_4.out.size)); clear C2_4
  have ws0_5 := Lib.hid (ws0_4.out.below (b.mono BW_4.out.size)); clear ws0_4
  have BB_5 := Lib.hid (below_step BB_4.out b)
  have BW_5 := Lib.hid (below_step BW_4.out b)
  have x0h_5 := Lib.hid o.hi
  have x0o_5 := Lib.hid o
  clear s o b
  go_wp2_with fail
  refine (toDitchS_sl l1 n1 HN1.out _ _ _ hq1 (C1_5.out.more BB_5.out.size)).mono ?_
  have bx1 := BB_5.out.size
  have by1 := BW_5.out.size
  have x0h_at1 := x0h_5
  rintro e w6 ⟨x1A, x1c, rfl, s, o, b⟩
  have x1p := o.cap
  have x1lo := Lib.hid o.lo
  have C0_6 := Lib.hid (C0_5.out.below (b.mono BB_5.out.size)); clear C0_5
  have C1_6 := Lib.hid (C1_5.out.below (b.mono BB_5.out.size)); clear C1_5
  have C2_6 := Lib.hid (C2_5.out.below (b.mono BB_5.out.size)); clear C2_5
  have ws0_6 := Lib.hid (ws0_5.out.below (b.mono BW_5.out.size)); clear ws0_5
  have x0o_6 := Lib.hid (x0o_5.out.past b (Nat.le_refl _)); clear x0o_5
  have x0h_6 := Lib.hid (x0h_5.out.mono b.size); clear x0h_5
  have BB_6 := Lib.hid (below_step BB_5.out b)
  have BW_6 := Lib.hid (below_step BW_5.out b)
  have x1h_6 := Lib.hid o.hi
  have x1o_6 := Lib.hid o
  clear s o b
  go_wp2_with fail
  refine (toIntS_sl l2 n2 HN2.out _ _ _ hq2 (C2_6.out.more BB_6.out.size)).mono ?_
  have bx2 := BB_6.out.size
  have by2 := BW_6.out.size
  have x0h_at2 := x0h_6
  have x1h_at2 := x1h_6
  rintro e w7 ⟨x2A, x2c, rfl, s, o, b⟩
  have x2p := o.cap
  have x2lo := Lib.hid o.lo
  have C0_7 := Lib.hid (C0_6.out.below (b.mono BB_6.out.size)); clear C0_6
  have C1_7 := Lib.hid (C1_6.out.below (b.mono BB_6.out.size)); clear C1_6
  have C2_7 := Lib.hid (C2_6.out.below (b.mono BB_6.out.size)); clear C2_6
  have ws0_7 := Lib.hid (ws0_6.out.below (b.mono BW_6.out.size)); clear ws0_6
  have x0o_7 := Lib.hid (x0o_6.out.past b (Nat.le_refl _)); clear x0o_6
  have x1o_7 := Lib.hid (x1o_6.out.past b (Nat.le_refl _)); clear x1o_6
  have x0h_7 := Lib.hid (x0h_6.out.mono b.size); clear x0h_6
  have x1h_7 := Lib.hid (x1h_6.out.mono b.size); clear x1h_6
  have BB_7 := Lib.hid (below_step BB_6.out b)
  have BW_7 := Lib.hid (below_step BW_6.out b)
  have x2h_7 := Lib.hid o.hi
  have x2o_7 := Lib.hid o
  clear s o b
  have bgx := BB_7.out.size
  have bgy := BW_7.out.size
  go_wp2_with fail
  refine (impl_FarthestLevels_any l0 l1 l2 n0 n1 n2 HN0.out HN1.out HN2.out _ _ _ _ _ _ _ hq0 hq1 hq2 x2p (x0o_7.out.rd) (x1o_7.out.rd) (x2o_7.out.rd)).mono ?_
  rintro e w8 ⟨v0, rfl, o0, b⟩
  obtain ⟨gA0, gc0, rfl, _, _, _⟩ := o0.slice
  rw [HP0.out] at o0 ⊢
  have x0h_at := x0h_7
  have x1h_at := x1h_7
  have x2h_at := x2h_7
  have C0_8 := Lib.hid (C0_7.out.below (b.mono BB_7.out.size)); clear C0_7
  have C1_8 := Lib.hid (C1_7.out.below (b.mono BB_7.out.size)); clear C1_7
  have C2_8 := Lib.hid (C2_7.out.below (b.mono BB_7.out.size)); clear C2_7
  have ws0_8 := Lib.hid (ws0_7.out.below (b.mono BW_7.out.size)); clear ws0_7
  have x0o_8 := Lib.hid (x0o_7.out.past b (Nat.le_refl _)); clear x0o_7
  have x1o_8 := Lib.hid (x1o_7.out.past b (Nat.le_refl _)); clear x1o_7
  have x2o_8 := Lib.hid (x2o_7.out.past b (Nat.le_refl _)); clear x2o_7
  have x0h_8 := Lib.hid (x0h_7.out.mono b.size); clear x0h_7
  have x1h_8 := Lib.hid (x1h_7.out.mono b.size); clear x1h_7
  have x2h_8 := Lib.hid (x2h_7.out.mono b.size); clear x2h_7
  have BB_8 := Lib.hid (below_step BB_7.out b)
  have BW_8 := Lib.hid (below_step BW_7.out b)
  have go0_8 := Lib.hid o0
  have glo0 := Lib.hid o0.lo
  have gh0_8 := Lib.hid o0.hi
  clear b o0
  go_wp2_with fail
  refine (eqIntS_same ((farthP l0 l1 l2).1) q0 HP0.out _ _ _ _ _ (by omega) (go0_8.out.rd) (ws0_8.out.more BW_8.out.size)).mono ?_
  rintro e w9 ⟨rfl, b⟩
  have C0_9 := Lib.hid (C0_8.out.below (b.mono BB_8.out.size)); clear C0_8
  have C1_9 := Lib.hid (C1_8.out.below (b.mono BB_8.out.size)); clear C1_8
  have C2_9 := Lib.hid (C2_8.out.below (b.mono BB_8.out.size)); clear C2_8
  have ws0_9 := Lib.hid (ws0_8.out.below (b.mono BW_8.out.size)); clear ws0_8
  have x0o_9 := Lib.hid (x0o_8.out.past b (Nat.le_refl _)); clear x0o_8
  have x1o_9 := Lib.hid (x1o_8.out.past b (Nat.le_refl _)); clear x1o_8
  have x2o_9 := Lib.hid (x2o_8.out.past b (Nat.le_refl _)); clear x2o_8
  have go0_9 := Lib.hid (go0_8.out.past b (Nat.le_refl _)); clear go0_8
  have BB_9 := Lib.hid (below_step BB_8.out b)
  have BW_9 := Lib.hid (below_step BW_8.out b)
  clear b
  go_wp2_with fail
  refine (toGaugeS_sl l0 n0 HN0.out _ _ _ hq0 (C0_9.out.more BB_9.out.size)).mono ?_
  rintro e w10 ⟨yA, yc, rfl, s, o, b⟩
  have C0_10 := Lib.hid (C0_9.out.below (b.mono BB_9.out.size)); clear C0_9
  have C1_10 := Lib.hid (C1_9.out.below (b.mono BB_9.out.size)); clear C1_9
  have C2_10 := Lib.hid (C2_9.out.below (b.mono BB_9.out.size)); clear C2_9
  have ws0_10 := Lib.hid (ws0_9.out.below (b.mono BW_9.out.size)); clear ws0_9
  have x0o_10 := Lib.hid (x0o_9.out.past b (Nat.le_refl _)); clear x0o_9
  have x1o_10 := Lib.hid (x1o_9.out.past b (Nat.le_refl _)); clear x1o_9
  have x2o_10 := Lib.hid (x2o_9.out.past b (Nat.le_refl _)); clear x2o_9
  have go0_10 := Lib.hid (go0_9.out.past b (Nat.le_refl _)); clear go0_9
  have BB_10 := Lib.hid (below_step BB_9.out b)
  have BW_10 := Lib.hid (below_step BW_9.out b)
  have y_ := Lib.hid s
  clear s o b
  go_wp2_with fail
  refine (eqGaugeS_same l0 n0 HN0.out _ _ _ _ _ (by omega) (x0o_10.out.rd) (y_.out)).mono ?_
  rintro e w11 ⟨rfl, b⟩
  have C0_11 := Lib.hid (C0_10.out.below (b.mono BB_10.out.size)); clear C0_10
  have C1_11 := Lib.hid (C1_10.out.below (b.mono BB_10.out.size)); clear C1_10
  have C2_11 := Lib.hid (C2_10.out.below (b.mono BB_10.out.size)); clear C2_10
  have ws0_11 := Lib.hid (ws0_10.out.below (b.mono BW_10.out.size)); clear ws0_10
  have x0o_11 := Lib.hid (x0o_10.out.past b (Nat.le_refl _)); clear x0o_10
  have x1o_11 := Lib.hid (x1o_10.out.past b (Nat.le_refl _)); clear x1o_10
  have x2o_11 := Lib.hid (x2o_10.out.past b (Nat.le_refl _)); clear x2o_10
  have go0_11 := Lib.hid (go0_10.out.past b (Nat.le_refl _)); clear go0_10
  have BB_11 := Lib.hid (below_step BB_10.out b)
  have BW_11 := Lib.hid (below_step BW_10.out b)
  clear b
  clear y_
  go_wp2_with fail
  refine (toDitchS_sl l1 n1 HN1.out _ _ _ hq1 (C1_11.out.more BB_11.out.size)).mono ?_
  rintro e w12 ⟨yA, yc, rfl, s, o, b⟩
  have C0_12 := Lib.hid (C0_11.out.below (b.mono BB_11.out.size)); clear C0_11
  have C1_12 := Lib.hid (C1_11.out.below (b.mono BB_11.out.size)); clear C1_11
  have C2_12 := Lib.hid (C2_11.out.below (b.mono BB_11.out.size)); clear C2_11
  have ws0_12 := Lib.hid (ws0_11.out.below (b.mono BW_11.out.size)); clear ws0_11
  have x0o_12 := Lib.hid (x0o_11.out.past b (Nat.le_refl _)); clear x0o_11
  have x1o_12 := Lib.hid (x1o_11.out.past b (Nat.le_refl _)); clear x1o_11
  have x2o_12 := Lib.hid (x2o_11.out.past b (Nat.le_refl _)); clear x2o_11
  have go0_12 := Lib.hid (go0_11.out.past b (Nat.le_refl _)); clear go0_11
  have BB_12 := Lib.hid (below_step BB_11.out b)
  have BW_12 := Lib.hid (below_step BW_11.out b)
  have y_ := Lib.hid s
  clear s o b
  go_wp2_with fail
  refine (eqDitchS_same l1 n1 HN1.out _ _ _ _ _ (by omega) (x1o_12.out.rd) (y_.out)).mono ?_
  rintro e w13 ⟨rfl, b⟩
  have C0_13 := Lib.hid (C0_12.out.below (b.mono BB_12.out.size)); clear C0_12
  have C1_13 := Lib.hid (C1_12.out.below (b.mono BB_12.out.size)); clear C1_12
  have C2_13 := Lib.hid (C2_12.out.below (b.mono BB_12.out.size)); clear C2_12
  have ws0_13 := Lib.hid (ws0_12.out.below (b.mono BW_12.out.size)); clear ws0_12
  have x0o_13 := Lib.hid (x0o_12.out.past b (Nat.le_refl _)); clear x0o_12
  have x1o_13 := Lib.hid (x1o_12.out.past b (Nat.le_refl _)); clear x1o_12
  have x2o_13 := Lib.hid (x2o_12.out.past b (Nat.le_refl _)); clear x2o_12
  have go0_13 := Lib.hid (go0_12.out.past b (Nat.le_refl _)); clear go0_12
  have BB_13 := Lib.hid (below_step BB_12.out b)
  have BW_13 := Lib.hid (below_step BW_12.out b)
  clear b
  clear y_
  go_wp2_with fail
  refine (toIntS_sl l2 n2 HN2.out _ _ _ hq2 (C2_13.out.more BB_13.out.size)).mono ?_
  rintro e w14 ⟨yA, yc, rfl, s, o, b⟩
  have C0_14 := Lib.hid (C0_13.out.below (b.mono BB_13.out.size)); clear C0_13
  have C1_14 := Lib.hid (C1_13.out.below (b.mono BB_13.out.size)); clear C1_13
  have C2_14 := Lib.hid (C2_13.out.below (b.mono BB_13.out.size)); clear C2_13
  have ws0_14 := Lib.hid (ws0_13.out.below (b.mono BW_13.out.size)); clear ws0_13
  have x0o_14 := Lib.hid (x0o_13.out.past b (Nat.le_refl _)); clear x0o_13
  have x1o_14 := Lib.hid (x1o_13.out.past b (Nat.le_refl _)); clear x1o_13
  have x2o_14 := Lib.hid (x2o_13.out.past b (Nat.le_refl _)); clear x2o_13
  have go0_14 := Lib.hid (go0_13.out.past b (Nat.le_refl _)); clear go0_13
  have BB_14 := Lib.hid (below_step BB_13.out b)
  have BW_14 := Lib.hid (below_step BW_13.out b)
  have y_ := Lib.hid s
  clear s o b
  go_wp2_with fail
  refine (eqIntS_same l2 n2 HN2.out _ _ _ _ _ (by omega) (x2o_14.out.rd) (y_.out)).mono ?_
  rintro e w15 ⟨rfl, b⟩
  have C0_15 := Lib.hid (C0_14.out.below (b.mono BB_14.out.size)); clear C0_14
  have C1_15 := Lib.hid (C1_14.out.below (b.mono BB_14.out.size)); clear C1_14
  have C2_15 := Lib.hid (C2_14.out.below (b.mono BB_14.out.size)); clear C2_14
  have ws0_15 := Lib.hid (ws0_14.out.below (b.mono BW_14.out.size)); clear ws0_14
  have x0o_15 := Lib.hid (x0o_14.out.past b (Nat.le_refl _)); clear x0o_14
  have x1o_15 := Lib.hid (x1o_14.out.past b (Nat.le_refl _)); clear x1o_14
  have x2o_15 := Lib.hid (x2o_14.out.past b (Nat.le_refl _)); clear x2o_14
  have go0_15 := Lib.hid (go0_14.out.past b (Nat.le_refl _)); clear go0_14
  have BB_15 := Lib.hid (below_step BB_14.out b)
  have BW_15 := Lib.hid (below_step BW_14.out b)
  clear b
  clear y_
  go_wp2_with fail
  refine (markGaugeS_own n0 _ _ _ _ _ _ (by omega) (by omega) (by omega) x0o_15.out).mono ?_
  rintro e w16 ⟨rfl, t, om⟩
  have lo1 := x0lo.out.mono bx0
  have lo2 := x0lo.out.mono by0
  have C0_16 := Lib.hid (C0_15.out.turn t lo1); clear C0_15
  have C1_16 := Lib.hid (C1_15.out.turn t lo1); clear C1_15
  have C2_16 := Lib.hid (C2_15.out.turn t lo1); clear C2_15
  have ws0_16 := Lib.hid (ws0_15.out.turn t lo2); clear ws0_15
  have x1o_16 := Lib.hid (x1o_15.out.turn t x0h_at1.out); clear x1o_15
  have x2o_16 := Lib.hid (x2o_15.out.turn t x0h_at2.out); clear x2o_15
  have go0_16 := Lib.hid (go0_15.out.turn t x0h_at.out); clear go0_15
  have BB_16 := Lib.hid (BB_15.out.trans (t.below lo1))
  have BW_16 := Lib.hid (BW_15.out.trans (t.below lo2))
  clear t om x0o_15
  go_wp2_with fail
  refine (markDitchS_own n1 _ _ _ _ _ _ (by omega) (by omega) (by omega) x1o_16.out).mono ?_
  rintro e w17 ⟨rfl, t, om⟩
  have lo1 := x1lo.out.mono bx1
  have lo2 := x1lo.out.mono by1
  have C0_17 := Lib.hid (C0_16.out.turn t lo1); clear C0_16
  have C1_17 := Lib.hid (C1_16.out.turn t lo1); clear C1_16
  have C2_17 := Lib.hid (C2_16.out.turn t lo1); clear C2_16
  have ws0_17 := Lib.hid (ws0_16.out.turn t lo2); clear ws0_16
  have x2o_17 := Lib.hid (x2o_16.out.turn t x1h_at2.out); clear x2o_16
  have go0_17 := Lib.hid (go0_16.out.turn t x1h_at.out); clear go0_16
  have BB_17 := Lib.hid (BB_16.out.trans (t.below lo1))
  have BW_17 := Lib.hid (BW_16.out.trans (t.below lo2))
  clear t om x1o_16
  go_wp2_with fail
  refine (markIntS_own n2 _ _ _ _ _ _ (by omega) (by omega) (by omega) x2o_17.out).mono ?_
  rintro e w18 ⟨rfl, t, om⟩
  have lo1 := x2lo.out.mono bx2
  have lo2 := x2lo.out.mono by2
  have C0_18 := Lib.hid (C0_17.out.turn t lo1); clear C0_17
  have C1_18 := Lib.hid (C1_17.out.turn t lo1); clear C1_17
  have C2_18 := Lib.hid (C2_17.out.turn t lo1); clear C2_17
  have ws0_18 := Lib.hid (ws0_17.out.turn t lo2); clear ws0_17
  have go0_18 := Lib.hid (go0_17.out.turn t x2h_at.out); clear go0_17
  have BB_18 := Lib.hid (BB_17.out.trans (t.below lo1))
  have BW_18 := Lib.hid (BW_17.out.trans (t.below lo2))
  clear t om x2o_17
  go_wp2_with fail
  refine (eqIntS_same ((farthP l0 l1 l2).1) q0 HP0.out _ _ _ _ _ (by omega) (go0_18.out.rd) (ws0_18.out.more BW_18.out.size)).mono ?_
  rintro e w19 ⟨rfl, b⟩
  have C0_19 := Lib.hid (C0_18.out.below (b.mono BB_18.out.size)); clear C0_18
  have C1_19 := Lib.hid (C1_18.out.below (b.mono BB_18.out.size)); clear C1_18
  have C2_19 := Lib.hid (C2_18.out.below (b.mono BB_18.out.size)); clear C2_18
  have ws0_19 := Lib.hid (ws0_18.out.below (b.mono BW_18.out.size)); clear ws0_18
  have go0_19 := Lib.hid (go0_18.out.past b (Nat.le_refl _)); clear go0_18
  have BB_19 := Lib.hid (below_step BB_18.out b)
  have BW_19 := Lib.hid (below_step BW_18.out b)
  clear b
  go_wp2_with fail
  refine (markIntS_own q0 _ _ _ _ _ _ (by omega) (by omega) (by omega) go0_19.out).mono ?_
  rintro e w20 ⟨rfl, t, om⟩
  have lo1 := glo0.out.mono bgx
  have lo2 := glo0.out.mono bgy
  have C0_20 := Lib.hid (C0_19.out.turn t lo1); clear C0_19
  have C1_20 := Lib.hid (C1_19.out.turn t lo1); clear C1_19
  have C2_20 := Lib.hid (C2_19.out.turn t lo1); clear C2_19
  have ws0_20 := Lib.hid (ws0_19.out.turn t lo2); clear ws0_19
  have BB_20 := Lib.hid (BB_19.out.trans (t.below lo1))
  have BW_20 := Lib.hid (BW_19.out.trans (t.below lo2))
  have go0_20 := Lib.hid om
  clear t om go0_19
  go_wp2_with fail
  refine (heldIntS_sl q0 _ _ _ _ (by omega) (by omega) (by omega) go0_20.out.rd).mono ?_
  rintro e w21 ⟨rfl, b⟩
  have C0_21 := Lib.hid (C0_20.out.below (b.mono BB_20.out.size)); clear C0_20
  have C1_21 := Lib.hid (C1_20.out.below (b.mono BB_20.out.size)); clear C1_20
  have C2_21 := Lib.hid (C2_20.out.below (b.mono BB_20.out.size)); clear C2_20
  have ws0_21 := Lib.hid (ws0_20.out.below (b.mono BW_20.out.size)); clear ws0_20
  have go0_21 := Lib.hid (go0_20.out.past b (Nat.le_refl _)); clear go0_20
  have BB_21 := Lib.hid (below_step BB_20.out b)
  have BW_21 := Lib.hid (below_step BW_20.out b)
  clear b
  go_wp2_with fail
  refine (toGaugeS_sl l0 n0 HN0.out _ _ _ hq0 (C0_21.out.more BB_21.out.size)).mono ?_
  rintro e w22 ⟨h0A, h0c, rfl, s, o, b⟩
  have h0p := o.cap
  have C0_22 := Lib.hid (C0_21.out.below (b.mono BB_21.out.size)); clear C0_21
  have C1_22 := Lib.hid (C1_21.out.below (b.mono BB_21.out.size)); clear C1_21
  have C2_22 := Lib.hid (C2_21.out.below (b.mono BB_21.out.size)); clear C2_21
  have ws0_22 := Lib.hid (ws0_21.out.below (b.mono BW_21.out.size)); clear ws0_21
  have go0_22 := Lib.hid (go0_21.out.past b (Nat.le_refl _)); clear go0_21
  have BB_22 := Lib.hid (below_step BB_21.out b)
  have BW_22 := Lib.hid (below_step BW_21.out b)
  have h0o_22 := Lib.hid o
  clear s o b
  go_wp2_with fail
  refine (toDitchS_sl l1 n1 HN1.out _ _ _ hq1 (C1_22.out.more BB_22.out.size)).mono ?_
  rintro e w23 ⟨h1A, h1c, rfl, s, o, b⟩
  have h1p := o.cap
  have C0_23 := Lib.hid (C0_22.out.below (b.mono BB_22.out.size)); clear C0_22
  have C1_23 := Lib.hid (C1_22.out.below (b.mono BB_22.out.size)); clear C1_22
  have C2_23 := Lib.hid (C2_22.out.below (b.mono BB_22.out.size)); clear C2_22
  have ws0_23 := Lib.hid (ws0_22.out.below (b.mono BW_22.out.size)); clear ws0_22
  have go0_23 := Lib.hid (go0_22.out.past b (Nat.le_refl _)); clear go0_22
  have h0o_23 := Lib.hid (h0o_22.out.past b (Nat.le_refl _)); clear h0o_22
  have BB_23 := Lib.hid (below_step BB_22.out b)
  have BW_23 := Lib.hid (below_step BW_22.out b)
  have h1o_23 := Lib.hid o
  clear s o b
  go_wp2_with fail
  refine (toIntS_sl l2 n2 HN2.out _ _ _ hq2 (C2_23.out.more BB_23.out.size)).mono ?_
  rintro e w24 ⟨h2A, h2c, rfl, s, o, b⟩
  have h2p := o.cap
  have C0_24 := Lib.hid (C0_23.out.below (b.mono BB_23.out.size)); clear C0_23
  have C1_24 := Lib.hid (C1_23.out.below (b.mono BB_23.out.size)); clear C1_23
  have C2_24 := Lib.hid (C2_23.out.below (b.mono BB_23.out.size)); clear C2_23
  have ws0_24 := Lib.hid (ws0_23.out.below (b.mono BW_23.out.size)); clear ws0_23
  have go0_24 := Lib.hid (go0_23.out.past b (Nat.le_refl _)); clear go0_23
  have h0o_24 := Lib.hid (h0o_23.out.past b (Nat.le_refl _)); clear h0o_23
  have h1o_24 := Lib.hid (h1o_23.out.past b (Nat.le_refl _)); clear h1o_23
  have BB_24 := Lib.hid (below_step BB_23.out b)
  have BW_24 := Lib.hid (below_step BW_23.out b)
  have h2o_24 := Lib.hid o
  clear s o b
  go_wp2_with fail
  refine (impl_FarthestLevels_any l0 l1 l2 n0 n1 n2 HN0.out HN1.out HN2.out _ _ _ _ _ _ _ hq0 hq1 hq2 h2p (h0o_24.out.rd) (h1o_24.out.rd) (h2o_24.out.rd)).mono ?_
  rintro e w25 ⟨v0, rfl, o0, b⟩
  obtain ⟨hA0, hc0, rfl, _, _, _⟩ := o0.slice
  rw [HP0.out] at o0 ⊢
  have C0_25 := Lib.hid (C0_24.out.below (b.mono BB_24.out.size)); clear C0_24
  have C1_25 := Lib.hid (C1_24.out.below (b.mono BB_24.out.size)); clear C1_24
  have C2_25 := Lib.hid (C2_24.out.below (b.mono BB_24.out.size)); clear C2_24
  have ws0_25 := Lib.hid (ws0_24.out.below (b.mono BW_24.out.size)); clear ws0_24
  have go0_25 := Lib.hid (go0_24.out.past b (Nat.le_refl _)); clear go0_24
  have h0o_25 := Lib.hid (h0o_24.out.past b (Nat.le_refl _)); clear h0o_24
  have h1o_25 := Lib.hid (h1o_24.out.past b (Nat.le_refl _)); clear h1o_24
  have h2o_25 := Lib.hid (h2o_24.out.past b (Nat.le_refl _)); clear h2o_24
  have BB_25 := Lib.hid (below_step BB_24.out b)
  have BW_25 := Lib.hid (below_step BW_24.out b)
  have ho0_25 := Lib.hid o0
  clear b o0
  clear h0o_25
  clear h1o_25
  clear h2o_25
  go_wp2_with fail
  refine (eqIntS_same ((farthP l0 l1 l2).1) q0 HP0.out _ _ _ _ _ (by omega) (ho0_25.out.rd) (ws0_25.out.more BW_25.out.size)).mono ?_
  rintro e w26 ⟨rfl, b⟩
  have C0_26 := Lib.hid (C0_25.out.below (b.mono BB_25.out.size)); clear C0_25
  have C1_26 := Lib.hid (C1_25.out.below (b.mono BB_25.out.size)); clear C1_25
  have C2_26 := Lib.hid (C2_25.out.below (b.mono BB_25.out.size)); clear C2_25
  have ws0_26 := Lib.hid (ws0_25.out.below (b.mono BW_25.out.size)); clear ws0_25
  have go0_26 := Lib.hid (go0_25.out.past b (Nat.le_refl _)); clear go0_25
  have ho0_26 := Lib.hid (ho0_25.out.past b (Nat.le_refl _)); clear ho0_25
  have BB_26 := Lib.hid (below_step BB_25.out b)
  have BW_26 := Lib.hid (below_step BW_25.out b)
  clear b
  go_wp2_with fail
  refine (heldIntS_sl q0 _ _ _ _ (by omega) (by omega) (by omega) go0_26.out.rd).mono ?_
  rintro e w27 ⟨rfl, b⟩
  have C0_27 := Lib.hid (C0_26.out.below (b.mono BB_26.out.size)); clear C0_26
  have C1_27 := Lib.hid (C1_26.out.below (b.mono BB_26.out.size)); clear C1_26
  have C2_27 := Lib.hid (C2_26.out.below (b.mono BB_26.out.size)); clear C2_26
  have ws0_27 := Lib.hid (ws0_26.out.below (b.mono BW_26.out.size)); clear ws0_26
  have go0_27 := Lib.hid (go0_26.out.past b (Nat.le_refl _)); clear go0_26
  have ho0_27 := Lib.hid (ho0_26.out.past b (Nat.le_refl _)); clear ho0_26
  have BB_27 := Lib.hid (below_step BB_26.out b)
  have BW_27 := Lib.hid (below_step BW_26.out b)
  clear b
  go_wp2
  go_ret
  exact ⟨rfl, BB_27.out⟩
set_option maxRecDepth 100000 in
theorem FnExactFarthestLevels_lifted (os : Os) (started : os.Started) (H : Type) (enc : TypeId × Value → H) :
    ReturnsInHanded {} Try.checked os 10 .any (Rows.fnExactFarthestLevelsSpec.pre6 enc Try.prog Try.f10 Rows.fnExactFarthestLevelsRow.domain false) (Rows.fnExactFarthestLevelsSpec.post enc Try.prog Try.f10 false true false false) := by
  refine returnsInHanded_of_change (C := Try.checked) own_ started (by kernel_rfl) Try.func10
    (ChangeSpec.witness6 (enc := enc) (C := Try.checked) false ⟨#[], #[.slice none 0 0, .slice none 0 0, .slice none 0 0], []⟩ 8 (by kernel_rfl) (by kernel_rfl) (by kernel_rfl) (by kernel_rfl)) ?_
  intro W base args ds gs before hval0 hW hcnd _
  have hval : ∀ (j : Nat) t v, Try.f10.params[j]? = some t → args[j]? = some v → Value.okWide Try.prog W .any base t v := hval0
  clear hval0 hcnd
  refine law_contract laid_ (tb := 4) rfl rfl Try.underlying4 (fun ds hd => ?_) (by show Readable Try.prog [38, 25, 26]; repeat (first | exact trivial | refine ⟨⟨by kernel_rfl, of_decide_eq_true (by kernel_rfl)⟩, ?_⟩)) hW ?_
  · match ds, hd with
    | [d0, d1, d2], _ => rfl
  obtain ⟨p, q, hA0, hV, rfl, hfz, hnd⟩ := hW
  have hA : DataW.TrodAll enc Try.prog W 0 (fun _ => true) true Try.f10.params.toList args.toList ds p := hA0
  clear hA0
  rw [Try.params10] at hA hval
  obtain ⟨v0, vs0, d0, ds0, p0, q0, hargs, rfl, rfl, h0, r0⟩ := trodAll_cons hA
  obtain ⟨v1, vs1, d1, ds1, p1, q1, rfl, rfl, rfl, h1, r1⟩ := trodAll_cons r0
  obtain ⟨v2, vs2, d2, ds2, p2, q2, rfl, rfl, rfl, h2, r2⟩ := trodAll_cons r1
  obtain ⟨rfl, rfl, rfl⟩ := trodAll_nil r2
  obtain rfl : args = #[v0, v1, v2] := by cases args; simp_all
  obtain ⟨A0, m0, cc0, ll0, rfl, hn0, hm0, hsl0, _⟩ := open_sl encGauge mkGauge mkGauge_f Try.underlying38 Try.underlying101 (by kernel_rfl) (by kernel_rfl) rfl (by decide) (fun j f hj => by
    match j, hj with
    | 0, hj | 1, hj => simp at hj; subst hj; exact Try.underlying3) (hval 0 _ v0 rfl rfl) h0
  obtain ⟨A1, m1, cc1, ll1, rfl, hn1, hm1, hsl1, _⟩ := open_sla encDitch mkDitch mkDitch_f Try.underlying25 Try.underlying84 Try.underlying3 (by kernel_rfl) (by kernel_rfl) (by decide) (hval 1 _ v1 rfl rfl) h1
  obtain ⟨A2, m2, cc2, ll2, rfl, hn2, hm2, hsl2, _⟩ := open_is Try.underlying26 Try.underlying3 (by kernel_rfl) (hval 2 _ v2 rfl rfl) h2
  exact FnExactFarthestLevels_walk ll0 m0 hn0 A0 cc0 ll1 m1 hn1 A1 cc1 ll2 m2 hn2 A2 cc2 W (by unfold maxLen at hm0; exact hm0) hsl0 (by unfold maxLen at hm1; exact hm1) hsl1 (by unfold maxLen at hm2; exact hm2) hsl2
theorem FnExactFarthestLevels_holds : Rows.FnExactFarthestLevelsSaid :=
  OpenClaim.holds_of_wide 10 Try.f10 rfl rfl rfl rfl rfl rfl rfl ⟨rfl, rfl, rfl, rfl, rfl⟩ rfl rfl rfl rfl rfl (by kernel_rfl) Try.func10 (by kernel_rfl)
    (of_decide_eq_true (by kernel_rfl)) (by unfold Func.isWrapper; rw [if_neg (of_decide_eq_false (by kernel_rfl))]; exact ⟨rfl, rfl⟩)
    (fun os started H enc _ => FnExactFarthestLevels_lifted os started H enc)
end Go.Proofs.Ytbedepmcecdhfaa
