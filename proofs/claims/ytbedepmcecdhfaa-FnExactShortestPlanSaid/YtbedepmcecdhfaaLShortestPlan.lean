/- The law FnExactShortestPlan: the program's answer is the reference's, shares no memory and leaves its arguments alone. No condition. -/
import Derived.Test.YtbedepmcecdhfaaShortS
import Derived.Test.YtbedepmcecdhfaaGaugeM
import Derived.Test.YtbedepmcecdhfaaDitchM
import Derived.Test.YtbedepmcecdhfaaIntM
import Derived.Test.YtbedepmcecdhfaaFrameI
import Derived.Test.YtbedepmcecdhfaaTurn
namespace Go.Proofs.Ytbedepmcecdhfaa
open Go.ChangeShapes Go.WideShapes Go.ChangeAt Go.RowKit
set_option maxRecDepth 4000 in
set_option maxHeartbeats 8000000 in
theorem FnExactShortestPlan_walk (l0 : List Gauge) (n0 : Nat) (hn0 : l0.length = n0) (A0 : Option Addr) (cap0 : Nat) (l1 : List Ditch) (n1 : Nat) (hn1 : l1.length = n1) (A1 : Option Addr) (cap1 : Nat) (l2 : List Int) (n2 : Nat) (hn2 : l2.length = n2) (A2 : Option Addr) (cap2 : Nat) (l3 : List Int) (n3 : Nat) (hn3 : l3.length = n3) (A3 : Option Addr) (cap3 : Nat) (w : World) (hm0 : n0 ≤ 9223372036854775807) (hc0 : Sl encGauge w w.heap.size A0 l0) (hm1 : n1 ≤ 9223372036854775807) (hc1 : Sl encDitch w w.heap.size A1 l1) (hm2 : n2 ≤ 9223372036854775807) (hc2 : Sl encInt w w.heap.size A2 l2) (hm3 : n3 ≤ 9223372036854775807) (hc3 : Sl encInt w w.heap.size A3 l3) :
    Calls Try.prog 11 #[.slice A0 n0 cap0, .slice A1 n1 cap1, .slice A2 n2 cap2, .slice A3 n3 cap3] w fun e w' => e = .returned (.bool true) ∧ Below w.heap.size w w' := by
  have C0_0 := Lib.hid hc0; clear hc0
  have HN0 := Lib.hid hn0; clear hn0
  have C1_0 := Lib.hid hc1; clear hc1
  have HN1 := Lib.hid hn1; clear hn1
  have C2_0 := Lib.hid hc2; clear hc2
  have HN2 := Lib.hid hn2; clear hn2
  have C3_0 := Lib.hid hc3; clear hc3
  have HN3 := Lib.hid hn3; clear hn3
  by_cases hq2 : n2 ≤ 1048576
  rotate_left
  · have hl' : 1048576 < n2 := by omega
    go_enter Try.func11, Try.ntmps11
    go_wp2
    go_ret
    exact ⟨rfl, (by repeat (first | assumption | exact Below.refl _ _ | apply bl_gw | apply bl_alloc | apply bl_drewN | apply bl_drew))⟩
  by_cases hq3 : n3 ≤ 1048576
  rotate_left
  · have hl' : 1048576 < n3 := by omega
    go_enter Try.func11, Try.ntmps11
    go_wp2
    go_ret
    exact ⟨rfl, (by repeat (first | assumption | exact Below.refl _ _ | apply bl_gw | apply bl_alloc | apply bl_drewN | apply bl_drew))⟩
  by_cases hl0 : n0 ≤ 1048576
  rotate_left
  · have hl' : 1048576 < n0 := by omega
    go_enter Try.func11, Try.ntmps11
    go_wp2_with fail
    refine (szGaugeS_over _ _ _ _ _ (by omega) (by omega) hm0).mono ?_; rintro e w' ⟨rfl, rfl⟩
    go_wp2
    go_ret
    exact ⟨rfl, (by repeat (first | assumption | exact Below.refl _ _ | apply bl_gw | apply bl_alloc | apply bl_drewN | apply bl_drew))⟩
  by_cases hl1 : n0 + n1 ≤ 1048576
  rotate_left
  · have hl' : 1048576 < n0 + n1 := by omega
    go_enter Try.func11, Try.ntmps11
    go_wp2_with fail
    refine (szGaugeS_fit _ _ _ _ _ (by omega) (by omega)).mono ?_; rintro e w' ⟨rfl, rfl⟩
    go_wp2_with fail
    refine (szDitchS_over _ _ _ _ _ (by omega) (by omega) hm1).mono ?_; rintro e w' ⟨rfl, rfl⟩
    go_wp2
    go_ret
    exact ⟨rfl, (by repeat (first | assumption | exact Below.refl _ _ | apply bl_gw | apply bl_alloc | apply bl_drewN | apply bl_drew))⟩
  have hq0 : n0 ≤ 1048576 := by omega
  have hq1 : n1 ≤ 1048576 := by omega
  go_enter Try.func11, Try.ntmps11
  go_wp2_with fail
  refine (szGaugeS_fit _ _ _ _ _ (by omega) (by omega)).mono ?_; rintro e w' ⟨rfl, rfl⟩
  go_wp2_with fail
  refine (szDitchS_fit _ _ _ _ _ (by omega) (by omega)).mono ?_; rintro e w' ⟨rfl, rfl⟩
  have BB_0 := Lib.hid (Below.refl w.heap.size w)
  obtain ⟨q0, hP0⟩ : ∃ q, ((shortP l0 l1 l2 l3).1).length = q := ⟨_, rfl⟩
  have hQ0 : q0 ≤ 1000000 := by rw [← hP0]; exact shortP_length _ _ _ _
  have HP0 := Lib.hid hP0; clear hP0
  go_wp2_with fail
  refine (toGaugeS_sl l0 n0 HN0.out _ _ _ hq0 (C0_0.out.more BB_0.out.size)).mono ?_
  rintro e w1 ⟨a0A, a0c, rfl, s, o, b⟩
  have a0p := o.cap
  have C0_1 := Lib.hid (C0_0.out.below (b.mono BB_0.out.size)); clear C0_0
  have C1_1 := Lib.hid (C1_0.out.below (b.mono BB_0.out.size)); clear C1_0
  have C2_1 := Lib.hid (C2_0.out.below (b.mono BB_0.out.size)); clear C2_0
  have C3_1 := Lib.hid (C3_0.out.below (b.mono BB_0.out.size)); clear C3_0
  have BB_1 := Lib.hid (below_step BB_0.out b)
  have a0o_1 := Lib.hid o
  clear s o b
  go_wp2_with fail
  refine (toDitchS_sl l1 n1 HN1.out _ _ _ hq1 (C1_1.out.more BB_1.out.size)).mono ?_
  rintro e w2 ⟨a1A, a1c, rfl, s, o, b⟩
  have a1p := o.cap
  have C0_2 := Lib.hid (C0_1.out.below (b.mono BB_1.out.size)); clear C0_1
  have C1_2 := Lib.hid (C1_1.out.below (b.mono BB_1.out.size)); clear C1_1
  have C2_2 := Lib.hid (C2_1.out.below (b.mono BB_1.out.size)); clear C2_1
  have C3_2 := Lib.hid (C3_1.out.below (b.mono BB_1.out.size)); clear C3_1
  have a0o_2 := Lib.hid (a0o_1.out.past b (Nat.le_refl _)); clear a0o_1
  have BB_2 := Lib.hid (below_step BB_1.out b)
  have a1o_2 := Lib.hid o
  clear s o b
  go_wp2_with fail
  refine (toIntS_sl l2 n2 HN2.out _ _ _ hq2 (C2_2.out.more BB_2.out.size)).mono ?_
  rintro e w3 ⟨a2A, a2c, rfl, s, o, b⟩
  have a2p := o.cap
  have C0_3 := Lib.hid (C0_2.out.below (b.mono BB_2.out.size)); clear C0_2
  have C1_3 := Lib.hid (C1_2.out.below (b.mono BB_2.out.size)); clear C1_2
  have C2_3 := Lib.hid (C2_2.out.below (b.mono BB_2.out.size)); clear C2_2
  have C3_3 := Lib.hid (C3_2.out.below (b.mono BB_2.out.size)); clear C3_2
  have a0o_3 := Lib.hid (a0o_2.out.past b (Nat.le_refl _)); clear a0o_2
  have a1o_3 := Lib.hid (a1o_2.out.past b (Nat.le_refl _)); clear a1o_2
  have BB_3 := Lib.hid (below_step BB_2.out b)
  have a2o_3 := Lib.hid o
  clear s o b
  go_wp2_with fail
  refine (toIntS_sl l3 n3 HN3.out _ _ _ hq3 (C3_3.out.more BB_3.out.size)).mono ?_
  rintro e w4 ⟨a3A, a3c, rfl, s, o, b⟩
  have a3p := o.cap
  have C0_4 := Lib.hid (C0_3.out.below (b.mono BB_3.out.size)); clear C0_3
  have C1_4 := Lib.hid (C1_3.out.below (b.mono BB_3.out.size)); clear C1_3
  have C2_4 := Lib.hid (C2_3.out.below (b.mono BB_3.out.size)); clear C2_3
  have C3_4 := Lib.hid (C3_3.out.below (b.mono BB_3.out.size)); clear C3_3
  have a0o_4 := Lib.hid (a0o_3.out.past b (Nat.le_refl _)); clear a0o_3
  have a1o_4 := Lib.hid (a1o_3.out.past b (Nat.le_refl _)); clear a1o_3
  have a2o_4 := Lib.hid (a2o_3.out.past b (Nat.le_refl _)); clear a2o_3
  have BB_4 := Lib.hid (below_step BB_3.out b)
  have a3o_4 := Lib.hid o
  clear s o b
  go_wp2_with fail
  refine (spec_ShortestPlan_any l0 l1 l2 l3 n0 n1 n2 n3 HN0.out HN1.out HN2.out HN3.out _ _ _ _ _ _ _ _ _ hq0 hq1 hq2 hq3 a2p a3p (a0o_4.out.rd) (a1o_4.out.rd) (a2o_4.out.rd) (a3o_4.out.rd)).mono ?_
  rintro e w5 ⟨v0, rfl, o0, b⟩
  obtain ⟨wA0, wc0, rfl, _, _, _⟩ := o0.slice
  rw [HP0.out] at o0 ⊢
  have BW_5 := Lib.hid (Below.refl w5.heap.size w5)
  have C0_5 := Lib.hid (C0_4.out.below (b.mono BB_4.out.size)); clear C0_4
  have C1_5 := Lib.hid (C1_4.out.below (b.mono BB_4.out.size)); clear C1_4
  have C2_5 := Lib.hid (C2_4.out.below (b.mono BB_4.out.size)); clear C2_4
  have C3_5 := Lib.hid (C3_4.out.below (b.mono BB_4.out.size)); clear C3_4
  have a0o_5 := Lib.hid (a0o_4.out.past b (Nat.le_refl _)); clear a0o_4
  have a1o_5 := Lib.hid (a1o_4.out.past b (Nat.le_refl _)); clear a1o_4
  have a2o_5 := Lib.hid (a2o_4.out.past b (Nat.le_refl _)); clear a2o_4
  have a3o_5 := Lib.hid (a3o_4.out.past b (Nat.le_refl _)); clear a3o_4
  have BB_5 := Lib.hid (below_step BB_4.out b)
  have ws0_5 := Lib.hid o0.rd
  clear b o0
  clear a0o_5
  clear a1o_5
  clear a2o_5
  clear a3o_5
  go_wp2_with fail
  refine (toGaugeS_sl l0 n0 HN0.out _ _ _ hq0 (C0_5.out.more BB_5.out.size)).mono ?_
  have bx0 := BB_5.out.size
  have by0 := BW_5.out.size
  rintro e w6 ⟨x0A, x0c, rfl, s, o, b⟩
  have x0p := o.cap
  have x0lo := Lib.hid o.lo
  have C0_6 := Lib.hid (C0_5.out.below (b.mono BB_5.out.size)); clear C0_5
  have C1_6 := Lib.hid (C1_5.out.below (b.mono BB_5.out.size)); clear C1_5
  have C2_6 := Lib.hid (C2_5.out.below (b.mono BB_5.out.size)); clear C2_5
  have C3_6 := Lib.hid (C3_5.out.below (b.mono BB_5.out.size)); clear C3_5
  have ws0_6 := Lib.hid (ws0_5.out.below (b.mono BW_5.out.size)); clear ws0_5
  have BB_6 := Lib.hid (below_step BB_5.out b)
  have BW_6 := Lib.hid (below_step BW_5.out b)
  have x0h_6 := Lib.hid o.hi
  have x0o_6 := Lib.hid o
  clear s o b
  go_wp2_with fail
  refine (toDitchS_sl l1 n1 HN1.out _ _ _ hq1 (C1_6.out.more BB_6.out.size)).mono ?_
  have bx1 := BB_6.out.size
  have by1 := BW_6.out.size
  have x0h_at1 := x0h_6
  rintro e w7 ⟨x1A, x1c, rfl, s, o, b⟩
  have x1p := o.cap
  have x1lo := Lib.hid o.lo
  have C0_7 := Lib.hid (C0_6.out.below (b.mono BB_6.out.size)); clear C0_6
  have C1_7 := Lib.hid (C1_6.out.below (b.mono BB_6.out.size)); clear C1_6
  have C2_7 := Lib.hid (C2_6.out.below (b.mono BB_6.out.size)); clear C2_6
  have C3_7 := Lib.hid (C3_6.out.below (b.mono BB_6.out.size)); clear C3_6
  have ws0_7 := Lib.hid (ws0_6.out.below (b.mono BW_6.out.size)); clear ws0_6
  have x0o_7 := Lib.hid (x0o_6.out.past b (Nat.le_refl _)); clear x0o_6
  have x0h_7 := Lib.hid (x0h_6.out.mono b.size); clear x0h_6
  have BB_7 := Lib.hid (below_step BB_6.out b)
  have BW_7 := Lib.hid (below_step BW_6.out b)
  have x1h_7 := Lib.hid o.hi
  have x1o_7 := Lib.hid o
  clear s o b
  go_wp2_with fail
  refine (toIntS_sl l2 n2 HN2.out _ _ _ hq2 (C2_7.out.more BB_7.out.size)).mono ?_
  have bx2 := BB_7.out.size
  have by2 := BW_7.out.size
  have x0h_at2 := x0h_7
  have x1h_at2 := x1h_7
  rintro e w8 ⟨x2A, x2c, rfl, s, o, b⟩
  have x2p := o.cap
  have x2lo := Lib.hid o.lo
  have C0_8 := Lib.hid (C0_7.out.below (b.mono BB_7.out.size)); clear C0_7
  have C1_8 := Lib.hid (C1_7.out.below (b.mono BB_7.out.size)); clear C1_7
  have C2_8 := Lib.hid (C2_7.out.below (b.mono BB_7.out.size)); clear C2_7
  have C3_8 := Lib.hid (C3_7.out.below (b.mono BB_7.out.size)); clear C3_7
  have ws0_8 := Lib.hid (ws0_7.out.below (b.mono BW_7.out.size)); clear ws0_7
  have x0o_8 := Lib.hid (x0o_7.out.past b (Nat.le_refl _)); clear x0o_7
  have x1o_8 := Lib.hid (x1o_7.out.past b (Nat.le_refl _)); clear x1o_7
  have x0h_8 := Lib.hid (x0h_7.out.mono b.size); clear x0h_7
  have x1h_8 := Lib.hid (x1h_7.out.mono b.size); clear x1h_7
  have BB_8 := Lib.hid (below_step BB_7.out b)
  have BW_8 := Lib.hid (below_step BW_7.out b)
  have x2h_8 := Lib.hid o.hi
  have x2o_8 := Lib.hid o
  clear s o b
  go_wp2_with fail
  refine (toIntS_sl l3 n3 HN3.out _ _ _ hq3 (C3_8.out.more BB_8.out.size)).mono ?_
  have bx3 := BB_8.out.size
  have by3 := BW_8.out.size
  have x0h_at3 := x0h_8
  have x1h_at3 := x1h_8
  have x2h_at3 := x2h_8
  rintro e w9 ⟨x3A, x3c, rfl, s, o, b⟩
  have x3p := o.cap
  have x3lo := Lib.hid o.lo
  have C0_9 := Lib.hid (C0_8.out.below (b.mono BB_8.out.size)); clear C0_8
  have C1_9 := Lib.hid (C1_8.out.below (b.mono BB_8.out.size)); clear C1_8
  have C2_9 := Lib.hid (C2_8.out.below (b.mono BB_8.out.size)); clear C2_8
  have C3_9 := Lib.hid (C3_8.out.below (b.mono BB_8.out.size)); clear C3_8
  have ws0_9 := Lib.hid (ws0_8.out.below (b.mono BW_8.out.size)); clear ws0_8
  have x0o_9 := Lib.hid (x0o_8.out.past b (Nat.le_refl _)); clear x0o_8
  have x1o_9 := Lib.hid (x1o_8.out.past b (Nat.le_refl _)); clear x1o_8
  have x2o_9 := Lib.hid (x2o_8.out.past b (Nat.le_refl _)); clear x2o_8
  have x0h_9 := Lib.hid (x0h_8.out.mono b.size); clear x0h_8
  have x1h_9 := Lib.hid (x1h_8.out.mono b.size); clear x1h_8
  have x2h_9 := Lib.hid (x2h_8.out.mono b.size); clear x2h_8
  have BB_9 := Lib.hid (below_step BB_8.out b)
  have BW_9 := Lib.hid (below_step BW_8.out b)
  have x3h_9 := Lib.hid o.hi
  have x3o_9 := Lib.hid o
  clear s o b
  have bgx := BB_9.out.size
  have bgy := BW_9.out.size
  go_wp2_with fail
  refine (impl_ShortestPlan_any l0 l1 l2 l3 n0 n1 n2 n3 HN0.out HN1.out HN2.out HN3.out _ _ _ _ _ _ _ _ _ hq0 hq1 hq2 hq3 x2p x3p (x0o_9.out.rd) (x1o_9.out.rd) (x2o_9.out.rd) (x3o_9.out.rd)).mono ?_
  rintro e w10 ⟨v0, rfl, o0, b⟩
  obtain ⟨gA0, gc0, rfl, _, _, _⟩ := o0.slice
  rw [HP0.out] at o0 ⊢
  have x0h_at := x0h_9
  have x1h_at := x1h_9
  have x2h_at := x2h_9
  have x3h_at := x3h_9
  have C0_10 := Lib.hid (C0_9.out.below (b.mono BB_9.out.size)); clear C0_9
  have C1_10 := Lib.hid (C1_9.out.below (b.mono BB_9.out.size)); clear C1_9
  have C2_10 := Lib.hid (C2_9.out.below (b.mono BB_9.out.size)); clear C2_9
  have C3_10 := Lib.hid (C3_9.out.below (b.mono BB_9.out.size)); clear C3_9
  have ws0_10 := Lib.hid (ws0_9.out.below (b.mono BW_9.out.size)); clear ws0_9
  have x0o_10 := Lib.hid (x0o_9.out.past b (Nat.le_refl _)); clear x0o_9
  have x1o_10 := Lib.hid (x1o_9.out.past b (Nat.le_refl _)); clear x1o_9
  have x2o_10 := Lib.hid (x2o_9.out.past b (Nat.le_refl _)); clear x2o_9
  have x3o_10 := Lib.hid (x3o_9.out.past b (Nat.le_refl _)); clear x3o_9
  have x0h_10 := Lib.hid (x0h_9.out.mono b.size); clear x0h_9
  have x1h_10 := Lib.hid (x1h_9.out.mono b.size); clear x1h_9
  have x2h_10 := Lib.hid (x2h_9.out.mono b.size); clear x2h_9
  have x3h_10 := Lib.hid (x3h_9.out.mono b.size); clear x3h_9
  have BB_10 := Lib.hid (below_step BB_9.out b)
  have BW_10 := Lib.hid (below_step BW_9.out b)
  have go0_10 := Lib.hid o0
  have glo0 := Lib.hid o0.lo
  have gh0_10 := Lib.hid o0.hi
  clear b o0
  go_wp2_with fail
  refine (eqIntS_same ((shortP l0 l1 l2 l3).1) q0 HP0.out _ _ _ _ _ (by omega) (go0_10.out.rd) (ws0_10.out.more BW_10.out.size)).mono ?_
  rintro e w11 ⟨rfl, b⟩
  have C0_11 := Lib.hid (C0_10.out.below (b.mono BB_10.out.size)); clear C0_10
  have C1_11 := Lib.hid (C1_10.out.below (b.mono BB_10.out.size)); clear C1_10
  have C2_11 := Lib.hid (C2_10.out.below (b.mono BB_10.out.size)); clear C2_10
  have C3_11 := Lib.hid (C3_10.out.below (b.mono BB_10.out.size)); clear C3_10
  have ws0_11 := Lib.hid (ws0_10.out.below (b.mono BW_10.out.size)); clear ws0_10
  have x0o_11 := Lib.hid (x0o_10.out.past b (Nat.le_refl _)); clear x0o_10
  have x1o_11 := Lib.hid (x1o_10.out.past b (Nat.le_refl _)); clear x1o_10
  have x2o_11 := Lib.hid (x2o_10.out.past b (Nat.le_refl _)); clear x2o_10
  have x3o_11 := Lib.hid (x3o_10.out.past b (Nat.le_refl _)); clear x3o_10
  have go0_11 := Lib.hid (go0_10.out.past b (Nat.le_refl _)); clear go0_10
  have BB_11 := Lib.hid (below_step BB_10.out b)
  have BW_11 := Lib.hid (below_step BW_10.out b)
  clear b
  go_wp2_with fail
  refine (toGaugeS_sl l0 n0 HN0.out _ _ _ hq0 (C0_11.out.more BB_11.out.size)).mono ?_
  rintro e w12 ⟨yA, yc, rfl, s, o, b⟩
  have C0_12 := Lib.hid (C0_11.out.below (b.mono BB_11.out.size)); clear C0_11
  have C1_12 := Lib.hid (C1_11.out.below (b.mono BB_11.out.size)); clear C1_11
  have C2_12 := Lib.hid (C2_11.out.below (b.mono BB_11.out.size)); clear C2_11
  have C3_12 := Lib.hid (C3_11.out.below (b.mono BB_11.out.size)); clear C3_11
  have ws0_12 := Lib.hid (ws0_11.out.below (b.mono BW_11.out.size)); clear ws0_11
  have x0o_12 := Lib.hid (x0o_11.out.past b (Nat.le_refl _)); clear x0o_11
  have x1o_12 := Lib.hid (x1o_11.out.past b (Nat.le_refl _)); clear x1o_11
  have x2o_12 := Lib.hid (x2o_11.out.past b (Nat.le_refl _)); clear x2o_11
  have x3o_12 := Lib.hid (x3o_11.out.past b (Nat.le_refl _)); clear x3o_11
  have go0_12 := Lib.hid (go0_11.out.past b (Nat.le_refl _)); clear go0_11
  have BB_12 := Lib.hid (below_step BB_11.out b)
  have BW_12 := Lib.hid (below_step BW_11.out b)
  have y_ := Lib.hid s
  clear s o b
  go_wp2_with fail
  refine (eqGaugeS_same l0 n0 HN0.out _ _ _ _ _ (by omega) (x0o_12.out.rd) (y_.out)).mono ?_
  rintro e w13 ⟨rfl, b⟩
  have C0_13 := Lib.hid (C0_12.out.below (b.mono BB_12.out.size)); clear C0_12
  have C1_13 := Lib.hid (C1_12.out.below (b.mono BB_12.out.size)); clear C1_12
  have C2_13 := Lib.hid (C2_12.out.below (b.mono BB_12.out.size)); clear C2_12
  have C3_13 := Lib.hid (C3_12.out.below (b.mono BB_12.out.size)); clear C3_12
  have ws0_13 := Lib.hid (ws0_12.out.below (b.mono BW_12.out.size)); clear ws0_12
  have x0o_13 := Lib.hid (x0o_12.out.past b (Nat.le_refl _)); clear x0o_12
  have x1o_13 := Lib.hid (x1o_12.out.past b (Nat.le_refl _)); clear x1o_12
  have x2o_13 := Lib.hid (x2o_12.out.past b (Nat.le_refl _)); clear x2o_12
  have x3o_13 := Lib.hid (x3o_12.out.past b (Nat.le_refl _)); clear x3o_12
  have go0_13 := Lib.hid (go0_12.out.past b (Nat.le_refl _)); clear go0_12
  have BB_13 := Lib.hid (below_step BB_12.out b)
  have BW_13 := Lib.hid (below_step BW_12.out b)
  clear b
  clear y_
  go_wp2_with fail
  refine (toDitchS_sl l1 n1 HN1.out _ _ _ hq1 (C1_13.out.more BB_13.out.size)).mono ?_
  rintro e w14 ⟨yA, yc, rfl, s, o, b⟩
  have C0_14 := Lib.hid (C0_13.out.below (b.mono BB_13.out.size)); clear C0_13
  have C1_14 := Lib.hid (C1_13.out.below (b.mono BB_13.out.size)); clear C1_13
  have C2_14 := Lib.hid (C2_13.out.below (b.mono BB_13.out.size)); clear C2_13
  have C3_14 := Lib.hid (C3_13.out.below (b.mono BB_13.out.size)); clear C3_13
  have ws0_14 := Lib.hid (ws0_13.out.below (b.mono BW_13.out.size)); clear ws0_13
  have x0o_14 := Lib.hid (x0o_13.out.past b (Nat.le_refl _)); clear x0o_13
  have x1o_14 := Lib.hid (x1o_13.out.past b (Nat.le_refl _)); clear x1o_13
  have x2o_14 := Lib.hid (x2o_13.out.past b (Nat.le_refl _)); clear x2o_13
  have x3o_14 := Lib.hid (x3o_13.out.past b (Nat.le_refl _)); clear x3o_13
  have go0_14 := Lib.hid (go0_13.out.past b (Nat.le_refl _)); clear go0_13
  have BB_14 := Lib.hid (below_step BB_13.out b)
  have BW_14 := Lib.hid (below_step BW_13.out b)
  have y_ := Lib.hid s
  clear s o b
  go_wp2_with fail
  refine (eqDitchS_same l1 n1 HN1.out _ _ _ _ _ (by omega) (x1o_14.out.rd) (y_.out)).mono ?_
  rintro e w15 ⟨rfl, b⟩
  have C0_15 := Lib.hid (C0_14.out.below (b.mono BB_14.out.size)); clear C0_14
  have C1_15 := Lib.hid (C1_14.out.below (b.mono BB_14.out.size)); clear C1_14
  have C2_15 := Lib.hid (C2_14.out.below (b.mono BB_14.out.size)); clear C2_14
  have C3_15 := Lib.hid (C3_14.out.below (b.mono BB_14.out.size)); clear C3_14
  have ws0_15 := Lib.hid (ws0_14.out.below (b.mono BW_14.out.size)); clear ws0_14
  have x0o_15 := Lib.hid (x0o_14.out.past b (Nat.le_refl _)); clear x0o_14
  have x1o_15 := Lib.hid (x1o_14.out.past b (Nat.le_refl _)); clear x1o_14
  have x2o_15 := Lib.hid (x2o_14.out.past b (Nat.le_refl _)); clear x2o_14
  have x3o_15 := Lib.hid (x3o_14.out.past b (Nat.le_refl _)); clear x3o_14
  have go0_15 := Lib.hid (go0_14.out.past b (Nat.le_refl _)); clear go0_14
  have BB_15 := Lib.hid (below_step BB_14.out b)
  have BW_15 := Lib.hid (below_step BW_14.out b)
  clear b
  clear y_
  go_wp2_with fail
  refine (toIntS_sl l2 n2 HN2.out _ _ _ hq2 (C2_15.out.more BB_15.out.size)).mono ?_
  rintro e w16 ⟨yA, yc, rfl, s, o, b⟩
  have C0_16 := Lib.hid (C0_15.out.below (b.mono BB_15.out.size)); clear C0_15
  have C1_16 := Lib.hid (C1_15.out.below (b.mono BB_15.out.size)); clear C1_15
  have C2_16 := Lib.hid (C2_15.out.below (b.mono BB_15.out.size)); clear C2_15
  have C3_16 := Lib.hid (C3_15.out.below (b.mono BB_15.out.size)); clear C3_15
  have ws0_16 := Lib.hid (ws0_15.out.below (b.mono BW_15.out.size)); clear ws0_15
  have x0o_16 := Lib.hid (x0o_15.out.past b (Nat.le_refl _)); clear x0o_15
  have x1o_16 := Lib.hid (x1o_15.out.past b (Nat.le_refl _)); clear x1o_15
  have x2o_16 := Lib.hid (x2o_15.out.past b (Nat.le_refl _)); clear x2o_15
  have x3o_16 := Lib.hid (x3o_15.out.past b (Nat.le_refl _)); clear x3o_15
  have go0_16 := Lib.hid (go0_15.out.past b (Nat.le_refl _)); clear go0_15
  have BB_16 := Lib.hid (below_step BB_15.out b)
  have BW_16 := Lib.hid (below_step BW_15.out b)
  have y_ := Lib.hid s
  clear s o b
  go_wp2_with fail
  refine (eqIntS_same l2 n2 HN2.out _ _ _ _ _ (by omega) (x2o_16.out.rd) (y_.out)).mono ?_
  rintro e w17 ⟨rfl, b⟩
  have C0_17 := Lib.hid (C0_16.out.below (b.mono BB_16.out.size)); clear C0_16
  have C1_17 := Lib.hid (C1_16.out.below (b.mono BB_16.out.size)); clear C1_16
  have C2_17 := Lib.hid (C2_16.out.below (b.mono BB_16.out.size)); clear C2_16
  have C3_17 := Lib.hid (C3_16.out.below (b.mono BB_16.out.size)); clear C3_16
  have ws0_17 := Lib.hid (ws0_16.out.below (b.mono BW_16.out.size)); clear ws0_16
  have x0o_17 := Lib.hid (x0o_16.out.past b (Nat.le_refl _)); clear x0o_16
  have x1o_17 := Lib.hid (x1o_16.out.past b (Nat.le_refl _)); clear x1o_16
  have x2o_17 := Lib.hid (x2o_16.out.past b (Nat.le_refl _)); clear x2o_16
  have x3o_17 := Lib.hid (x3o_16.out.past b (Nat.le_refl _)); clear x3o_16
  have go0_17 := Lib.hid (go0_16.out.past b (Nat.le_refl _)); clear go0_16
  have BB_17 := Lib.hid (below_step BB_16.out b)
  have BW_17 := Lib.hid (below_step BW_16.out b)
  clear b
  clear y_
  go_wp2_with fail
  refine (toIntS_sl l3 n3 HN3.out _ _ _ hq3 (C3_17.out.more BB_17.out.size)).mono ?_
  rintro e w18 ⟨yA, yc, rfl, s, o, b⟩
  have C0_18 := Lib.hid (C0_17.out.below (b.mono BB_17.out.size)); clear C0_17
  have C1_18 := Lib.hid (C1_17.out.below (b.mono BB_17.out.size)); clear C1_17
  have C2_18 := Lib.hid (C2_17.out.below (b.mono BB_17.out.size)); clear C2_17
  have C3_18 := Lib.hid (C3_17.out.below (b.mono BB_17.out.size)); clear C3_17
  have ws0_18 := Lib.hid (ws0_17.out.below (b.mono BW_17.out.size)); clear ws0_17
  have x0o_18 := Lib.hid (x0o_17.out.past b (Nat.le_refl _)); clear x0o_17
  have x1o_18 := Lib.hid (x1o_17.out.past b (Nat.le_refl _)); clear x1o_17
  have x2o_18 := Lib.hid (x2o_17.out.past b (Nat.le_refl _)); clear x2o_17
  have x3o_18 := Lib.hid (x3o_17.out.past b (Nat.le_refl _)); clear x3o_17
  have go0_18 := Lib.hid (go0_17.out.past b (Nat.le_refl _)); clear go0_17
  have BB_18 := Lib.hid (below_step BB_17.out b)
  have BW_18 := Lib.hid (below_step BW_17.out b)
  have y_ := Lib.hid s
  clear s o b
  go_wp2_with fail
  refine (eqIntS_same l3 n3 HN3.out _ _ _ _ _ (by omega) (x3o_18.out.rd) (y_.out)).mono ?_
  rintro e w19 ⟨rfl, b⟩
  have C0_19 := Lib.hid (C0_18.out.below (b.mono BB_18.out.size)); clear C0_18
  have C1_19 := Lib.hid (C1_18.out.below (b.mono BB_18.out.size)); clear C1_18
  have C2_19 := Lib.hid (C2_18.out.below (b.mono BB_18.out.size)); clear C2_18
  have C3_19 := Lib.hid (C3_18.out.below (b.mono BB_18.out.size)); clear C3_18
  have ws0_19 := Lib.hid (ws0_18.out.below (b.mono BW_18.out.size)); clear ws0_18
  have x0o_19 := Lib.hid (x0o_18.out.past b (Nat.le_refl _)); clear x0o_18
  have x1o_19 := Lib.hid (x1o_18.out.past b (Nat.le_refl _)); clear x1o_18
  have x2o_19 := Lib.hid (x2o_18.out.past b (Nat.le_refl _)); clear x2o_18
  have x3o_19 := Lib.hid (x3o_18.out.past b (Nat.le_refl _)); clear x3o_18
  have go0_19 := Lib.hid (go0_18.out.past b (Nat.le_refl _)); clear go0_18
  have BB_19 := Lib.hid (below_step BB_18.out b)
  have BW_19 := Lib.hid (below_step BW_18.out b)
  clear b
  clear y_
  go_wp2_with fail
  refine (markGaugeS_own n0 _ _ _ _ _ _ (by omega) (by omega) (by omega) x0o_19.out).mono ?_
  rintro e w20 ⟨rfl, t, om⟩
  have lo1 := x0lo.out.mono bx0
  have lo2 := x0lo.out.mono by0
  have C0_20 := Lib.hid (C0_19.out.turn t lo1); clear C0_19
  have C1_20 := Lib.hid (C1_19.out.turn t lo1); clear C1_19
  have C2_20 := Lib.hid (C2_19.out.turn t lo1); clear C2_19
  have C3_20 := Lib.hid (C3_19.out.turn t lo1); clear C3_19
  have ws0_20 := Lib.hid (ws0_19.out.turn t lo2); clear ws0_19
  have x1o_20 := Lib.hid (x1o_19.out.turn t x0h_at1.out); clear x1o_19
  have x2o_20 := Lib.hid (x2o_19.out.turn t x0h_at2.out); clear x2o_19
  have x3o_20 := Lib.hid (x3o_19.out.turn t x0h_at3.out); clear x3o_19
  have go0_20 := Lib.hid (go0_19.out.turn t x0h_at.out); clear go0_19
  have BB_20 := Lib.hid (BB_19.out.trans (t.below lo1))
  have BW_20 := Lib.hid (BW_19.out.trans (t.below lo2))
  clear t om x0o_19
  go_wp2_with fail
  refine (markDitchS_own n1 _ _ _ _ _ _ (by omega) (by omega) (by omega) x1o_20.out).mono ?_
  rintro e w21 ⟨rfl, t, om⟩
  have lo1 := x1lo.out.mono bx1
  have lo2 := x1lo.out.mono by1
  have C0_21 := Lib.hid (C0_20.out.turn t lo1); clear C0_20
  have C1_21 := Lib.hid (C1_20.out.turn t lo1); clear C1_20
  have C2_21 := Lib.hid (C2_20.out.turn t lo1); clear C2_20
  have C3_21 := Lib.hid (C3_20.out.turn t lo1); clear C3_20
  have ws0_21 := Lib.hid (ws0_20.out.turn t lo2); clear ws0_20
  have x2o_21 := Lib.hid (x2o_20.out.turn t x1h_at2.out); clear x2o_20
  have x3o_21 := Lib.hid (x3o_20.out.turn t x1h_at3.out); clear x3o_20
  have go0_21 := Lib.hid (go0_20.out.turn t x1h_at.out); clear go0_20
  have BB_21 := Lib.hid (BB_20.out.trans (t.below lo1))
  have BW_21 := Lib.hid (BW_20.out.trans (t.below lo2))
  clear t om x1o_20
  go_wp2_with fail
  refine (markIntS_own n2 _ _ _ _ _ _ (by omega) (by omega) (by omega) x2o_21.out).mono ?_
  rintro e w22 ⟨rfl, t, om⟩
  have lo1 := x2lo.out.mono bx2
  have lo2 := x2lo.out.mono by2
  have C0_22 := Lib.hid (C0_21.out.turn t lo1); clear C0_21
  have C1_22 := Lib.hid (C1_21.out.turn t lo1); clear C1_21
  have C2_22 := Lib.hid (C2_21.out.turn t lo1); clear C2_21
  have C3_22 := Lib.hid (C3_21.out.turn t lo1); clear C3_21
  have ws0_22 := Lib.hid (ws0_21.out.turn t lo2); clear ws0_21
  have x3o_22 := Lib.hid (x3o_21.out.turn t x2h_at3.out); clear x3o_21
  have go0_22 := Lib.hid (go0_21.out.turn t x2h_at.out); clear go0_21
  have BB_22 := Lib.hid (BB_21.out.trans (t.below lo1))
  have BW_22 := Lib.hid (BW_21.out.trans (t.below lo2))
  clear t om x2o_21
  go_wp2_with fail
  refine (markIntS_own n3 _ _ _ _ _ _ (by omega) (by omega) (by omega) x3o_22.out).mono ?_
  rintro e w23 ⟨rfl, t, om⟩
  have lo1 := x3lo.out.mono bx3
  have lo2 := x3lo.out.mono by3
  have C0_23 := Lib.hid (C0_22.out.turn t lo1); clear C0_22
  have C1_23 := Lib.hid (C1_22.out.turn t lo1); clear C1_22
  have C2_23 := Lib.hid (C2_22.out.turn t lo1); clear C2_22
  have C3_23 := Lib.hid (C3_22.out.turn t lo1); clear C3_22
  have ws0_23 := Lib.hid (ws0_22.out.turn t lo2); clear ws0_22
  have go0_23 := Lib.hid (go0_22.out.turn t x3h_at.out); clear go0_22
  have BB_23 := Lib.hid (BB_22.out.trans (t.below lo1))
  have BW_23 := Lib.hid (BW_22.out.trans (t.below lo2))
  clear t om x3o_22
  go_wp2_with fail
  refine (eqIntS_same ((shortP l0 l1 l2 l3).1) q0 HP0.out _ _ _ _ _ (by omega) (go0_23.out.rd) (ws0_23.out.more BW_23.out.size)).mono ?_
  rintro e w24 ⟨rfl, b⟩
  have C0_24 := Lib.hid (C0_23.out.below (b.mono BB_23.out.size)); clear C0_23
  have C1_24 := Lib.hid (C1_23.out.below (b.mono BB_23.out.size)); clear C1_23
  have C2_24 := Lib.hid (C2_23.out.below (b.mono BB_23.out.size)); clear C2_23
  have C3_24 := Lib.hid (C3_23.out.below (b.mono BB_23.out.size)); clear C3_23
  have ws0_24 := Lib.hid (ws0_23.out.below (b.mono BW_23.out.size)); clear ws0_23
  have go0_24 := Lib.hid (go0_23.out.past b (Nat.le_refl _)); clear go0_23
  have BB_24 := Lib.hid (below_step BB_23.out b)
  have BW_24 := Lib.hid (below_step BW_23.out b)
  clear b
  go_wp2_with fail
  refine (markIntS_own q0 _ _ _ _ _ _ (by omega) (by omega) (by omega) go0_24.out).mono ?_
  rintro e w25 ⟨rfl, t, om⟩
  have lo1 := glo0.out.mono bgx
  have lo2 := glo0.out.mono bgy
  have C0_25 := Lib.hid (C0_24.out.turn t lo1); clear C0_24
  have C1_25 := Lib.hid (C1_24.out.turn t lo1); clear C1_24
  have C2_25 := Lib.hid (C2_24.out.turn t lo1); clear C2_24
  have C3_25 := Lib.hid (C3_24.out.turn t lo1); clear C3_24
  have ws0_25 := Lib.hid (ws0_24.out.turn t lo2); clear ws0_24
  have BB_25 := Lib.hid (BB_24.out.trans (t.below lo1))
  have BW_25 := Lib.hid (BW_24.out.trans (t.below lo2))
  have go0_25 := Lib.hid om
  clear t om go0_24
  go_wp2_with fail
  refine (heldIntS_sl q0 _ _ _ _ (by omega) (by omega) (by omega) go0_25.out.rd).mono ?_
  rintro e w26 ⟨rfl, b⟩
  have C0_26 := Lib.hid (C0_25.out.below (b.mono BB_25.out.size)); clear C0_25
  have C1_26 := Lib.hid (C1_25.out.below (b.mono BB_25.out.size)); clear C1_25
  have C2_26 := Lib.hid (C2_25.out.below (b.mono BB_25.out.size)); clear C2_25
  have C3_26 := Lib.hid (C3_25.out.below (b.mono BB_25.out.size)); clear C3_25
  have ws0_26 := Lib.hid (ws0_25.out.below (b.mono BW_25.out.size)); clear ws0_25
  have go0_26 := Lib.hid (go0_25.out.past b (Nat.le_refl _)); clear go0_25
  have BB_26 := Lib.hid (below_step BB_25.out b)
  have BW_26 := Lib.hid (below_step BW_25.out b)
  clear b
  go_wp2_with fail
  refine (toGaugeS_sl l0 n0 HN0.out _ _ _ hq0 (C0_26.out.more BB_26.out.size)).mono ?_
  rintro e w27 ⟨h0A, h0c, rfl, s, o, b⟩
  have h0p := o.cap
  have C0_27 := Lib.hid (C0_26.out.below (b.mono BB_26.out.size)); clear C0_26
  have C1_27 := Lib.hid (C1_26.out.below (b.mono BB_26.out.size)); clear C1_26
  have C2_27 := Lib.hid (C2_26.out.below (b.mono BB_26.out.size)); clear C2_26
  have C3_27 := Lib.hid (C3_26.out.below (b.mono BB_26.out.size)); clear C3_26
  have ws0_27 := Lib.hid (ws0_26.out.below (b.mono BW_26.out.size)); clear ws0_26
  have go0_27 := Lib.hid (go0_26.out.past b (Nat.le_refl _)); clear go0_26
  have BB_27 := Lib.hid (below_step BB_26.out b)
  have BW_27 := Lib.hid (below_step BW_26.out b)
  have h0o_27 := Lib.hid o
  clear s o b
  go_wp2_with fail
  refine (toDitchS_sl l1 n1 HN1.out _ _ _ hq1 (C1_27.out.more BB_27.out.size)).mono ?_
  rintro e w28 ⟨h1A, h1c, rfl, s, o, b⟩
  have h1p := o.cap
  have C0_28 := Lib.hid (C0_27.out.below (b.mono BB_27.out.size)); clear C0_27
  have C1_28 := Lib.hid (C1_27.out.below (b.mono BB_27.out.size)); clear C1_27
  have C2_28 := Lib.hid (C2_27.out.below (b.mono BB_27.out.size)); clear C2_27
  have C3_28 := Lib.hid (C3_27.out.below (b.mono BB_27.out.size)); clear C3_27
  have ws0_28 := Lib.hid (ws0_27.out.below (b.mono BW_27.out.size)); clear ws0_27
  have go0_28 := Lib.hid (go0_27.out.past b (Nat.le_refl _)); clear go0_27
  have h0o_28 := Lib.hid (h0o_27.out.past b (Nat.le_refl _)); clear h0o_27
  have BB_28 := Lib.hid (below_step BB_27.out b)
  have BW_28 := Lib.hid (below_step BW_27.out b)
  have h1o_28 := Lib.hid o
  clear s o b
  go_wp2_with fail
  refine (toIntS_sl l2 n2 HN2.out _ _ _ hq2 (C2_28.out.more BB_28.out.size)).mono ?_
  rintro e w29 ⟨h2A, h2c, rfl, s, o, b⟩
  have h2p := o.cap
  have C0_29 := Lib.hid (C0_28.out.below (b.mono BB_28.out.size)); clear C0_28
  have C1_29 := Lib.hid (C1_28.out.below (b.mono BB_28.out.size)); clear C1_28
  have C2_29 := Lib.hid (C2_28.out.below (b.mono BB_28.out.size)); clear C2_28
  have C3_29 := Lib.hid (C3_28.out.below (b.mono BB_28.out.size)); clear C3_28
  have ws0_29 := Lib.hid (ws0_28.out.below (b.mono BW_28.out.size)); clear ws0_28
  have go0_29 := Lib.hid (go0_28.out.past b (Nat.le_refl _)); clear go0_28
  have h0o_29 := Lib.hid (h0o_28.out.past b (Nat.le_refl _)); clear h0o_28
  have h1o_29 := Lib.hid (h1o_28.out.past b (Nat.le_refl _)); clear h1o_28
  have BB_29 := Lib.hid (below_step BB_28.out b)
  have BW_29 := Lib.hid (below_step BW_28.out b)
  have h2o_29 := Lib.hid o
  clear s o b
  go_wp2_with fail
  refine (toIntS_sl l3 n3 HN3.out _ _ _ hq3 (C3_29.out.more BB_29.out.size)).mono ?_
  rintro e w30 ⟨h3A, h3c, rfl, s, o, b⟩
  have h3p := o.cap
  have C0_30 := Lib.hid (C0_29.out.below (b.mono BB_29.out.size)); clear C0_29
  have C1_30 := Lib.hid (C1_29.out.below (b.mono BB_29.out.size)); clear C1_29
  have C2_30 := Lib.hid (C2_29.out.below (b.mono BB_29.out.size)); clear C2_29
  have C3_30 := Lib.hid (C3_29.out.below (b.mono BB_29.out.size)); clear C3_29
  have ws0_30 := Lib.hid (ws0_29.out.below (b.mono BW_29.out.size)); clear ws0_29
  have go0_30 := Lib.hid (go0_29.out.past b (Nat.le_refl _)); clear go0_29
  have h0o_30 := Lib.hid (h0o_29.out.past b (Nat.le_refl _)); clear h0o_29
  have h1o_30 := Lib.hid (h1o_29.out.past b (Nat.le_refl _)); clear h1o_29
  have h2o_30 := Lib.hid (h2o_29.out.past b (Nat.le_refl _)); clear h2o_29
  have BB_30 := Lib.hid (below_step BB_29.out b)
  have BW_30 := Lib.hid (below_step BW_29.out b)
  have h3o_30 := Lib.hid o
  clear s o b
  go_wp2_with fail
  refine (impl_ShortestPlan_any l0 l1 l2 l3 n0 n1 n2 n3 HN0.out HN1.out HN2.out HN3.out _ _ _ _ _ _ _ _ _ hq0 hq1 hq2 hq3 h2p h3p (h0o_30.out.rd) (h1o_30.out.rd) (h2o_30.out.rd) (h3o_30.out.rd)).mono ?_
  rintro e w31 ⟨v0, rfl, o0, b⟩
  obtain ⟨hA0, hc0, rfl, _, _, _⟩ := o0.slice
  rw [HP0.out] at o0 ⊢
  have C0_31 := Lib.hid (C0_30.out.below (b.mono BB_30.out.size)); clear C0_30
  have C1_31 := Lib.hid (C1_30.out.below (b.mono BB_30.out.size)); clear C1_30
  have C2_31 := Lib.hid (C2_30.out.below (b.mono BB_30.out.size)); clear C2_30
  have C3_31 := Lib.hid (C3_30.out.below (b.mono BB_30.out.size)); clear C3_30
  have ws0_31 := Lib.hid (ws0_30.out.below (b.mono BW_30.out.size)); clear ws0_30
  have go0_31 := Lib.hid (go0_30.out.past b (Nat.le_refl _)); clear go0_30
  have h0o_31 := Lib.hid (h0o_30.out.past b (Nat.le_refl _)); clear h0o_30
  have h1o_31 := Lib.hid (h1o_30.out.past b (Nat.le_refl _)); clear h1o_30
  have h2o_31 := Lib.hid (h2o_30.out.past b (Nat.le_refl _)); clear h2o_30
  have h3o_31 := Lib.hid (h3o_30.out.past b (Nat.le_refl _)); clear h3o_30
  have BB_31 := Lib.hid (below_step BB_30.out b)
  have BW_31 := Lib.hid (below_step BW_30.out b)
  have ho0_31 := Lib.hid o0
  clear b o0
  clear h0o_31
  clear h1o_31
  clear h2o_31
  clear h3o_31
  go_wp2_with fail
  refine (eqIntS_same ((shortP l0 l1 l2 l3).1) q0 HP0.out _ _ _ _ _ (by omega) (ho0_31.out.rd) (ws0_31.out.more BW_31.out.size)).mono ?_
  rintro e w32 ⟨rfl, b⟩
  have C0_32 := Lib.hid (C0_31.out.below (b.mono BB_31.out.size)); clear C0_31
  have C1_32 := Lib.hid (C1_31.out.below (b.mono BB_31.out.size)); clear C1_31
  have C2_32 := Lib.hid (C2_31.out.below (b.mono BB_31.out.size)); clear C2_31
  have C3_32 := Lib.hid (C3_31.out.below (b.mono BB_31.out.size)); clear C3_31
  have ws0_32 := Lib.hid (ws0_31.out.below (b.mono BW_31.out.size)); clear ws0_31
  have go0_32 := Lib.hid (go0_31.out.past b (Nat.le_refl _)); clear go0_31
  have ho0_32 := Lib.hid (ho0_31.out.past b (Nat.le_refl _)); clear ho0_31
  have BB_32 := Lib.hid (below_step BB_31.out b)
  have BW_32 := Lib.hid (below_step BW_31.out b)
  clear b
  go_wp2_with fail
  refine (heldIntS_sl q0 _ _ _ _ (by omega) (by omega) (by omega) go0_32.out.rd).mono ?_
  rintro e w33 ⟨rfl, b⟩
  have C0_33 := Lib.hid (C0_32.out.below (b.mono BB_32.out.size)); clear C0_32
  have C1_33 := Lib.hid (C1_32.out.below (b.mono BB_32.out.size)); clear C1_32
  have C2_33 := Lib.hid (C2_32.out.below (b.mono BB_32.out.size)); clear C2_32
  have C3_33 := Lib.hid (C3_32.out.below (b.mono BB_32.out.size)); clear C3_32
  have ws0_33 := Lib.hid (ws0_32.out.below (b.mono BW_32.out.size)); clear ws0_32
  have go0_33 := Lib.hid (go0_32.out.past b (Nat.le_refl _)); clear go0_32
  have ho0_33 := Lib.hid (ho0_32.out.past b (Nat.le_refl _)); clear ho0_32
  have BB_33 := Lib.hid (below_step BB_32.out b)
  have BW_33 := Lib.hid (below_step BW_32.out b)
  clear b
  go_wp2
  go_ret
  exact ⟨rfl, BB_33.out⟩
set_option maxRecDepth 100000 in
theorem FnExactShortestPlan_lifted (os : Os) (started : os.Started) (H : Type) (enc : TypeId × Value → H) :
    ReturnsInHanded {} Try.checked os 11 .any (Rows.fnExactShortestPlanSpec.pre6 enc Try.prog Try.f11 Rows.fnExactShortestPlanRow.domain false) (Rows.fnExactShortestPlanSpec.post enc Try.prog Try.f11 false true false false) := by
  refine returnsInHanded_of_change (C := Try.checked) own_ started (by kernel_rfl) Try.func11
    (ChangeSpec.witness6 (enc := enc) (C := Try.checked) false ⟨#[], #[.slice none 0 0, .slice none 0 0, .slice none 0 0, .slice none 0 0], []⟩ 8 (by kernel_rfl) (by kernel_rfl) (by kernel_rfl) (by kernel_rfl)) ?_
  intro W base args ds gs before hval0 hW hcnd _
  have hval : ∀ (j : Nat) t v, Try.f11.params[j]? = some t → args[j]? = some v → Value.okWide Try.prog W .any base t v := hval0
  clear hval0 hcnd
  refine law_contract laid_ (tb := 4) rfl rfl Try.underlying4 (fun ds hd => ?_) (by show Readable Try.prog [38, 25, 26, 26]; repeat (first | exact trivial | refine ⟨⟨by kernel_rfl, of_decide_eq_true (by kernel_rfl)⟩, ?_⟩)) hW ?_
  · match ds, hd with
    | [d0, d1, d2, d3], _ => rfl
  obtain ⟨p, q, hA0, hV, rfl, hfz, hnd⟩ := hW
  have hA : DataW.TrodAll enc Try.prog W 0 (fun _ => true) true Try.f11.params.toList args.toList ds p := hA0
  clear hA0
  rw [Try.params11] at hA hval
  obtain ⟨v0, vs0, d0, ds0, p0, q0, hargs, rfl, rfl, h0, r0⟩ := trodAll_cons hA
  obtain ⟨v1, vs1, d1, ds1, p1, q1, rfl, rfl, rfl, h1, r1⟩ := trodAll_cons r0
  obtain ⟨v2, vs2, d2, ds2, p2, q2, rfl, rfl, rfl, h2, r2⟩ := trodAll_cons r1
  obtain ⟨v3, vs3, d3, ds3, p3, q3, rfl, rfl, rfl, h3, r3⟩ := trodAll_cons r2
  obtain ⟨rfl, rfl, rfl⟩ := trodAll_nil r3
  obtain rfl : args = #[v0, v1, v2, v3] := by cases args; simp_all
  obtain ⟨A0, m0, cc0, ll0, rfl, hn0, hm0, hsl0, _⟩ := open_sl encGauge mkGauge mkGauge_f Try.underlying38 Try.underlying101 (by kernel_rfl) (by kernel_rfl) rfl (by decide) (fun j f hj => by
    match j, hj with
    | 0, hj | 1, hj => simp at hj; subst hj; exact Try.underlying3) (hval 0 _ v0 rfl rfl) h0
  obtain ⟨A1, m1, cc1, ll1, rfl, hn1, hm1, hsl1, _⟩ := open_sla encDitch mkDitch mkDitch_f Try.underlying25 Try.underlying84 Try.underlying3 (by kernel_rfl) (by kernel_rfl) (by decide) (hval 1 _ v1 rfl rfl) h1
  obtain ⟨A2, m2, cc2, ll2, rfl, hn2, hm2, hsl2, _⟩ := open_is Try.underlying26 Try.underlying3 (by kernel_rfl) (hval 2 _ v2 rfl rfl) h2
  obtain ⟨A3, m3, cc3, ll3, rfl, hn3, hm3, hsl3, _⟩ := open_is Try.underlying26 Try.underlying3 (by kernel_rfl) (hval 3 _ v3 rfl rfl) h3
  exact FnExactShortestPlan_walk ll0 m0 hn0 A0 cc0 ll1 m1 hn1 A1 cc1 ll2 m2 hn2 A2 cc2 ll3 m3 hn3 A3 cc3 W (by unfold maxLen at hm0; exact hm0) hsl0 (by unfold maxLen at hm1; exact hm1) hsl1 (by unfold maxLen at hm2; exact hm2) hsl2 (by unfold maxLen at hm3; exact hm3) hsl3
theorem FnExactShortestPlan_holds : Rows.FnExactShortestPlanSaid :=
  OpenClaim.holds_of_wide 11 Try.f11 rfl rfl rfl rfl rfl rfl rfl ⟨rfl, rfl, rfl, rfl, rfl⟩ rfl rfl rfl rfl rfl (by kernel_rfl) Try.func11 (by kernel_rfl)
    (of_decide_eq_true (by kernel_rfl)) (by unfold Func.isWrapper; rw [if_neg (of_decide_eq_false (by kernel_rfl))]; exact ⟨rfl, rfl⟩)
    (fun os started H enc _ => FnExactShortestPlan_lifted os started H enc)
end Go.Proofs.Ytbedepmcecdhfaa
