/- The law FnExactServeAll: the program's answer is the reference's, shares no memory and leaves its arguments alone. No condition. -/
import Derived.Test.YtcljfdpjlkaagaaServeAlS
import Derived.Test.YtcljfdpjlkaagaaContractZ
import Derived.Test.YtcljfdpjlkaagaaContractM
import Derived.Test.YtcljfdpjlkaagaaIntM
import Derived.Test.YtcljfdpjlkaagaaFrameI
import Derived.Test.YtcljfdpjlkaagaaTurn
namespace Go.Proofs.Ytcljfdpjlkaagaa
open Go.ChangeShapes Go.WideShapes Go.ChangeAt Go.RowKit
set_option maxRecDepth 4000 in
set_option maxHeartbeats 8000000 in
theorem FnExactServeAll_walk (l0 : List Int) (n0 : Nat) (hn0 : l0.length = n0) (A0 : Option Addr) (cap0 : Nat) (l1 : List Contract) (n1 : Nat) (hn1 : l1.length = n1) (A1 : Option Addr) (cap1 : Nat) (w : World) (hm0 : n0 ≤ 9223372036854775807) (hc0 : Sl encInt w w.heap.size A0 l0) (hm1 : n1 ≤ 9223372036854775807) (hc1 : Sl encContract w w.heap.size A1 l1) :
    Calls Try.prog 12 #[.slice A0 n0 cap0, .slice A1 n1 cap1] w fun e w' => e = .returned (.bool true) ∧ Below w.heap.size w w' := by
  have C0_0 := Lib.hid hc0; clear hc0
  have HN0 := Lib.hid hn0; clear hn0
  have C1_0 := Lib.hid hc1; clear hc1
  have HN1 := Lib.hid hn1; clear hn1
  by_cases hq0 : n0 ≤ 1048576
  rotate_left
  · have hl' : 1048576 < n0 := by omega
    go_enter Try.func12, Try.ntmps12
    go_wp2
    go_ret
    exact ⟨rfl, (by repeat (first | assumption | exact Below.refl _ _ | apply bl_gw | apply bl_alloc | apply bl_drewN | apply bl_drew))⟩
  by_cases hl1 : n1 ≤ 1048576
  rotate_left
  · have hl' : 1048576 < n1 := by omega
    go_enter Try.func12, Try.ntmps12
    go_wp2_with fail
    refine (szContractS_over _ _ _ _ _ (by omega) (by omega) hm1).mono ?_; rintro e w' ⟨rfl, rfl⟩
    go_wp2
    go_ret
    exact ⟨rfl, (by repeat (first | assumption | exact Below.refl _ _ | apply bl_gw | apply bl_alloc | apply bl_drewN | apply bl_drew))⟩
  have hq1 : n1 ≤ 1048576 := by omega
  go_enter Try.func12, Try.ntmps12
  go_wp2_with fail
  refine (szContractS_fit _ _ _ _ _ (by omega) (by omega)).mono ?_; rintro e w' ⟨rfl, rfl⟩
  have BB_0 := Lib.hid (Below.refl w.heap.size w)
  obtain ⟨q0, hP0⟩ : ∃ q, (allS l0 l1).length = q := ⟨_, rfl⟩
  have hQ0 : q0 ≤ 1000000 := by rw [← hP0]; exact allS_length _ _
  have HP0 := Lib.hid hP0; clear hP0
  obtain ⟨q1, hP1⟩ : ∃ q, (allG l0 l1).length = q := ⟨_, rfl⟩
  have hQ1 : q1 ≤ 1000000 := by rw [← hP1]; exact allG_length _ _
  have HP1 := Lib.hid hP1; clear hP1
  go_wp2_with fail
  refine (toIntS_sl l0 n0 HN0.out _ _ _ hq0 (C0_0.out.more BB_0.out.size)).mono ?_
  rintro e w1 ⟨a0A, a0c, rfl, s, o, b⟩
  have a0p := o.cap
  have C0_1 := Lib.hid (C0_0.out.below (b.mono BB_0.out.size)); clear C0_0
  have C1_1 := Lib.hid (C1_0.out.below (b.mono BB_0.out.size)); clear C1_0
  have BB_1 := Lib.hid (below_step BB_0.out b)
  have a0o_1 := Lib.hid o
  clear s o b
  go_wp2_with fail
  refine (toContractS_sl l1 n1 HN1.out _ _ _ hq1 (C1_1.out.more BB_1.out.size)).mono ?_
  rintro e w2 ⟨a1A, a1c, rfl, s, o, b⟩
  have a1p := o.cap
  have C0_2 := Lib.hid (C0_1.out.below (b.mono BB_1.out.size)); clear C0_1
  have C1_2 := Lib.hid (C1_1.out.below (b.mono BB_1.out.size)); clear C1_1
  have a0o_2 := Lib.hid (a0o_1.out.past b (Nat.le_refl _)); clear a0o_1
  have BB_2 := Lib.hid (below_step BB_1.out b)
  have a1o_2 := Lib.hid o
  clear s o b
  go_wp2_with fail
  refine (spec_ServeAll_any l0 l1 n0 n1 HN0.out HN1.out _ _ _ _ _ hq0 hq1 (a0o_2.out.rd) (a1o_2.out.rd)).mono ?_
  rintro e w3 ⟨v0, v1, rfl, o0, o1, b⟩
  obtain ⟨wA0, wc0, rfl, _, _, _⟩ := o0.slice
  rw [HP0.out] at o0 ⊢
  obtain ⟨wA1, wc1, rfl, _, _, _⟩ := o1.slice
  rw [HP1.out] at o1 ⊢
  have BW_3 := Lib.hid (Below.refl w3.heap.size w3)
  have C0_3 := Lib.hid (C0_2.out.below (b.mono BB_2.out.size)); clear C0_2
  have C1_3 := Lib.hid (C1_2.out.below (b.mono BB_2.out.size)); clear C1_2
  have a0o_3 := Lib.hid (a0o_2.out.past b (Nat.le_refl _)); clear a0o_2
  have a1o_3 := Lib.hid (a1o_2.out.past b (Nat.le_refl _)); clear a1o_2
  have BB_3 := Lib.hid (below_step BB_2.out b)
  have ws0_3 := Lib.hid o0.rd
  have ws1_3 := Lib.hid o1.rd
  clear b o0 o1
  clear a0o_3
  clear a1o_3
  go_wp2_with fail
  refine (toIntS_sl l0 n0 HN0.out _ _ _ hq0 (C0_3.out.more BB_3.out.size)).mono ?_
  have bx0 := BB_3.out.size
  have by0 := BW_3.out.size
  rintro e w4 ⟨x0A, x0c, rfl, s, o, b⟩
  have x0p := o.cap
  have x0lo := Lib.hid o.lo
  have C0_4 := Lib.hid (C0_3.out.below (b.mono BB_3.out.size)); clear C0_3
  have C1_4 := Lib.hid (C1_3.out.below (b.mono BB_3.out.size)); clear C1_3
  have ws0_4 := Lib.hid (ws0_3.out.below (b.mono BW_3.out.size)); clear ws0_3
  have ws1_4 := Lib.hid (ws1_3.out.below (b.mono BW_3.out.size)); clear ws1_3
  have BB_4 := Lib.hid (below_step BB_3.out b)
  have BW_4 := Lib.hid (below_step BW_3.out b)
  have x0h_4 := Lib.hid o.hi
  have x0o_4 := Lib.hid o
  clear s o b
  go_wp2_with fail
  refine (toContractS_sl l1 n1 HN1.out _ _ _ hq1 (C1_4.out.more BB_4.out.size)).mono ?_
  have bx1 := BB_4.out.size
  have by1 := BW_4.out.size
  have x0h_at1 := x0h_4
  rintro e w5 ⟨x1A, x1c, rfl, s, o, b⟩
  have x1p := o.cap
  have x1lo := Lib.hid o.lo
  have C0_5 := Lib.hid (C0_4.out.below (b.mono BB_4.out.size)); clear C0_4
  have C1_5 := Lib.hid (C1_4.out.below (b.mono BB_4.out.size)); clear C1_4
  have ws0_5 := Lib.hid (ws0_4.out.below (b.mono BW_4.out.size)); clear ws0_4
  have ws1_5 := Lib.hid (ws1_4.out.below (b.mono BW_4.out.size)); clear ws1_4
  have x0o_5 := Lib.hid (x0o_4.out.past b (Nat.le_refl _)); clear x0o_4
  have x0h_5 := Lib.hid (x0h_4.out.mono b.size); clear x0h_4
  have BB_5 := Lib.hid (below_step BB_4.out b)
  have BW_5 := Lib.hid (below_step BW_4.out b)
  have x1h_5 := Lib.hid o.hi
  have x1o_5 := Lib.hid o
  clear s o b
  have bgx := BB_5.out.size
  have bgy := BW_5.out.size
  go_wp2_with fail
  refine (impl_ServeAll_any l0 l1 n0 n1 HN0.out HN1.out _ _ _ _ _ hq0 hq1 (x0o_5.out.rd) (x1o_5.out.rd)).mono ?_
  rintro e w6 ⟨v0, v1, rfl, o0, o1, ap, b⟩
  obtain ⟨gA0, gc0, rfl, _, _, _⟩ := o0.slice
  rw [HP0.out] at o0 ⊢
  obtain ⟨gA1, gc1, rfl, _, _, _⟩ := o1.slice
  rw [HP1.out] at o1 ⊢
  rw [HP0.out, HP1.out] at ap
  have x0h_at := x0h_5
  have x1h_at := x1h_5
  have C0_6 := Lib.hid (C0_5.out.below (b.mono BB_5.out.size)); clear C0_5
  have C1_6 := Lib.hid (C1_5.out.below (b.mono BB_5.out.size)); clear C1_5
  have ws0_6 := Lib.hid (ws0_5.out.below (b.mono BW_5.out.size)); clear ws0_5
  have ws1_6 := Lib.hid (ws1_5.out.below (b.mono BW_5.out.size)); clear ws1_5
  have x0o_6 := Lib.hid (x0o_5.out.past b (Nat.le_refl _)); clear x0o_5
  have x1o_6 := Lib.hid (x1o_5.out.past b (Nat.le_refl _)); clear x1o_5
  have x0h_6 := Lib.hid (x0h_5.out.mono b.size); clear x0h_5
  have x1h_6 := Lib.hid (x1h_5.out.mono b.size); clear x1h_5
  have BB_6 := Lib.hid (below_step BB_5.out b)
  have BW_6 := Lib.hid (below_step BW_5.out b)
  have go0_6 := Lib.hid o0
  have glo0 := Lib.hid o0.lo
  have gh0_6 := Lib.hid o0.hi
  have go1_6 := Lib.hid o1
  have glo1 := Lib.hid o1.lo
  have gh1_6 := Lib.hid o1.hi
  have ap01 := Lib.hid (show ∀ a, gA0 = some a → (Value.slice gA1 q1 gc1).ownBlock ≠ some a.block from fun a e h => ap _ h (by rw [e]; rfl))
  have ap10 := Lib.hid (show ∀ a, gA1 = some a → (Value.slice gA0 q0 gc0).ownBlock ≠ some a.block from fun a e => ap _ (by rw [e]; rfl))
  clear b ap o0 o1
  go_wp2_with fail
  refine (eqIntS_same (allS l0 l1) q0 HP0.out _ _ _ _ _ (by omega) (go0_6.out.rd) (ws0_6.out.more BW_6.out.size)).mono ?_
  rintro e w7 ⟨rfl, b⟩
  have C0_7 := Lib.hid (C0_6.out.below (b.mono BB_6.out.size)); clear C0_6
  have C1_7 := Lib.hid (C1_6.out.below (b.mono BB_6.out.size)); clear C1_6
  have ws0_7 := Lib.hid (ws0_6.out.below (b.mono BW_6.out.size)); clear ws0_6
  have ws1_7 := Lib.hid (ws1_6.out.below (b.mono BW_6.out.size)); clear ws1_6
  have x0o_7 := Lib.hid (x0o_6.out.past b (Nat.le_refl _)); clear x0o_6
  have x1o_7 := Lib.hid (x1o_6.out.past b (Nat.le_refl _)); clear x1o_6
  have go0_7 := Lib.hid (go0_6.out.past b (Nat.le_refl _)); clear go0_6
  have go1_7 := Lib.hid (go1_6.out.past b (Nat.le_refl _)); clear go1_6
  have BB_7 := Lib.hid (below_step BB_6.out b)
  have BW_7 := Lib.hid (below_step BW_6.out b)
  clear b
  go_wp2_with fail
  refine (eqIntS_same (allG l0 l1) q1 HP1.out _ _ _ _ _ (by omega) (go1_7.out.rd) (ws1_7.out.more BW_7.out.size)).mono ?_
  rintro e w8 ⟨rfl, b⟩
  have C0_8 := Lib.hid (C0_7.out.below (b.mono BB_7.out.size)); clear C0_7
  have C1_8 := Lib.hid (C1_7.out.below (b.mono BB_7.out.size)); clear C1_7
  have ws0_8 := Lib.hid (ws0_7.out.below (b.mono BW_7.out.size)); clear ws0_7
  have ws1_8 := Lib.hid (ws1_7.out.below (b.mono BW_7.out.size)); clear ws1_7
  have x0o_8 := Lib.hid (x0o_7.out.past b (Nat.le_refl _)); clear x0o_7
  have x1o_8 := Lib.hid (x1o_7.out.past b (Nat.le_refl _)); clear x1o_7
  have go0_8 := Lib.hid (go0_7.out.past b (Nat.le_refl _)); clear go0_7
  have go1_8 := Lib.hid (go1_7.out.past b (Nat.le_refl _)); clear go1_7
  have BB_8 := Lib.hid (below_step BB_7.out b)
  have BW_8 := Lib.hid (below_step BW_7.out b)
  clear b
  go_wp2_with fail
  refine (toIntS_sl l0 n0 HN0.out _ _ _ hq0 (C0_8.out.more BB_8.out.size)).mono ?_
  rintro e w9 ⟨yA, yc, rfl, s, o, b⟩
  have C0_9 := Lib.hid (C0_8.out.below (b.mono BB_8.out.size)); clear C0_8
  have C1_9 := Lib.hid (C1_8.out.below (b.mono BB_8.out.size)); clear C1_8
  have ws0_9 := Lib.hid (ws0_8.out.below (b.mono BW_8.out.size)); clear ws0_8
  have ws1_9 := Lib.hid (ws1_8.out.below (b.mono BW_8.out.size)); clear ws1_8
  have x0o_9 := Lib.hid (x0o_8.out.past b (Nat.le_refl _)); clear x0o_8
  have x1o_9 := Lib.hid (x1o_8.out.past b (Nat.le_refl _)); clear x1o_8
  have go0_9 := Lib.hid (go0_8.out.past b (Nat.le_refl _)); clear go0_8
  have go1_9 := Lib.hid (go1_8.out.past b (Nat.le_refl _)); clear go1_8
  have BB_9 := Lib.hid (below_step BB_8.out b)
  have BW_9 := Lib.hid (below_step BW_8.out b)
  have y_ := Lib.hid s
  clear s o b
  go_wp2_with fail
  refine (eqIntS_same l0 n0 HN0.out _ _ _ _ _ (by omega) (x0o_9.out.rd) (y_.out)).mono ?_
  rintro e w10 ⟨rfl, b⟩
  have C0_10 := Lib.hid (C0_9.out.below (b.mono BB_9.out.size)); clear C0_9
  have C1_10 := Lib.hid (C1_9.out.below (b.mono BB_9.out.size)); clear C1_9
  have ws0_10 := Lib.hid (ws0_9.out.below (b.mono BW_9.out.size)); clear ws0_9
  have ws1_10 := Lib.hid (ws1_9.out.below (b.mono BW_9.out.size)); clear ws1_9
  have x0o_10 := Lib.hid (x0o_9.out.past b (Nat.le_refl _)); clear x0o_9
  have x1o_10 := Lib.hid (x1o_9.out.past b (Nat.le_refl _)); clear x1o_9
  have go0_10 := Lib.hid (go0_9.out.past b (Nat.le_refl _)); clear go0_9
  have go1_10 := Lib.hid (go1_9.out.past b (Nat.le_refl _)); clear go1_9
  have BB_10 := Lib.hid (below_step BB_9.out b)
  have BW_10 := Lib.hid (below_step BW_9.out b)
  clear b
  clear y_
  go_wp2_with fail
  refine (toContractS_sl l1 n1 HN1.out _ _ _ hq1 (C1_10.out.more BB_10.out.size)).mono ?_
  rintro e w11 ⟨yA, yc, rfl, s, o, b⟩
  have C0_11 := Lib.hid (C0_10.out.below (b.mono BB_10.out.size)); clear C0_10
  have C1_11 := Lib.hid (C1_10.out.below (b.mono BB_10.out.size)); clear C1_10
  have ws0_11 := Lib.hid (ws0_10.out.below (b.mono BW_10.out.size)); clear ws0_10
  have ws1_11 := Lib.hid (ws1_10.out.below (b.mono BW_10.out.size)); clear ws1_10
  have x0o_11 := Lib.hid (x0o_10.out.past b (Nat.le_refl _)); clear x0o_10
  have x1o_11 := Lib.hid (x1o_10.out.past b (Nat.le_refl _)); clear x1o_10
  have go0_11 := Lib.hid (go0_10.out.past b (Nat.le_refl _)); clear go0_10
  have go1_11 := Lib.hid (go1_10.out.past b (Nat.le_refl _)); clear go1_10
  have BB_11 := Lib.hid (below_step BB_10.out b)
  have BW_11 := Lib.hid (below_step BW_10.out b)
  have y_ := Lib.hid s
  clear s o b
  go_wp2_with fail
  refine (eqContractS_same l1 n1 HN1.out _ _ _ _ _ (by omega) (x1o_11.out.rd) (y_.out)).mono ?_
  rintro e w12 ⟨rfl, b⟩
  have C0_12 := Lib.hid (C0_11.out.below (b.mono BB_11.out.size)); clear C0_11
  have C1_12 := Lib.hid (C1_11.out.below (b.mono BB_11.out.size)); clear C1_11
  have ws0_12 := Lib.hid (ws0_11.out.below (b.mono BW_11.out.size)); clear ws0_11
  have ws1_12 := Lib.hid (ws1_11.out.below (b.mono BW_11.out.size)); clear ws1_11
  have x0o_12 := Lib.hid (x0o_11.out.past b (Nat.le_refl _)); clear x0o_11
  have x1o_12 := Lib.hid (x1o_11.out.past b (Nat.le_refl _)); clear x1o_11
  have go0_12 := Lib.hid (go0_11.out.past b (Nat.le_refl _)); clear go0_11
  have go1_12 := Lib.hid (go1_11.out.past b (Nat.le_refl _)); clear go1_11
  have BB_12 := Lib.hid (below_step BB_11.out b)
  have BW_12 := Lib.hid (below_step BW_11.out b)
  clear b
  clear y_
  go_wp2_with fail
  refine (markIntS_own n0 _ _ _ _ _ _ (by omega) (by omega) (by omega) x0o_12.out).mono ?_
  rintro e w13 ⟨rfl, t, om⟩
  have lo1 := x0lo.out.mono bx0
  have lo2 := x0lo.out.mono by0
  have C0_13 := Lib.hid (C0_12.out.turn t lo1); clear C0_12
  have C1_13 := Lib.hid (C1_12.out.turn t lo1); clear C1_12
  have ws0_13 := Lib.hid (ws0_12.out.turn t lo2); clear ws0_12
  have ws1_13 := Lib.hid (ws1_12.out.turn t lo2); clear ws1_12
  have x1o_13 := Lib.hid (x1o_12.out.turn t x0h_at1.out); clear x1o_12
  have go0_13 := Lib.hid (go0_12.out.turn t x0h_at.out); clear go0_12
  have go1_13 := Lib.hid (go1_12.out.turn t x0h_at.out); clear go1_12
  have BB_13 := Lib.hid (BB_12.out.trans (t.below lo1))
  have BW_13 := Lib.hid (BW_12.out.trans (t.below lo2))
  clear t om x0o_12
  go_wp2_with fail
  refine (markContractS_own n1 _ _ _ _ _ _ (by omega) (by omega) (by omega) x1o_13.out).mono ?_
  rintro e w14 ⟨rfl, t, om⟩
  have lo1 := x1lo.out.mono bx1
  have lo2 := x1lo.out.mono by1
  have C0_14 := Lib.hid (C0_13.out.turn t lo1); clear C0_13
  have C1_14 := Lib.hid (C1_13.out.turn t lo1); clear C1_13
  have ws0_14 := Lib.hid (ws0_13.out.turn t lo2); clear ws0_13
  have ws1_14 := Lib.hid (ws1_13.out.turn t lo2); clear ws1_13
  have go0_14 := Lib.hid (go0_13.out.turn t x1h_at.out); clear go0_13
  have go1_14 := Lib.hid (go1_13.out.turn t x1h_at.out); clear go1_13
  have BB_14 := Lib.hid (BB_13.out.trans (t.below lo1))
  have BW_14 := Lib.hid (BW_13.out.trans (t.below lo2))
  clear t om x1o_13
  go_wp2_with fail
  refine (eqIntS_same (allS l0 l1) q0 HP0.out _ _ _ _ _ (by omega) (go0_14.out.rd) (ws0_14.out.more BW_14.out.size)).mono ?_
  rintro e w15 ⟨rfl, b⟩
  have C0_15 := Lib.hid (C0_14.out.below (b.mono BB_14.out.size)); clear C0_14
  have C1_15 := Lib.hid (C1_14.out.below (b.mono BB_14.out.size)); clear C1_14
  have ws0_15 := Lib.hid (ws0_14.out.below (b.mono BW_14.out.size)); clear ws0_14
  have ws1_15 := Lib.hid (ws1_14.out.below (b.mono BW_14.out.size)); clear ws1_14
  have go0_15 := Lib.hid (go0_14.out.past b (Nat.le_refl _)); clear go0_14
  have go1_15 := Lib.hid (go1_14.out.past b (Nat.le_refl _)); clear go1_14
  have BB_15 := Lib.hid (below_step BB_14.out b)
  have BW_15 := Lib.hid (below_step BW_14.out b)
  clear b
  go_wp2_with fail
  refine (eqIntS_same (allG l0 l1) q1 HP1.out _ _ _ _ _ (by omega) (go1_15.out.rd) (ws1_15.out.more BW_15.out.size)).mono ?_
  rintro e w16 ⟨rfl, b⟩
  have C0_16 := Lib.hid (C0_15.out.below (b.mono BB_15.out.size)); clear C0_15
  have C1_16 := Lib.hid (C1_15.out.below (b.mono BB_15.out.size)); clear C1_15
  have ws0_16 := Lib.hid (ws0_15.out.below (b.mono BW_15.out.size)); clear ws0_15
  have ws1_16 := Lib.hid (ws1_15.out.below (b.mono BW_15.out.size)); clear ws1_15
  have go0_16 := Lib.hid (go0_15.out.past b (Nat.le_refl _)); clear go0_15
  have go1_16 := Lib.hid (go1_15.out.past b (Nat.le_refl _)); clear go1_15
  have BB_16 := Lib.hid (below_step BB_15.out b)
  have BW_16 := Lib.hid (below_step BW_15.out b)
  clear b
  go_wp2_with fail
  refine (markIntS_own q0 _ _ _ _ _ _ (by omega) (by omega) (by omega) go0_16.out).mono ?_
  rintro e w17 ⟨rfl, t, om⟩
  have lo1 := glo0.out.mono bgx
  have lo2 := glo0.out.mono bgy
  have C0_17 := Lib.hid (C0_16.out.turn t lo1); clear C0_16
  have C1_17 := Lib.hid (C1_16.out.turn t lo1); clear C1_16
  have ws0_17 := Lib.hid (ws0_16.out.turn t lo2); clear ws0_16
  have ws1_17 := Lib.hid (ws1_16.out.turn t lo2); clear ws1_16
  have go1_17 := Lib.hid (go1_16.out.turnNe t ap01.out); clear go1_16
  have BB_17 := Lib.hid (BB_16.out.trans (t.below lo1))
  have BW_17 := Lib.hid (BW_16.out.trans (t.below lo2))
  have go0_17 := Lib.hid om
  clear t om go0_16
  go_wp2_with fail
  refine (markIntS_own q1 _ _ _ _ _ _ (by omega) (by omega) (by omega) go1_17.out).mono ?_
  rintro e w18 ⟨rfl, t, om⟩
  have lo1 := glo1.out.mono bgx
  have lo2 := glo1.out.mono bgy
  have C0_18 := Lib.hid (C0_17.out.turn t lo1); clear C0_17
  have C1_18 := Lib.hid (C1_17.out.turn t lo1); clear C1_17
  have ws0_18 := Lib.hid (ws0_17.out.turn t lo2); clear ws0_17
  have ws1_18 := Lib.hid (ws1_17.out.turn t lo2); clear ws1_17
  have go0_18 := Lib.hid (go0_17.out.turnNe t ap10.out); clear go0_17
  have BB_18 := Lib.hid (BB_17.out.trans (t.below lo1))
  have BW_18 := Lib.hid (BW_17.out.trans (t.below lo2))
  have go1_18 := Lib.hid om
  clear t om go1_17
  go_wp2_with fail
  refine (heldIntS_sl q0 _ _ _ _ (by omega) (by omega) (by omega) go0_18.out.rd).mono ?_
  rintro e w19 ⟨rfl, b⟩
  have C0_19 := Lib.hid (C0_18.out.below (b.mono BB_18.out.size)); clear C0_18
  have C1_19 := Lib.hid (C1_18.out.below (b.mono BB_18.out.size)); clear C1_18
  have ws0_19 := Lib.hid (ws0_18.out.below (b.mono BW_18.out.size)); clear ws0_18
  have ws1_19 := Lib.hid (ws1_18.out.below (b.mono BW_18.out.size)); clear ws1_18
  have go0_19 := Lib.hid (go0_18.out.past b (Nat.le_refl _)); clear go0_18
  have go1_19 := Lib.hid (go1_18.out.past b (Nat.le_refl _)); clear go1_18
  have BB_19 := Lib.hid (below_step BB_18.out b)
  have BW_19 := Lib.hid (below_step BW_18.out b)
  clear b
  go_wp2_with fail
  refine (heldIntS_sl q1 _ _ _ _ (by omega) (by omega) (by omega) go1_19.out.rd).mono ?_
  rintro e w20 ⟨rfl, b⟩
  have C0_20 := Lib.hid (C0_19.out.below (b.mono BB_19.out.size)); clear C0_19
  have C1_20 := Lib.hid (C1_19.out.below (b.mono BB_19.out.size)); clear C1_19
  have ws0_20 := Lib.hid (ws0_19.out.below (b.mono BW_19.out.size)); clear ws0_19
  have ws1_20 := Lib.hid (ws1_19.out.below (b.mono BW_19.out.size)); clear ws1_19
  have go0_20 := Lib.hid (go0_19.out.past b (Nat.le_refl _)); clear go0_19
  have go1_20 := Lib.hid (go1_19.out.past b (Nat.le_refl _)); clear go1_19
  have BB_20 := Lib.hid (below_step BB_19.out b)
  have BW_20 := Lib.hid (below_step BW_19.out b)
  clear b
  go_wp2_with fail
  refine (toIntS_sl l0 n0 HN0.out _ _ _ hq0 (C0_20.out.more BB_20.out.size)).mono ?_
  rintro e w21 ⟨h0A, h0c, rfl, s, o, b⟩
  have h0p := o.cap
  have C0_21 := Lib.hid (C0_20.out.below (b.mono BB_20.out.size)); clear C0_20
  have C1_21 := Lib.hid (C1_20.out.below (b.mono BB_20.out.size)); clear C1_20
  have ws0_21 := Lib.hid (ws0_20.out.below (b.mono BW_20.out.size)); clear ws0_20
  have ws1_21 := Lib.hid (ws1_20.out.below (b.mono BW_20.out.size)); clear ws1_20
  have go0_21 := Lib.hid (go0_20.out.past b (Nat.le_refl _)); clear go0_20
  have go1_21 := Lib.hid (go1_20.out.past b (Nat.le_refl _)); clear go1_20
  have BB_21 := Lib.hid (below_step BB_20.out b)
  have BW_21 := Lib.hid (below_step BW_20.out b)
  have h0o_21 := Lib.hid o
  clear s o b
  go_wp2_with fail
  refine (toContractS_sl l1 n1 HN1.out _ _ _ hq1 (C1_21.out.more BB_21.out.size)).mono ?_
  rintro e w22 ⟨h1A, h1c, rfl, s, o, b⟩
  have h1p := o.cap
  have C0_22 := Lib.hid (C0_21.out.below (b.mono BB_21.out.size)); clear C0_21
  have C1_22 := Lib.hid (C1_21.out.below (b.mono BB_21.out.size)); clear C1_21
  have ws0_22 := Lib.hid (ws0_21.out.below (b.mono BW_21.out.size)); clear ws0_21
  have ws1_22 := Lib.hid (ws1_21.out.below (b.mono BW_21.out.size)); clear ws1_21
  have go0_22 := Lib.hid (go0_21.out.past b (Nat.le_refl _)); clear go0_21
  have go1_22 := Lib.hid (go1_21.out.past b (Nat.le_refl _)); clear go1_21
  have h0o_22 := Lib.hid (h0o_21.out.past b (Nat.le_refl _)); clear h0o_21
  have BB_22 := Lib.hid (below_step BB_21.out b)
  have BW_22 := Lib.hid (below_step BW_21.out b)
  have h1o_22 := Lib.hid o
  clear s o b
  go_wp2_with fail
  refine (impl_ServeAll_any l0 l1 n0 n1 HN0.out HN1.out _ _ _ _ _ hq0 hq1 (h0o_22.out.rd) (h1o_22.out.rd)).mono ?_
  rintro e w23 ⟨v0, v1, rfl, o0, o1, ap, b⟩
  obtain ⟨hA0, hc0, rfl, _, _, _⟩ := o0.slice
  rw [HP0.out] at o0 ⊢
  obtain ⟨hA1, hc1, rfl, _, _, _⟩ := o1.slice
  rw [HP1.out] at o1 ⊢
  rw [HP0.out, HP1.out] at ap
  have C0_23 := Lib.hid (C0_22.out.below (b.mono BB_22.out.size)); clear C0_22
  have C1_23 := Lib.hid (C1_22.out.below (b.mono BB_22.out.size)); clear C1_22
  have ws0_23 := Lib.hid (ws0_22.out.below (b.mono BW_22.out.size)); clear ws0_22
  have ws1_23 := Lib.hid (ws1_22.out.below (b.mono BW_22.out.size)); clear ws1_22
  have go0_23 := Lib.hid (go0_22.out.past b (Nat.le_refl _)); clear go0_22
  have go1_23 := Lib.hid (go1_22.out.past b (Nat.le_refl _)); clear go1_22
  have h0o_23 := Lib.hid (h0o_22.out.past b (Nat.le_refl _)); clear h0o_22
  have h1o_23 := Lib.hid (h1o_22.out.past b (Nat.le_refl _)); clear h1o_22
  have BB_23 := Lib.hid (below_step BB_22.out b)
  have BW_23 := Lib.hid (below_step BW_22.out b)
  have ho0_23 := Lib.hid o0
  have ho1_23 := Lib.hid o1
  clear b ap o0 o1
  clear h0o_23
  clear h1o_23
  go_wp2_with fail
  refine (eqIntS_same (allS l0 l1) q0 HP0.out _ _ _ _ _ (by omega) (ho0_23.out.rd) (ws0_23.out.more BW_23.out.size)).mono ?_
  rintro e w24 ⟨rfl, b⟩
  have C0_24 := Lib.hid (C0_23.out.below (b.mono BB_23.out.size)); clear C0_23
  have C1_24 := Lib.hid (C1_23.out.below (b.mono BB_23.out.size)); clear C1_23
  have ws0_24 := Lib.hid (ws0_23.out.below (b.mono BW_23.out.size)); clear ws0_23
  have ws1_24 := Lib.hid (ws1_23.out.below (b.mono BW_23.out.size)); clear ws1_23
  have go0_24 := Lib.hid (go0_23.out.past b (Nat.le_refl _)); clear go0_23
  have go1_24 := Lib.hid (go1_23.out.past b (Nat.le_refl _)); clear go1_23
  have ho0_24 := Lib.hid (ho0_23.out.past b (Nat.le_refl _)); clear ho0_23
  have ho1_24 := Lib.hid (ho1_23.out.past b (Nat.le_refl _)); clear ho1_23
  have BB_24 := Lib.hid (below_step BB_23.out b)
  have BW_24 := Lib.hid (below_step BW_23.out b)
  clear b
  go_wp2_with fail
  refine (eqIntS_same (allG l0 l1) q1 HP1.out _ _ _ _ _ (by omega) (ho1_24.out.rd) (ws1_24.out.more BW_24.out.size)).mono ?_
  rintro e w25 ⟨rfl, b⟩
  have C0_25 := Lib.hid (C0_24.out.below (b.mono BB_24.out.size)); clear C0_24
  have C1_25 := Lib.hid (C1_24.out.below (b.mono BB_24.out.size)); clear C1_24
  have ws0_25 := Lib.hid (ws0_24.out.below (b.mono BW_24.out.size)); clear ws0_24
  have ws1_25 := Lib.hid (ws1_24.out.below (b.mono BW_24.out.size)); clear ws1_24
  have go0_25 := Lib.hid (go0_24.out.past b (Nat.le_refl _)); clear go0_24
  have go1_25 := Lib.hid (go1_24.out.past b (Nat.le_refl _)); clear go1_24
  have ho0_25 := Lib.hid (ho0_24.out.past b (Nat.le_refl _)); clear ho0_24
  have ho1_25 := Lib.hid (ho1_24.out.past b (Nat.le_refl _)); clear ho1_24
  have BB_25 := Lib.hid (below_step BB_24.out b)
  have BW_25 := Lib.hid (below_step BW_24.out b)
  clear b
  go_wp2_with fail
  refine (heldIntS_sl q0 _ _ _ _ (by omega) (by omega) (by omega) go0_25.out.rd).mono ?_
  rintro e w26 ⟨rfl, b⟩
  have C0_26 := Lib.hid (C0_25.out.below (b.mono BB_25.out.size)); clear C0_25
  have C1_26 := Lib.hid (C1_25.out.below (b.mono BB_25.out.size)); clear C1_25
  have ws0_26 := Lib.hid (ws0_25.out.below (b.mono BW_25.out.size)); clear ws0_25
  have ws1_26 := Lib.hid (ws1_25.out.below (b.mono BW_25.out.size)); clear ws1_25
  have go0_26 := Lib.hid (go0_25.out.past b (Nat.le_refl _)); clear go0_25
  have go1_26 := Lib.hid (go1_25.out.past b (Nat.le_refl _)); clear go1_25
  have ho0_26 := Lib.hid (ho0_25.out.past b (Nat.le_refl _)); clear ho0_25
  have ho1_26 := Lib.hid (ho1_25.out.past b (Nat.le_refl _)); clear ho1_25
  have BB_26 := Lib.hid (below_step BB_25.out b)
  have BW_26 := Lib.hid (below_step BW_25.out b)
  clear b
  go_wp2_with fail
  refine (heldIntS_sl q1 _ _ _ _ (by omega) (by omega) (by omega) go1_26.out.rd).mono ?_
  rintro e w27 ⟨rfl, b⟩
  have C0_27 := Lib.hid (C0_26.out.below (b.mono BB_26.out.size)); clear C0_26
  have C1_27 := Lib.hid (C1_26.out.below (b.mono BB_26.out.size)); clear C1_26
  have ws0_27 := Lib.hid (ws0_26.out.below (b.mono BW_26.out.size)); clear ws0_26
  have ws1_27 := Lib.hid (ws1_26.out.below (b.mono BW_26.out.size)); clear ws1_26
  have go0_27 := Lib.hid (go0_26.out.past b (Nat.le_refl _)); clear go0_26
  have go1_27 := Lib.hid (go1_26.out.past b (Nat.le_refl _)); clear go1_26
  have ho0_27 := Lib.hid (ho0_26.out.past b (Nat.le_refl _)); clear ho0_26
  have ho1_27 := Lib.hid (ho1_26.out.past b (Nat.le_refl _)); clear ho1_26
  have BB_27 := Lib.hid (below_step BB_26.out b)
  have BW_27 := Lib.hid (below_step BW_26.out b)
  clear b
  go_wp2
  go_ret
  exact ⟨rfl, BB_27.out⟩
set_option maxRecDepth 100000 in
theorem FnExactServeAll_lifted (os : Os) (started : os.Started) (H : Type) (enc : TypeId × Value → H) :
    ReturnsInHanded {} Try.checked os 12 .any (Rows.fnExactServeAllSpec.pre6 enc Try.prog Try.f12 Rows.fnExactServeAllRow.domain false) (Rows.fnExactServeAllSpec.post enc Try.prog Try.f12 false true false false) := by
  refine returnsInHanded_of_change (C := Try.checked) own_ started (by kernel_rfl) Try.func12
    (ChangeSpec.witness6 (enc := enc) (C := Try.checked) false ⟨#[], #[.slice none 0 0, .slice none 0 0], []⟩ 8 (by kernel_rfl) (by kernel_rfl) (by kernel_rfl) (by kernel_rfl)) ?_
  intro W base args ds gs before hval0 hW hcnd _
  have hval : ∀ (j : Nat) t v, Try.f12.params[j]? = some t → args[j]? = some v → Value.okWide Try.prog W .any base t v := hval0
  clear hval0 hcnd
  refine law_contract laid_ (tb := 4) rfl rfl Try.underlying4 (fun ds hd => ?_) (by show Readable Try.prog [35, 28]; repeat (first | exact trivial | refine ⟨⟨by kernel_rfl, of_decide_eq_true (by kernel_rfl)⟩, ?_⟩)) hW ?_
  · match ds, hd with
    | [d0, d1], _ => rfl
  obtain ⟨p, q, hA0, hV, rfl, hfz, hnd⟩ := hW
  have hA : DataW.TrodAll enc Try.prog W 0 (fun _ => true) true Try.f12.params.toList args.toList ds p := hA0
  clear hA0
  rw [Try.params12] at hA hval
  obtain ⟨v0, vs0, d0, ds0, p0, q0, hargs, rfl, rfl, h0, r0⟩ := trodAll_cons hA
  obtain ⟨v1, vs1, d1, ds1, p1, q1, rfl, rfl, rfl, h1, r1⟩ := trodAll_cons r0
  obtain ⟨rfl, rfl, rfl⟩ := trodAll_nil r1
  obtain rfl : args = #[v0, v1] := by cases args; simp_all
  obtain ⟨A0, m0, cc0, ll0, rfl, hn0, hm0, hsl0, _⟩ := open_is Try.underlying35 Try.underlying3 (by kernel_rfl) (hval 0 _ v0 rfl rfl) h0
  obtain ⟨A1, m1, cc1, ll1, rfl, hn1, hm1, hsl1, _⟩ := open_sl encContract mkContract mkContract_f Try.underlying28 Try.underlying23 (by kernel_rfl) (by kernel_rfl) rfl (by decide) (fun j f hj => by
    match j, hj with
    | 0, hj | 1, hj | 2, hj | 3, hj | 4, hj | 5, hj | 6, hj => simp at hj; subst hj; exact Try.underlying3) (hval 1 _ v1 rfl rfl) h1
  exact FnExactServeAll_walk ll0 m0 hn0 A0 cc0 ll1 m1 hn1 A1 cc1 W (by unfold maxLen at hm0; exact hm0) hsl0 (by unfold maxLen at hm1; exact hm1) hsl1
theorem FnExactServeAll_holds : Rows.FnExactServeAllSaid :=
  OpenClaim.holds_of_wide 12 Try.f12 rfl rfl rfl rfl rfl rfl rfl ⟨rfl, rfl, rfl, rfl, rfl⟩ rfl rfl rfl rfl rfl (by kernel_rfl) Try.func12 (by kernel_rfl)
    (of_decide_eq_true (by kernel_rfl)) (by unfold Func.isWrapper; rw [if_neg (of_decide_eq_false (by kernel_rfl))]; exact ⟨rfl, rfl⟩)
    (fun os started H enc _ => FnExactServeAll_lifted os started H enc)
end Go.Proofs.Ytcljfdpjlkaagaa
