/- The law FnExactAfterOrder: the program's answer is the reference's, shares no memory and leaves its arguments alone. No condition. -/
import Derived.Test.YtcajgadgdjopdaaAftI
import Derived.Test.YtcajgadgdjopdaaAftS
import Derived.Test.YtcajgadgdjopdaaBitternZ
import Derived.Test.YtcajgadgdjopdaaBitternM
import Derived.Test.YtcajgadgdjopdaaFrame
import Derived.Test.YtcajgadgdjopdaaTurn
namespace Go.Proofs.Ytcajgadgdjopdaa
open Go.ChangeShapes Go.WideShapes Go.ChangeAt Go.RowKit
set_option maxRecDepth 4000 in
set_option maxHeartbeats 8000000 in
theorem FnExactAfterOrder_walk (l0 : List Bittern) (n0 : Nat) (hn0 : l0.length = n0) (A0 : Option Addr) (cap0 : Nat) (kg : Int) (bt : Int) (w : World) (hm0 : n0 ≤ 9223372036854775807) (hc0 : Sl encBittern w w.heap.size A0 l0) :
    Calls Try.prog 4 #[.slice A0 n0 cap0, .int .i64 kg, .int .i64 bt] w fun e w' => e = .returned (.bool true) ∧ Below w.heap.size w w' := by
  have C0_0 := Lib.hid hc0; clear hc0
  have HN0 := Lib.hid hn0; clear hn0
  by_cases hl0 : n0 ≤ 1048576
  rotate_left
  · have hl' : 1048576 < n0 := by omega
    go_enter Try.func4, Try.ntmps4
    go_wp2_with fail
    refine (szBitternS_over _ _ _ _ _ (by omega) (by omega) hm0).mono ?_; rintro e w' ⟨rfl, rfl⟩
    go_wp2
    go_ret
    exact ⟨rfl, (by repeat (first | assumption | exact Below.refl _ _ | apply bl_gw | apply bl_alloc | apply bl_drewN | apply bl_drew))⟩
  have hq0 : n0 ≤ 1048576 := by omega
  go_enter Try.func4, Try.ntmps4
  go_wp2_with fail
  refine (szBitternS_fit _ _ _ _ _ (by omega) (by omega)).mono ?_; rintro e w' ⟨rfl, rfl⟩
  have BB_0 := Lib.hid (Below.refl w.heap.size w)
  obtain ⟨q0, hP0⟩ : ∃ q, (afterP l0 kg bt).length = q := ⟨_, rfl⟩
  have hQ0 : q0 ≤ 1000000 := by rw [← hP0]; exact (by have h2 := afterP_8 l0 kg bt; omega)
  have HP0 := Lib.hid hP0; clear hP0
  go_wp2_with fail
  refine (toBitternS_sl l0 n0 HN0.out _ _ _ hq0 (C0_0.out.more BB_0.out.size)).mono ?_
  rintro e w1 ⟨a0A, a0c, rfl, s, o, b⟩
  have a0p := o.cap
  have C0_1 := Lib.hid (C0_0.out.below (b.mono BB_0.out.size)); clear C0_0
  have BB_1 := Lib.hid (below_step BB_0.out b)
  have a0o_1 := Lib.hid o
  clear s o b
  go_wp2_with fail
  refine (spec_AfterOrder_any l0 n0 HN0.out _ _ kg bt _ hq0 (a0o_1.out.rd)).mono ?_
  rintro e w2 ⟨v0, rfl, o0, b⟩
  obtain ⟨wA0, wc0, rfl, _, _, _⟩ := o0.slice
  rw [HP0.out] at o0 ⊢
  have BW_2 := Lib.hid (Below.refl w2.heap.size w2)
  have C0_2 := Lib.hid (C0_1.out.below (b.mono BB_1.out.size)); clear C0_1
  have a0o_2 := Lib.hid (a0o_1.out.past b (Nat.le_refl _)); clear a0o_1
  have BB_2 := Lib.hid (below_step BB_1.out b)
  have ws0_2 := Lib.hid o0.rd
  clear b o0
  clear a0o_2
  go_wp2_with fail
  refine (toBitternS_sl l0 n0 HN0.out _ _ _ hq0 (C0_2.out.more BB_2.out.size)).mono ?_
  have bx0 := BB_2.out.size
  have by0 := BW_2.out.size
  rintro e w3 ⟨x0A, x0c, rfl, s, o, b⟩
  have x0p := o.cap
  have x0lo := Lib.hid o.lo
  have C0_3 := Lib.hid (C0_2.out.below (b.mono BB_2.out.size)); clear C0_2
  have ws0_3 := Lib.hid (ws0_2.out.below (b.mono BW_2.out.size)); clear ws0_2
  have BB_3 := Lib.hid (below_step BB_2.out b)
  have BW_3 := Lib.hid (below_step BW_2.out b)
  have x0h_3 := Lib.hid o.hi
  have x0o_3 := Lib.hid o
  clear s o b
  have bgx := BB_3.out.size
  have bgy := BW_3.out.size
  go_wp2_with fail
  refine (impl_AfterOrder_any l0 n0 HN0.out _ _ kg bt _ hq0 (x0o_3.out.rd)).mono ?_
  rintro e w4 ⟨v0, rfl, o0, b⟩
  obtain ⟨gA0, gc0, rfl, _, _, _⟩ := o0.slice
  rw [HP0.out] at o0 ⊢
  have x0h_at := x0h_3
  have C0_4 := Lib.hid (C0_3.out.below (b.mono BB_3.out.size)); clear C0_3
  have ws0_4 := Lib.hid (ws0_3.out.below (b.mono BW_3.out.size)); clear ws0_3
  have x0o_4 := Lib.hid (x0o_3.out.past b (Nat.le_refl _)); clear x0o_3
  have x0h_4 := Lib.hid (x0h_3.out.mono b.size); clear x0h_3
  have BB_4 := Lib.hid (below_step BB_3.out b)
  have BW_4 := Lib.hid (below_step BW_3.out b)
  have go0_4 := Lib.hid o0
  have glo0 := Lib.hid o0.lo
  have gh0_4 := Lib.hid o0.hi
  clear b o0
  go_wp2_with fail
  refine (eqBitternS_same (afterP l0 kg bt) q0 HP0.out _ _ _ _ _ (by omega) (go0_4.out.rd) (ws0_4.out.more BW_4.out.size)).mono ?_
  rintro e w5 ⟨rfl, b⟩
  have C0_5 := Lib.hid (C0_4.out.below (b.mono BB_4.out.size)); clear C0_4
  have ws0_5 := Lib.hid (ws0_4.out.below (b.mono BW_4.out.size)); clear ws0_4
  have x0o_5 := Lib.hid (x0o_4.out.past b (Nat.le_refl _)); clear x0o_4
  have go0_5 := Lib.hid (go0_4.out.past b (Nat.le_refl _)); clear go0_4
  have BB_5 := Lib.hid (below_step BB_4.out b)
  have BW_5 := Lib.hid (below_step BW_4.out b)
  clear b
  go_wp2_with fail
  refine (toBitternS_sl l0 n0 HN0.out _ _ _ hq0 (C0_5.out.more BB_5.out.size)).mono ?_
  rintro e w6 ⟨yA, yc, rfl, s, o, b⟩
  have C0_6 := Lib.hid (C0_5.out.below (b.mono BB_5.out.size)); clear C0_5
  have ws0_6 := Lib.hid (ws0_5.out.below (b.mono BW_5.out.size)); clear ws0_5
  have x0o_6 := Lib.hid (x0o_5.out.past b (Nat.le_refl _)); clear x0o_5
  have go0_6 := Lib.hid (go0_5.out.past b (Nat.le_refl _)); clear go0_5
  have BB_6 := Lib.hid (below_step BB_5.out b)
  have BW_6 := Lib.hid (below_step BW_5.out b)
  have y_ := Lib.hid s
  clear s o b
  go_wp2_with fail
  refine (eqBitternS_same l0 n0 HN0.out _ _ _ _ _ (by omega) (x0o_6.out.rd) (y_.out)).mono ?_
  rintro e w7 ⟨rfl, b⟩
  have C0_7 := Lib.hid (C0_6.out.below (b.mono BB_6.out.size)); clear C0_6
  have ws0_7 := Lib.hid (ws0_6.out.below (b.mono BW_6.out.size)); clear ws0_6
  have x0o_7 := Lib.hid (x0o_6.out.past b (Nat.le_refl _)); clear x0o_6
  have go0_7 := Lib.hid (go0_6.out.past b (Nat.le_refl _)); clear go0_6
  have BB_7 := Lib.hid (below_step BB_6.out b)
  have BW_7 := Lib.hid (below_step BW_6.out b)
  clear b
  clear y_
  go_wp2_with fail
  refine (markBitternS_own n0 _ _ _ _ _ _ (by omega) (by omega) (by omega) x0o_7.out).mono ?_
  rintro e w8 ⟨rfl, t, om⟩
  have lo1 := x0lo.out.mono bx0
  have lo2 := x0lo.out.mono by0
  have C0_8 := Lib.hid (C0_7.out.turn t lo1); clear C0_7
  have ws0_8 := Lib.hid (ws0_7.out.turn t lo2); clear ws0_7
  have go0_8 := Lib.hid (go0_7.out.turn t x0h_at.out); clear go0_7
  have BB_8 := Lib.hid (BB_7.out.trans (t.below lo1))
  have BW_8 := Lib.hid (BW_7.out.trans (t.below lo2))
  clear t om x0o_7
  go_wp2_with fail
  refine (eqBitternS_same (afterP l0 kg bt) q0 HP0.out _ _ _ _ _ (by omega) (go0_8.out.rd) (ws0_8.out.more BW_8.out.size)).mono ?_
  rintro e w9 ⟨rfl, b⟩
  have C0_9 := Lib.hid (C0_8.out.below (b.mono BB_8.out.size)); clear C0_8
  have ws0_9 := Lib.hid (ws0_8.out.below (b.mono BW_8.out.size)); clear ws0_8
  have go0_9 := Lib.hid (go0_8.out.past b (Nat.le_refl _)); clear go0_8
  have BB_9 := Lib.hid (below_step BB_8.out b)
  have BW_9 := Lib.hid (below_step BW_8.out b)
  clear b
  go_wp2_with fail
  refine (markBitternS_own q0 _ _ _ _ _ _ (by omega) (by omega) (by omega) go0_9.out).mono ?_
  rintro e w10 ⟨rfl, t, om⟩
  have lo1 := glo0.out.mono bgx
  have lo2 := glo0.out.mono bgy
  have C0_10 := Lib.hid (C0_9.out.turn t lo1); clear C0_9
  have ws0_10 := Lib.hid (ws0_9.out.turn t lo2); clear ws0_9
  have BB_10 := Lib.hid (BB_9.out.trans (t.below lo1))
  have BW_10 := Lib.hid (BW_9.out.trans (t.below lo2))
  have go0_10 := Lib.hid om
  clear t om go0_9
  go_wp2_with fail
  refine (heldBitternS_sl q0 _ _ _ _ (by omega) (by omega) (by omega) go0_10.out.rd).mono ?_
  rintro e w11 ⟨rfl, b⟩
  have C0_11 := Lib.hid (C0_10.out.below (b.mono BB_10.out.size)); clear C0_10
  have ws0_11 := Lib.hid (ws0_10.out.below (b.mono BW_10.out.size)); clear ws0_10
  have go0_11 := Lib.hid (go0_10.out.past b (Nat.le_refl _)); clear go0_10
  have BB_11 := Lib.hid (below_step BB_10.out b)
  have BW_11 := Lib.hid (below_step BW_10.out b)
  clear b
  go_wp2_with fail
  refine (toBitternS_sl l0 n0 HN0.out _ _ _ hq0 (C0_11.out.more BB_11.out.size)).mono ?_
  rintro e w12 ⟨h0A, h0c, rfl, s, o, b⟩
  have h0p := o.cap
  have C0_12 := Lib.hid (C0_11.out.below (b.mono BB_11.out.size)); clear C0_11
  have ws0_12 := Lib.hid (ws0_11.out.below (b.mono BW_11.out.size)); clear ws0_11
  have go0_12 := Lib.hid (go0_11.out.past b (Nat.le_refl _)); clear go0_11
  have BB_12 := Lib.hid (below_step BB_11.out b)
  have BW_12 := Lib.hid (below_step BW_11.out b)
  have h0o_12 := Lib.hid o
  clear s o b
  go_wp2_with fail
  refine (impl_AfterOrder_any l0 n0 HN0.out _ _ kg bt _ hq0 (h0o_12.out.rd)).mono ?_
  rintro e w13 ⟨v0, rfl, o0, b⟩
  obtain ⟨hA0, hc0, rfl, _, _, _⟩ := o0.slice
  rw [HP0.out] at o0 ⊢
  have C0_13 := Lib.hid (C0_12.out.below (b.mono BB_12.out.size)); clear C0_12
  have ws0_13 := Lib.hid (ws0_12.out.below (b.mono BW_12.out.size)); clear ws0_12
  have go0_13 := Lib.hid (go0_12.out.past b (Nat.le_refl _)); clear go0_12
  have h0o_13 := Lib.hid (h0o_12.out.past b (Nat.le_refl _)); clear h0o_12
  have BB_13 := Lib.hid (below_step BB_12.out b)
  have BW_13 := Lib.hid (below_step BW_12.out b)
  have ho0_13 := Lib.hid o0
  clear b o0
  clear h0o_13
  go_wp2_with fail
  refine (eqBitternS_same (afterP l0 kg bt) q0 HP0.out _ _ _ _ _ (by omega) (ho0_13.out.rd) (ws0_13.out.more BW_13.out.size)).mono ?_
  rintro e w14 ⟨rfl, b⟩
  have C0_14 := Lib.hid (C0_13.out.below (b.mono BB_13.out.size)); clear C0_13
  have ws0_14 := Lib.hid (ws0_13.out.below (b.mono BW_13.out.size)); clear ws0_13
  have go0_14 := Lib.hid (go0_13.out.past b (Nat.le_refl _)); clear go0_13
  have ho0_14 := Lib.hid (ho0_13.out.past b (Nat.le_refl _)); clear ho0_13
  have BB_14 := Lib.hid (below_step BB_13.out b)
  have BW_14 := Lib.hid (below_step BW_13.out b)
  clear b
  go_wp2_with fail
  refine (heldBitternS_sl q0 _ _ _ _ (by omega) (by omega) (by omega) go0_14.out.rd).mono ?_
  rintro e w15 ⟨rfl, b⟩
  have C0_15 := Lib.hid (C0_14.out.below (b.mono BB_14.out.size)); clear C0_14
  have ws0_15 := Lib.hid (ws0_14.out.below (b.mono BW_14.out.size)); clear ws0_14
  have go0_15 := Lib.hid (go0_14.out.past b (Nat.le_refl _)); clear go0_14
  have ho0_15 := Lib.hid (ho0_14.out.past b (Nat.le_refl _)); clear ho0_14
  have BB_15 := Lib.hid (below_step BB_14.out b)
  have BW_15 := Lib.hid (below_step BW_14.out b)
  clear b
  go_wp2
  go_ret
  exact ⟨rfl, BB_15.out⟩
set_option maxRecDepth 100000 in
theorem FnExactAfterOrder_lifted (os : Os) (started : os.Started) (H : Type) (enc : TypeId × Value → H) :
    ReturnsInHanded {} Try.checked os 4 .any (Rows.fnExactAfterOrderSpec.pre6 enc Try.prog Try.f4 Rows.fnExactAfterOrderRow.domain false) (Rows.fnExactAfterOrderSpec.post enc Try.prog Try.f4 false true false false) := by
  refine returnsInHanded_of_change (C := Try.checked) own_ started (by kernel_rfl) Try.func4
    (ChangeSpec.witness6 (enc := enc) (C := Try.checked) false ⟨#[], #[.slice none 0 0, .int .i64 0, .int .i64 0], []⟩ 8 (by kernel_rfl) (by kernel_rfl) (by kernel_rfl) (by kernel_rfl)) ?_
  intro W base args ds gs before hval0 hW hcnd _
  have hval : ∀ (j : Nat) t v, Try.f4.params[j]? = some t → args[j]? = some v → Value.okWide Try.prog W .any base t v := hval0
  clear hval0 hcnd
  refine law_contract laid_ (tb := 4) rfl rfl Try.underlying4 (fun ds hd => ?_) (by show Readable Try.prog [41, 3, 3]; repeat (first | exact trivial | refine ⟨⟨by kernel_rfl, of_decide_eq_true (by kernel_rfl)⟩, ?_⟩)) hW ?_
  · match ds, hd with
    | [d0, d1, d2], _ => rfl
  obtain ⟨p, q, hA0, hV, rfl, hfz, hnd⟩ := hW
  have hA : DataW.TrodAll enc Try.prog W 0 (fun _ => true) true Try.f4.params.toList args.toList ds p := hA0
  clear hA0
  rw [Try.params4] at hA hval
  obtain ⟨v0, vs0, d0, ds0, p0, q0, hargs, rfl, rfl, h0, r0⟩ := trodAll_cons hA
  obtain ⟨v1, vs1, d1, ds1, p1, q1, rfl, rfl, rfl, h1, r1⟩ := trodAll_cons r0
  obtain ⟨v2, vs2, d2, ds2, p2, q2, rfl, rfl, rfl, h2, r2⟩ := trodAll_cons r1
  obtain ⟨rfl, rfl, rfl⟩ := trodAll_nil r2
  obtain rfl : args = #[v0, v1, v2] := by cases args; simp_all
  obtain ⟨A0, m0, cc0, ll0, rfl, hn0, hm0, hsl0, _⟩ := open_sl encBittern mkBittern mkBittern_f Try.underlying41 Try.underlying82 (by kernel_rfl) (by kernel_rfl) rfl (by decide) (fun j f hj => by
    match j, hj with
    | 0, hj | 1, hj | 2, hj => simp at hj; subst hj; exact Try.underlying3) (hval 0 _ v0 rfl rfl) h0
  obtain ⟨z1, rfl, rfl, rfl, wz1⟩ := open_int Try.underlying3 (hval 1 _ v1 rfl rfl) h1
  obtain ⟨z2, rfl, rfl, rfl, wz2⟩ := open_int Try.underlying3 (hval 2 _ v2 rfl rfl) h2
  exact FnExactAfterOrder_walk ll0 m0 hn0 A0 cc0 z1 z2 W (by unfold maxLen at hm0; exact hm0) hsl0
theorem FnExactAfterOrder_holds : Rows.FnExactAfterOrderSaid :=
  OpenClaim.holds_of_wide 4 Try.f4 rfl rfl rfl rfl rfl rfl rfl ⟨rfl, rfl, rfl, rfl, rfl⟩ rfl rfl rfl rfl rfl (by kernel_rfl) Try.func4 (by kernel_rfl)
    (of_decide_eq_true (by kernel_rfl)) (by unfold Func.isWrapper; rw [if_neg (of_decide_eq_false (by kernel_rfl))]; exact ⟨rfl, rfl⟩)
    (fun os started H enc _ => FnExactAfterOrder_lifted os started H enc)
end Go.Proofs.Ytcajgadgdjopdaa
