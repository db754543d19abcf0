/- The law FnExactLevelsCount: the program's answer is the reference's, shares no memory and leaves its arguments alone. No condition. -/
import Derived.Test.YtbedepmcecdhfaaLevB
import Derived.Test.YtbedepmcecdhfaaFrame
import Derived.Test.YtbedepmcecdhfaaTurn
namespace Go.Proofs.Ytbedepmcecdhfaa
open Go.ChangeShapes Go.WideShapes Go.ChangeAt Go.RowKit
set_option maxRecDepth 4000 in
set_option maxHeartbeats 8000000 in
theorem FnExactLevelsCount_walk (l0 : List Gauge) (n0 : Nat) (hn0 : l0.length = n0) (A0 : Option Addr) (cap0 : Nat) (sm : Int) (hsm : sm ≤ 9223372036854775807) (w : World) (hm0 : n0 ≤ 9223372036854775807) (hc0 : Sl encGauge w w.heap.size A0 l0) :
    Calls Try.prog 5 #[.slice A0 n0 cap0, .int .i64 sm] w fun e w' => e = .returned (.bool true) ∧ Below w.heap.size w w' := by
  have C0_0 := Lib.hid hc0; clear hc0
  have HN0 := Lib.hid hn0; clear hn0
  by_cases hl0 : n0 ≤ 1048576
  rotate_left
  · have hl' : 1048576 < n0 := by omega
    go_enter Try.func5, Try.ntmps5
    go_wp2_with fail
    refine (szGaugeS_over _ _ _ _ _ (by omega) (by omega) hm0).mono ?_; rintro e w' ⟨rfl, rfl⟩
    go_wp2
    go_ret
    exact ⟨rfl, (by repeat (first | assumption | exact Below.refl _ _ | apply bl_gw | apply bl_alloc | apply bl_drewN | apply bl_drew))⟩
  have hq0 : n0 ≤ 1048576 := by omega
  go_enter Try.func5, Try.ntmps5
  go_wp2_with fail
  refine (szGaugeS_fit _ _ _ _ _ (by omega) (by omega)).mono ?_; rintro e w' ⟨rfl, rfl⟩
  have BB_0 := Lib.hid (Below.refl w.heap.size w)
  go_wp2_with fail
  refine (toGaugeS_sl l0 n0 HN0.out _ _ _ hq0 (C0_0.out.more BB_0.out.size)).mono ?_
  rintro e w1 ⟨a0A, a0c, rfl, s, o, b⟩
  have a0p := o.cap
  have C0_1 := Lib.hid (C0_0.out.below (b.mono BB_0.out.size)); clear C0_0
  have BB_1 := Lib.hid (below_step BB_0.out b)
  have a0o_1 := Lib.hid o
  clear s o b
  go_wp2_with fail
  refine (spec_LevelsCount_any l0 n0 HN0.out _ _ sm _ a0p hq0 hsm (a0o_1.out.rd)).mono ?_
  rintro e w2 ⟨rfl, b⟩
  have BW_2 := Lib.hid (Below.refl w2.heap.size w2)
  have C0_2 := Lib.hid (C0_1.out.below (b.mono BB_1.out.size)); clear C0_1
  have a0o_2 := Lib.hid (a0o_1.out.past b (Nat.le_refl _)); clear a0o_1
  have BB_2 := Lib.hid (below_step BB_1.out b)
  clear b 
  clear a0o_2
  go_wp2_with fail
  refine (toGaugeS_sl l0 n0 HN0.out _ _ _ hq0 (C0_2.out.more BB_2.out.size)).mono ?_
  have bx0 := BB_2.out.size
  have by0 := BW_2.out.size
  rintro e w3 ⟨x0A, x0c, rfl, s, o, b⟩
  have x0p := o.cap
  have x0lo := Lib.hid o.lo
  have C0_3 := Lib.hid (C0_2.out.below (b.mono BB_2.out.size)); clear C0_2
  have BB_3 := Lib.hid (below_step BB_2.out b)
  have BW_3 := Lib.hid (below_step BW_2.out b)
  have x0h_3 := Lib.hid o.hi
  have x0o_3 := Lib.hid o
  clear s o b
  have bgx := BB_3.out.size
  have bgy := BW_3.out.size
  go_wp2_with fail
  refine (impl_LevelsCount_any l0 n0 HN0.out _ _ sm _ x0p hq0 hsm (x0o_3.out.rd)).mono ?_
  rintro e w4 ⟨rfl, b⟩
  have x0h_at := x0h_3
  have C0_4 := Lib.hid (C0_3.out.below (b.mono BB_3.out.size)); clear C0_3
  have x0o_4 := Lib.hid (x0o_3.out.past b (Nat.le_refl _)); clear x0o_3
  have x0h_4 := Lib.hid (x0h_3.out.mono b.size); clear x0h_3
  have BB_4 := Lib.hid (below_step BB_3.out b)
  have BW_4 := Lib.hid (below_step BW_3.out b)
  clear b 
  go_wp2_with fail
  refine (toGaugeS_sl l0 n0 HN0.out _ _ _ hq0 (C0_4.out.more BB_4.out.size)).mono ?_
  rintro e w5 ⟨yA, yc, rfl, s, o, b⟩
  have C0_5 := Lib.hid (C0_4.out.below (b.mono BB_4.out.size)); clear C0_4
  have x0o_5 := Lib.hid (x0o_4.out.past b (Nat.le_refl _)); clear x0o_4
  have BB_5 := Lib.hid (below_step BB_4.out b)
  have BW_5 := Lib.hid (below_step BW_4.out b)
  have y_ := Lib.hid s
  clear s o b
  go_wp2_with fail
  refine (eqGaugeS_same l0 n0 HN0.out _ _ _ _ _ (by omega) (x0o_5.out.rd) (y_.out)).mono ?_
  rintro e w6 ⟨rfl, b⟩
  have C0_6 := Lib.hid (C0_5.out.below (b.mono BB_5.out.size)); clear C0_5
  have x0o_6 := Lib.hid (x0o_5.out.past b (Nat.le_refl _)); clear x0o_5
  have BB_6 := Lib.hid (below_step BB_5.out b)
  have BW_6 := Lib.hid (below_step BW_5.out b)
  clear b
  clear y_
  go_wp2
  go_ret
  exact ⟨rfl, BB_6.out⟩
set_option maxRecDepth 100000 in
theorem FnExactLevelsCount_lifted (os : Os) (started : os.Started) (H : Type) (enc : TypeId × Value → H) :
    ReturnsInHanded {} Try.checked os 5 .any (Rows.fnExactLevelsCountSpec.pre6 enc Try.prog Try.f5 Rows.fnExactLevelsCountRow.domain false) (Rows.fnExactLevelsCountSpec.post enc Try.prog Try.f5 false true false false) := by
  refine returnsInHanded_of_change (C := Try.checked) own_ started (by kernel_rfl) Try.func5
    (ChangeSpec.witness6 (enc := enc) (C := Try.checked) false ⟨#[], #[.slice none 0 0, .int .i64 0], []⟩ 8 (by kernel_rfl) (by kernel_rfl) (by kernel_rfl) (by kernel_rfl)) ?_
  intro W base args ds gs before hval0 hW hcnd _
  have hval : ∀ (j : Nat) t v, Try.f5.params[j]? = some t → args[j]? = some v → Value.okWide Try.prog W .any base t v := hval0
  clear hval0 hcnd
  refine law_contract laid_ (tb := 4) rfl rfl Try.underlying4 (fun ds hd => ?_) (by show Readable Try.prog [38, 3]; repeat (first | exact trivial | refine ⟨⟨by kernel_rfl, of_decide_eq_true (by kernel_rfl)⟩, ?_⟩)) hW ?_
  · match ds, hd with
    | [d0, d1], _ => rfl
  obtain ⟨p, q, hA0, hV, rfl, hfz, hnd⟩ := hW
  have hA : DataW.TrodAll enc Try.prog W 0 (fun _ => true) true Try.f5.params.toList args.toList ds p := hA0
  clear hA0
  rw [Try.params5] at hA hval
  obtain ⟨v0, vs0, d0, ds0, p0, q0, hargs, rfl, rfl, h0, r0⟩ := trodAll_cons hA
  obtain ⟨v1, vs1, d1, ds1, p1, q1, rfl, rfl, rfl, h1, r1⟩ := trodAll_cons r0
  obtain ⟨rfl, rfl, rfl⟩ := trodAll_nil r1
  obtain rfl : args = #[v0, v1] := by cases args; simp_all
  obtain ⟨A0, m0, cc0, ll0, rfl, hn0, hm0, hsl0, _⟩ := open_sl encGauge mkGauge mkGauge_f Try.underlying38 Try.underlying101 (by kernel_rfl) (by kernel_rfl) rfl (by decide) (fun j f hj => by
    match j, hj with
    | 0, hj | 1, hj => simp at hj; subst hj; exact Try.underlying3) (hval 0 _ v0 rfl rfl) h0
  obtain ⟨z1, rfl, rfl, rfl, wz1⟩ := open_int Try.underlying3 (hval 1 _ v1 rfl rfl) h1
  exact FnExactLevelsCount_walk ll0 m0 hn0 A0 cc0 z1 (by have h9 := wz1; unfold I64 at h9; simp [Lit.wf, IntKind.min, IntKind.max, IntKind.signed, IntKind.bits] at h9; omega) W (by unfold maxLen at hm0; exact hm0) hsl0
theorem FnExactLevelsCount_holds : Rows.FnExactLevelsCountSaid :=
  OpenClaim.holds_of_wide 5 Try.f5 rfl rfl rfl rfl rfl rfl rfl ⟨rfl, rfl, rfl, rfl, rfl⟩ rfl rfl rfl rfl rfl (by kernel_rfl) Try.func5 (by kernel_rfl)
    (of_decide_eq_true (by kernel_rfl)) (by unfold Func.isWrapper; rw [if_neg (of_decide_eq_false (by kernel_rfl))]; exact ⟨rfl, rfl⟩)
    (fun os started H enc _ => FnExactLevelsCount_lifted os started H enc)
end Go.Proofs.Ytbedepmcecdhfaa
