/- The law FnExactCalmSpan holds for every list of blows. No condition. -/
import Derived.Test.YtopdbacgceoddaaWindM
import Derived.Test.YtopdbacgceoddaaWindFrame
namespace Go.Proofs.Ytopdbacgceoddaa
open Go.ChangeShapes Go.WideShapes Go.ChangeAt Go.RowKit
set_option maxHeartbeats 4000000 in
theorem FnExactCalmSpan_walk (l : List Blow) (m : Nat) (hn : l.length = m) (A : Option Addr) (cap : Nat) (s f t : Int)(w : World) (hm : m ≤ 9223372036854775807) (hc : Sl encBlow w w.heap.size A l) :
    Calls Try.prog 7 #[.slice A m cap, .int .i64 s, .int .i64 f, .int .i64 t] w fun e w' => e = .returned (.bool true) ∧ Below w.heap.size w w' := by
  have HC := Lib.hid hc; clear hc
  have HN := Lib.hid hn; clear hn
  by_cases hl : m ≤ 1048576
  · go_enter Try.func7, Try.ntmps7
    go_wp2_with (go_at_call 21; refine (szBlowS_ok _ _ _ _ hl).mono ?_; rintro e w' ⟨rfl, rfl⟩)
    refine (toBlowS_sl l m HN.out _ _ _ hl HC.out).mono ?_
    rintro e w1 ⟨A1, c1, rfl, s1, _, b1⟩
    have S1 := Lib.hid s1; have B1 := Lib.hid b1; have HC1 := Lib.hid (HC.out.past b1); clear s1 b1
    go_wp2_with fail
    refine (spec_CalmSpan_any l m HN.out _ _ _ _ _ _ hl S1.out).mono ?_
    rintro e w2 ⟨rfl, b2⟩
    have B2 := Lib.hid (below_step B1.out b2); have HC2 := Lib.hid (HC1.out.past b2); clear b2
    go_wp2_with fail
    refine (toBlowS_sl l m HN.out _ _ _ hl HC2.out).mono ?_
    rintro e w3 ⟨A3, c3, rfl, s3, _, b3⟩
    have S3 := Lib.hid s3; have B3 := Lib.hid (below_step B2.out b3); have HC3 := Lib.hid (HC2.out.past b3); clear s3 b3
    go_wp2_with fail
    refine (impl_CalmSpan_any l m HN.out _ _ _ _ _ _ hl S3.out).mono ?_
    rintro e w4 ⟨rfl, b4⟩
    have B4 := Lib.hid (below_step B3.out b4); have S4 := Lib.hid (S3.out.past b4); have HC4 := Lib.hid (HC3.out.past b4); clear b4
    go_wp2_with fail
    refine (toBlowS_sl l m HN.out _ _ _ hl HC4.out).mono ?_
    rintro e w5 ⟨A5, c5, rfl, s5, _, b5⟩
    have S5 := Lib.hid s5; have B5 := Lib.hid (below_step B4.out b5); have T5 := Lib.hid (S4.out.past b5); clear s5 b5
    go_wp2_with fail
    refine (eqBlowS_same l m HN.out _ _ _ _ _ hl T5.out S5.out).mono ?_
    rintro e w6 ⟨rfl, b6⟩
    have B6 := Lib.hid (below_step B5.out b6); clear b6
    go_wp2_with fail
    go_ret
    exact ⟨rfl, B6.out⟩
  · have hl' : 1048576 < m := by omega
    go_enter Try.func7, Try.ntmps7
    go_wp2_with (go_at_call 21; refine (szBlowS_big _ _ _ _ hl' hm).mono ?_; rintro e w' ⟨rfl, rfl⟩)
    go_ret
    exact ⟨rfl, (by repeat (first | assumption | exact Below.refl _ _ | apply bl_gw | apply bl_alloc | apply bl_drewN | apply bl_drew))⟩
set_option maxRecDepth 100000 in
theorem FnExactCalmSpan_lifted (os : Os) (started : os.Started) (H : Type) (enc : TypeId × Value → H) :
    ReturnsInHanded {} Try.checked os 7 .any (Rows.fnExactCalmSpanSpec.pre6 enc Try.prog Try.f7 Rows.fnExactCalmSpanRow.domain false) (Rows.fnExactCalmSpanSpec.post enc Try.prog Try.f7 false true false false) := by
  refine returnsInHanded_of_change (C := Try.checked) own_ started (by kernel_rfl) Try.func7
    (ChangeSpec.witness6 (enc := enc) (C := Try.checked) false ⟨#[], #[.slice none 0 0, .int .i64 0, .int .i64 0, .int .i64 0], []⟩ 8 (by kernel_rfl) (by kernel_rfl) (by kernel_rfl) (by kernel_rfl)) ?_
  intro W base args ds gs before hval0 hW hcnd _
  have hval : ∀ (j : Nat) t v, Try.f7.params[j]? = some t → args[j]? = some v → Value.okWide Try.prog W .any base t v := hval0
  clear hval0 hcnd
  refine law_contract laid_ (tb := 4) rfl rfl Try.underlying4 (fun ds hd => ?_) (by show Readable Try.prog [33, 3, 3, 3]; repeat (first | exact trivial | refine ⟨⟨by kernel_rfl, of_decide_eq_true (by kernel_rfl)⟩, ?_⟩)) hW ?_
  · match ds, hd with
    | [d0, d1, d2, d3], _ => rfl
  obtain ⟨p, q, hA0, hV, rfl, hfz, hnd⟩ := hW
  have hA : DataW.TrodAll enc Try.prog W 0 (fun _ => true) true Try.f7.params.toList args.toList ds p := hA0
  clear hA0
  rw [Try.params7] at hA hval
  obtain ⟨v0, vs0, d0, ds0, p0, q0, hargs, rfl, rfl, h0, r0⟩ := trodAll_cons hA
  obtain ⟨v1, vs1, d1, ds1, p1, q1, rfl, rfl, rfl, h1, r1⟩ := trodAll_cons r0
  obtain ⟨v2, vs2, d2, ds2, p2, q2, rfl, rfl, rfl, h2, r2⟩ := trodAll_cons r1
  obtain ⟨v3, vs3, d3, ds3, p3, q3, rfl, rfl, rfl, h3, r3⟩ := trodAll_cons r2
  obtain ⟨rfl, rfl, rfl⟩ := trodAll_nil r3
  obtain rfl : args = #[v0, v1, v2, v3] := by cases args; simp_all
  obtain ⟨A, m, c, l, rfl, hn, hm, hsl, _⟩ := open_sl encBlow mkBlow mkBlow_f Try.underlying33 Try.underlying73 (by kernel_rfl) (by kernel_rfl) rfl (by decide) (fun j f hj => by
    match j, hj with
    | 0, hj | 1, hj | 2, hj => simp at hj; subst hj; exact Try.underlying3) (hval 0 _ v0 rfl rfl) h0
  obtain ⟨s, rfl, rfl, rfl, ws⟩ := open_int Try.underlying3 (hval 1 _ v1 rfl rfl) h1
  obtain ⟨f, rfl, rfl, rfl, wf⟩ := open_int Try.underlying3 (hval 2 _ v2 rfl rfl) h2
  obtain ⟨t, rfl, rfl, rfl, wt⟩ := open_int Try.underlying3 (hval 3 _ v3 rfl rfl) h3
  exact FnExactCalmSpan_walk l m hn A c s f t W (by unfold maxLen at hm; exact hm) hsl
theorem FnExactCalmSpan_holds : Rows.FnExactCalmSpanSaid :=
  OpenClaim.holds_of_wide 7 Try.f7 rfl rfl rfl rfl rfl rfl rfl ⟨rfl, rfl, rfl, rfl, rfl⟩ rfl rfl rfl rfl rfl (by kernel_rfl) Try.func7 (by kernel_rfl)
    (of_decide_eq_true (by kernel_rfl)) (by unfold Func.isWrapper; rw [if_neg (of_decide_eq_false (by kernel_rfl))]; exact ⟨rfl, rfl⟩)
    (fun os started H enc _ => FnExactCalmSpan_lifted os started H enc)
end Go.Proofs.Ytopdbacgceoddaa
