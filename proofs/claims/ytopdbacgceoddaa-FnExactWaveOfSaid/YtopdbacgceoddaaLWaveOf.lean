/- The law FnExactWaveOf holds for every lake and wind. No condition. -/
import Derived.Test.YtopdbacgceoddaaWindD
import Derived.Test.YtopdbacgceoddaaWindFrame
namespace Go.Proofs.Ytopdbacgceoddaa
open Go.ChangeShapes Go.WideShapes Go.ChangeAt Go.RowKit
set_option maxHeartbeats 2000000 in
theorem FnExactWaveOf_walk (x n b s f : Int) (w : World) :
    Calls Try.prog 4 #[.agg #[.int .i64 x, .int .i64 n, .int .i64 b], .int .i64 s, .int .i64 f] w fun e w' => e = .returned (.bool true) ∧ Below w.heap.size w w' := by
  obtain ⟨u, hu⟩ : ∃ u, waveOfP x n b s f = u := ⟨_, rfl⟩
  have HU := Lib.hid hu; clear hu
  go_enter Try.func4, Try.ntmps4
  go_wp2_with (first | (go_at_call 16; refine (toLake_any _ _ _ _).mono ?_; rintro e w1 ⟨rfl, hb⟩; obtain ⟨p, rfl⟩ := below_gw hb; clear hb) | (go_at_call 19; refine (spec_WaveOf_any _ _ _ _ _ _).mono ?_; rintro e w1 ⟨rfl, hb⟩; obtain ⟨p, rfl⟩ := below_gw hb; clear hb; rw [HU.out]) | (go_at_call 20; refine (impl_WaveOf_any _ _ _ _ _ _).mono ?_; rintro e w1 ⟨rfl, hb⟩; obtain ⟨p, rfl⟩ := below_gw hb; clear hb; rw [HU.out]))
  go_ret
  exact ⟨rfl, (by repeat (first | assumption | exact Below.refl _ _ | apply bl_gw | apply bl_alloc | apply bl_drewN | apply bl_drew))⟩
set_option maxRecDepth 100000 in
theorem FnExactWaveOf_lifted (os : Os) (started : os.Started) (H : Type) (enc : TypeId × Value → H) :
    ReturnsInHanded {} Try.checked os 4 .any (Rows.fnExactWaveOfSpec.pre6 enc Try.prog Try.f4 Rows.fnExactWaveOfRow.domain false) (Rows.fnExactWaveOfSpec.post enc Try.prog Try.f4 false true false false) := by
  refine returnsInHanded_of_change (C := Try.checked) own_ started (by kernel_rfl) Try.func4
    (ChangeSpec.witness6 (enc := enc) (C := Try.checked) false ⟨#[], #[.agg #[.int .i64 0, .int .i64 0, .int .i64 0], .int .i64 0, .int .i64 0], []⟩ 8 (by kernel_rfl) (by kernel_rfl) (by kernel_rfl) (by kernel_rfl)) ?_
  intro W base args ds gs before hval0 hW hcnd _
  have hval : ∀ (j : Nat) t v, Try.f4.params[j]? = some t → args[j]? = some v → Value.okWide Try.prog W .any base t v := hval0
  clear hval0 hcnd
  refine law_contract laid_ (tb := 4) rfl rfl Try.underlying4 (fun ds hd => ?_) (by show Readable Try.prog [23, 3, 3]; repeat (first | exact trivial | refine ⟨⟨by kernel_rfl, of_decide_eq_true (by kernel_rfl)⟩, ?_⟩)) hW ?_
  · match ds, hd with
    | [d0, d1, d2], _ => rfl
  obtain ⟨p, q, hA0, hV, rfl, hfz, hnd⟩ := hW
  have hA : DataW.TrodAll enc Try.prog W 0 (fun _ => true) true Try.f4.params.toList args.toList ds p := hA0
  clear hA0
  rw [Try.params4] at hA hval
  obtain ⟨v0, vs0, d0, ds0, p0, q0, hargs, rfl, rfl, h0, r0⟩ := trodAll_cons hA
  obtain ⟨v1, vs1, d1, ds1, p1, q1, rfl, rfl, rfl, h1, r1⟩ := trodAll_cons r0
  obtain ⟨v2, vs2, d2, ds2, p2, q2, rfl, rfl, rfl, h2, r2⟩ := trodAll_cons r1
  obtain ⟨rfl, rfl, rfl⟩ := trodAll_nil r2
  obtain rfl : args = #[v0, v1, v2] := by cases args; simp_all
  obtain ⟨zs, hzs, rfl, _⟩ := open_ag Try.underlying23 (by kernel_rfl) (by kernel_rfl) (fun j f hj => by
    match j, hj with
    | 0, hj | 1, hj | 2, hj => simp at hj; subst hj; exact Try.underlying3) (hval 0 _ v0 rfl rfl) h0
  obtain ⟨x, n, b, rfl⟩ := list3 hzs
  obtain ⟨s, rfl, rfl, rfl, ws⟩ := open_int Try.underlying3 (hval 1 _ v1 rfl rfl) h1
  obtain ⟨f, rfl, rfl, rfl, wf⟩ := open_int Try.underlying3 (hval 2 _ v2 rfl rfl) h2
  exact FnExactWaveOf_walk x n b s f W
theorem FnExactWaveOf_holds : Rows.FnExactWaveOfSaid :=
  OpenClaim.holds_of_wide 4 Try.f4 rfl rfl rfl rfl rfl rfl rfl ⟨rfl, rfl, rfl, rfl, rfl⟩ rfl rfl rfl rfl rfl (by kernel_rfl) Try.func4 (by kernel_rfl)
    (of_decide_eq_true (by kernel_rfl)) (by unfold Func.isWrapper; rw [if_neg (of_decide_eq_false (by kernel_rfl))]; exact ⟨rfl, rfl⟩)
    (fun os started H enc _ => FnExactWaveOf_lifted os started H enc)
end Go.Proofs.Ytopdbacgceoddaa
