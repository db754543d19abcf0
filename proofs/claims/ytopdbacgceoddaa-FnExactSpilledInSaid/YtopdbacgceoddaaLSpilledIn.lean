/- The law FnExactSpilledIn holds for every list of blows and every lake. No condition. -/
import Derived.Test.YtopdbacgceoddaaWindF
import Derived.Test.YtopdbacgceoddaaWindFrame
import Derived.Test.YtopdbacgceoddaaTail
import Derived.Deep.RegionHeld3
namespace Go.Proofs.Ytopdbacgceoddaa
open Go.ChangeShapes Go.WideShapes Go.ChangeAt Go.RowKit
set_option maxHeartbeats 4000000 in
theorem FnExactSpilledIn_walk (l : List Blow) (m : Nat) (hn : l.length = m) (A : Option Addr) (cap : Nat) (x n b : Int) (h : Int)(w : World) (hm : m ≤ 9223372036854775807) (hc : Sl encBlow w w.heap.size A l) :
    Calls Try.prog 11 #[.slice A m cap, .agg #[.int .i64 x, .int .i64 n, .int .i64 b], .int .i64 h] w fun e w' => e = .returned (.bool true) ∧ Below w.heap.size w w' := by
  have HC := Lib.hid hc; clear hc
  have HN := Lib.hid hn; clear hn
  by_cases hl : m ≤ 1048576
  · go_enter Try.func11, Try.ntmps11
    go_wp2_with (go_at_call 21; refine (szBlowS_ok _ _ _ _ hl).mono ?_; rintro e w' ⟨rfl, rfl⟩)
    have HC' := Lib.hid (show Sl encBlow (w.alloc (.cells #[.int .i64 x, .int .i64 n, .int .i64 b] 23)).drew (w.alloc (.cells #[.int .i64 x, .int .i64 n, .int .i64 b] 23)).drew.heap.size A l from HC.out.past (bl_drew (bl_alloc (Below.refl _ _) _)))
    go_region_held3 (fun w' => w'.cell? ⟨w.heap.size, 0, none⟩ = some (.int .i64 x) ∧ w'.cell? ⟨w.heap.size, 1, none⟩ = some (.int .i64 n) ∧ w'.cell? ⟨w.heap.size, 2, none⟩ = some (.int .i64 b)) (go_keep)
      (first | (go_at_call 23; refine (toBlowS_sl l m HN.out _ _ _ hl HC'.out).mono ?_; rintro e w1 ⟨A1, c1, rfl, s1, _, b1⟩; have S1 := Lib.hid s1; have B1 := Lib.hid b1; clear s1; obtain ⟨hcb, _⟩ := bcell b1; have z1 := below_lt (show w.heap.size < (w.alloc _).drew.heap.size by simp) b1; clear b1) | (go_at_call 16; refine (toLake_any _ _ _ _).mono ?_; rintro e w2 ⟨rfl, b2⟩; have S2 := Lib.hid (S1.out.past b2); have B2 := Lib.hid b2; obtain ⟨hcb2, _⟩ := bcell b2; have z2 := below_lt z1 b2; clear b2) | (go_at_call 36; refine (spec_SpilledIn_any l m HN.out _ _ _ _ _ _ _ hl S2.out).mono ?_; rintro e w3 ⟨rfl, b3⟩; have B3 := Lib.hid b3; obtain ⟨hcb3, _⟩ := bcell b3; have z3 := below_lt z2 b3; clear b3))
    have BB3 := Lib.hid (below_step (below_step (below_step (bl_drew (bl_alloc (Below.refl w.heap.size w) _)) B1.out) B2.out) B3.out)
    have HC3 := Lib.hid (((HC'.out.past B1.out).past B2.out).past B3.out)
    clear HC' S1 S2 B1 B2 B3
    go_wp2_with fail
    refine (toBlowS_sl l m HN.out _ _ _ hl HC3.out).mono ?_
    rintro e w4 ⟨A4, c4, rfl, s4, _, b4⟩
    have S4 := Lib.hid s4; have HC4 := Lib.hid (HC3.out.past b4); have BB4 := Lib.hid (below_step BB3.out b4); obtain ⟨hcb4, _⟩ := bcell b4; have z4 := below_lt z3 b4; clear b4 s4
    go_wp2_with fail
    refine (toLake_any _ _ _ _).mono ?_
    rintro e w5 ⟨rfl, b5⟩
    have S5 := Lib.hid (S4.out.past b5); have HC5 := Lib.hid (HC4.out.past b5); have BB5 := Lib.hid (below_step BB4.out b5); clear b5
    go_wp2_with fail
    refine (impl_SpilledIn_any l m HN.out _ _ _ _ _ _ _ hl S5.out).mono ?_
    rintro e w6 ⟨rfl, b6⟩
    have S6 := Lib.hid (S5.out.past b6); have HC6 := Lib.hid (HC5.out.past b6); have BB6 := Lib.hid (below_step BB5.out b6); clear b6
    go_wp2_with fail
    refine (toBlowS_sl l m HN.out _ _ _ hl HC6.out).mono ?_
    rintro e w7 ⟨A7, c7, rfl, s7, _, b7⟩
    have S7 := Lib.hid s7; have T7 := Lib.hid (S6.out.past b7); have BB7 := Lib.hid (below_step BB6.out b7); clear b7 s7
    go_wp2_with fail
    refine (eqBlowS_same l m HN.out _ _ _ _ _ hl T7.out S7.out).mono ?_
    rintro e w8 ⟨rfl, b8⟩
    have BB8 := Lib.hid (below_step BB7.out b8); clear b8
    go_wp2
    go_ret
    exact ⟨rfl, BB8.out⟩
  · have hl' : 1048576 < m := by omega
    go_enter Try.func11, Try.ntmps11
    go_wp2_with (go_at_call 21; refine (szBlowS_big _ _ _ _ hl' hm).mono ?_; rintro e w' ⟨rfl, rfl⟩)
    go_ret
    exact ⟨rfl, (by repeat (first | assumption | exact Below.refl _ _ | apply bl_gw | apply bl_alloc | apply bl_drewN | apply bl_drew))⟩
set_option maxRecDepth 100000 in
theorem FnExactSpilledIn_lifted (os : Os) (started : os.Started) (H : Type) (enc : TypeId × Value → H) :
    ReturnsInHanded {} Try.checked os 11 .any (Rows.fnExactSpilledInSpec.pre6 enc Try.prog Try.f11 Rows.fnExactSpilledInRow.domain false) (Rows.fnExactSpilledInSpec.post enc Try.prog Try.f11 false true false false) := by
  refine returnsInHanded_of_change (C := Try.checked) own_ started (by kernel_rfl) Try.func11
    (ChangeSpec.witness6 (enc := enc) (C := Try.checked) false ⟨#[], #[.slice none 0 0, .agg #[.int .i64 0, .int .i64 0, .int .i64 0], .int .i64 0], []⟩ 8 (by kernel_rfl) (by kernel_rfl) (by kernel_rfl) (by kernel_rfl)) ?_
  intro W base args ds gs before hval0 hW hcnd _
  have hval : ∀ (j : Nat) t v, Try.f11.params[j]? = some t → args[j]? = some v → Value.okWide Try.prog W .any base t v := hval0
  clear hval0 hcnd
  refine law_contract laid_ (tb := 4) rfl rfl Try.underlying4 (fun ds hd => ?_) (by show Readable Try.prog [33, 23, 3]; repeat (first | exact trivial | refine ⟨⟨by kernel_rfl, of_decide_eq_true (by kernel_rfl)⟩, ?_⟩)) hW ?_
  · match ds, hd with
    | [d0, d1, d2], _ => rfl
  obtain ⟨p, q, hA0, hV, rfl, hfz, hnd⟩ := hW
  have hA : DataW.TrodAll enc Try.prog W 0 (fun _ => true) true Try.f11.params.toList args.toList ds p := hA0
  clear hA0
  rw [Try.params11] at hA hval
  obtain ⟨v0, vs0, d0, ds0, p0, q0, hargs, rfl, rfl, h0, r0⟩ := trodAll_cons hA
  obtain ⟨v1, vs1, d1, ds1, p1, q1, rfl, rfl, rfl, h1, r1⟩ := trodAll_cons r0
  obtain ⟨v2, vs2, d2, ds2, p2, q2, rfl, rfl, rfl, h2, r2⟩ := trodAll_cons r1
  obtain ⟨rfl, rfl, rfl⟩ := trodAll_nil r2
  obtain rfl : args = #[v0, v1, v2] := by cases args; simp_all
  obtain ⟨A, m, c, l, rfl, hn, hm, hsl, _⟩ := open_sl encBlow mkBlow mkBlow_f Try.underlying33 Try.underlying73 (by kernel_rfl) (by kernel_rfl) rfl (by decide) (fun j f hj => by
    match j, hj with
    | 0, hj | 1, hj | 2, hj => simp at hj; subst hj; exact Try.underlying3) (hval 0 _ v0 rfl rfl) h0
  obtain ⟨zs, hzs, rfl, _⟩ := open_ag Try.underlying23 (by kernel_rfl) (by kernel_rfl) (fun j f hj => by
    match j, hj with
    | 0, hj | 1, hj | 2, hj => simp at hj; subst hj; exact Try.underlying3) (hval 1 _ v1 rfl rfl) h1
  obtain ⟨x, n, b, rfl⟩ := list3 hzs
  obtain ⟨hh, rfl, rfl, rfl, whh⟩ := open_int Try.underlying3 (hval 2 _ v2 rfl rfl) h2
  exact FnExactSpilledIn_walk l m hn A c x n b hh W (by unfold maxLen at hm; exact hm) hsl
theorem FnExactSpilledIn_holds : Rows.FnExactSpilledInSaid :=
  OpenClaim.holds_of_wide 11 Try.f11 rfl rfl rfl rfl rfl rfl rfl ⟨rfl, rfl, rfl, rfl, rfl⟩ rfl rfl rfl rfl rfl (by kernel_rfl) Try.func11 (by kernel_rfl)
    (of_decide_eq_true (by kernel_rfl)) (by unfold Func.isWrapper; rw [if_neg (of_decide_eq_false (by kernel_rfl))]; exact ⟨rfl, rfl⟩)
    (fun os started H enc _ => FnExactSpilledIn_lifted os started H enc)
end Go.Proofs.Ytopdbacgceoddaa
