/- The draw of a plan. -/
import Derived.Test.YtbedepmcecdhfaaDrawK
namespace Go.Proofs.Ytbedepmcecdhfaa
open Go.RowKit
set_option maxRecDepth 4000 in
set_option maxHeartbeats 16000000 in
theorem drawAfterPlan_any (A : Option Addr) (n c : Nat) (w : World) (hc : Bytes w A n) :
    Calls Try.prog 24 #[.slice A n c] w fun e w' => ∃ gv dv lv tv g D l t, e = .returned (.tuple #[gv, dv, lv, tv]) ∧ List.length g ≤ 6 ∧ List.length D ≤ 9 ∧ List.length l ≤ 7 ∧ List.length t ≤ 1000001 ∧ Own encGauge w' w.heap.size 99 gv g ∧ Own encDitch w' w.heap.size 84 dv D ∧ Own encInt w' w.heap.size 3 lv l ∧ Own encInt w' w.heap.size 3 tv t ∧ Below w.heap.size w w' := by
  obtain ⟨i0, hinf, hz0, hz1, hz2⟩ := info_parts info_Int
  have HC := Lib.hid (Cur.new hc c 71)
  have HB := Lib.hid (show Below w.heap.size w (w.alloc (.cells #[.slice A n c, .int .i64 0, .int .u64 0] 71)) from (by repeat (first | assumption | exact Below.refl _ _ | apply bl_gw | apply bl_alloc | apply bl_drewN | apply bl_drew)))
  clear hc
  go_enter Try.func24, Try.ntmps24
  go_wp2_with fail
  refine (field16_any _ _ _ _ (by omega) HC.out).mono ?_
  rintro e w1 ⟨gv, dv, g, D, rfl, hgl, hDl, hs1⟩
  have S1 := Lib.hid hs1
  obtain ⟨Ag, cg, rfl, hcg, _, _⟩ := hs1.og.slice
  obtain ⟨Ad, cd, rfl, hcd, _, _⟩ := hs1.od.slice
  have HAg := Lib.hid (show ∀ a, Ag = some a → a.block ≠ w.heap.size from fun a ha e => by have := S1.out.og.lo a ha; simp at this; omega)
  have HAd := Lib.hid (show ∀ a, Ad = some a → a.block ≠ w.heap.size from fun a ha e => by have := S1.out.od.lo a ha; simp at this; omega)
  have hsz1 : w.heap.size < w1.heap.size := by have := S1.out.sz; simp at this; omega
  obtain ⟨n1, hn1⟩ : ∃ n, g.length = n := ⟨_, rfl⟩
  obtain ⟨m1, hm1⟩ : ∃ m, D.length = m := ⟨_, rfl⟩
  have HGN := Lib.hid hn1
  have HDN := Lib.hid hm1
  rw [hn1] at hgl hcg S1 ⊢
  rw [hm1] at hDl hcd S1 ⊢
  have B1 := Lib.hid (show Below w.heap.size w w1 from HB.out.trans (gb_toBelow S1.out.grown (by simp) (Nat.le_refl _)))
  have HB0 := HB
  clear hs1 hn1 hm1 HC HB
  go_wp2_with fail
  refine (levels16_any g n1 HGN.out Ag cg _ _ _ _ (by omega) hgl S1.out.gb HAg.out (S1.out.og.rd) (S1.out.cur)).mono ?_
  rintro e w2 ⟨v2, l2, rfl, hll2, o2, r2, g2⟩
  obtain ⟨A2, c2, rfl, hcl2, _, _⟩ := o2.slice
  obtain ⟨m2, hm2⟩ : ∃ n, l2.length = n := ⟨_, rfl⟩
  have HLm2 := Lib.hid hm2
  rw [hm2] at o2 hll2 hcl2 ⊢
  have Ol2 := Lib.hid o2
  have C2 := Lib.hid r2
  have OG2 := Lib.hid (S1.out.og.drawn g2 (by simp))
  have OD2 := Lib.hid (S1.out.od.drawn g2 (by simp))
  have B2 := Lib.hid (B1.out.trans (gb_toBelow g2 (by have := B1.out.size; omega) (by omega)))
  have hgrl2 := g2.size
  have HGl2 := Lib.hid g2
  clear o2 r2 g2 hm2
  have HAl := Lib.hid (show ∀ a, A2 = some a → a.block ≠ w.heap.size from fun a ha e => by have := Ol2.out.lo a ha; omega)
  go_wp2_with fail
  refine (goal16_any g D l2 n1 m1 m2 HGN.out HDN.out HLm2.out Ag Ad A2 cg cd c2 _ _ _ _ (by omega) hgl hDl (by omega) S1.out.gb HAg.out HAd.out HAl.out OG2.out.rd OD2.out.rd Ol2.out.rd C2.out).mono ?_
  rintro e w3 ⟨v3, l3, rfl, hll3, o3, r3, g3⟩
  have Ol3 := Lib.hid o3
  have C3 := Lib.hid r3
  have OG3 := Lib.hid (OG2.out.drawn g3 (by simp))
  have OD3 := Lib.hid (OD2.out.drawn g3 (by simp))
  have OL3 := Lib.hid (Ol2.out.drawn g3 (by omega))
  have B3 := Lib.hid (B2.out.trans (gb_toBelow g3 (by have := B2.out.size; omega) (by omega)))
  have hgrl3 := g3.size
  clear o3 r3 g3
  obtain ⟨A3, c3, rfl, hcl3, _, _⟩ := Ol3.out.slice
  have hcap2 := OL3.out.cap
  go_wp2_with fail
  refine (spec_ShortestPlan_any g D l2 l3 n1 m1 m2 l3.length HGN.out HDN.out HLm2.out rfl _ _ _ _ _ _ _ _ _ (by omega) (by omega) (by omega) (by omega) hcap2 hcl3 OG3.out.rd OD3.out.rd OL3.out.rd Ol3.out.rd).mono ?_
  rintro e w4 ⟨v4, rfl, o4, b4⟩
  have hpl := shortP_length g D l2 l3
  obtain ⟨⟨pl, ok⟩, hsp⟩ : ∃ x, shortP g D l2 l3 = x := ⟨_, rfl⟩
  rw [hsp] at hpl o4 ⊢
  dsimp only at hpl o4 ⊢
  have P4 := Lib.hid o4
  have C4 := Lib.hid (C3.out.below (b4.mono C3.out.le))
  have OG4 := Lib.hid (OG3.out.past b4 (Nat.le_refl _))
  have OD4 := Lib.hid (OD3.out.past b4 (Nat.le_refl _))
  have OL4 := Lib.hid (OL3.out.past b4 (Nat.le_refl _))
  have B4 := Lib.hid (below_step B3.out b4)
  have hz34 := b4.size
  have hz3 := B3.out.size
  clear o4 b4 hsp
  have HCUT := Lib.hid (show ∀ (w5 : World) (k5 : Nat), k5 ≤ 5000 → Cur w5 (w.heap.size + 1) w.heap.size k5 → w4.grownBy w5 (some w.heap.size) →
      Own encInt w5 w3.heap.size 3 v4 pl ∧ Own encGauge w5 (w.heap.size + 1) 99 (.slice Ag n1 cg) g ∧ Own encDitch w5 (w.heap.size + 1) 84 (.slice Ad m1 cd) D ∧ Own encInt w5 w1.heap.size 3 (.slice A2 m2 c2) l2 ∧ Below w.heap.size w w5 from fun w5 k5 _ _ hg =>
    ⟨P4.out.drawn hg (by omega), by have := OG4.out.drawn hg (by simp); simpa using this, by have := OD4.out.drawn hg (by simp); simpa using this, OL4.out.drawn hg (by omega), B4.out.trans (gb_toBelow hg (by have := B4.out.size; omega) (Nat.le_refl _))⟩)
  have HC4 := Lib.hid (show Cur w4 (w.heap.size + 1) w.heap.size 2000 from C4.out.mono (by omega))
  cases ok
  case' true =>
    go_wp2_with fail
    refine (one_any _ _ _ _ _ (by omega) (by omega) HC4.out).mono ?_
    rintro e w5 ⟨q, rfl, r5, g5⟩
    have C5 := Lib.hid r5
    have G5 := Lib.hid g5
    clear r5 g5
    cases q
    case' false =>
      obtain ⟨p5, og5, od5, ol5, b5⟩ := HCUT.out w5 _ (by omega) C5.out G5.out
      have P5 := Lib.hid p5
      have OG5 := Lib.hid og5
      have OD5 := Lib.hid od5
      have OL5 := Lib.hid ol5
      have B5 := Lib.hid b5
      clear p5 og5 od5 ol5 b5
      go_wp2
      refine bodyPost_ret (v := .tuple #[.slice Ag n1 cg, .slice Ad m1 cd, .slice A2 m2 c2, v4]) (by simp [results, Try.results24, go_sem]) rfl ?_
      exact ⟨_, _, _, _, g, D, l2, pl, rfl, by rw [HGN.out]; exact hgl, by rw [HDN.out]; exact hDl, by rw [HLm2.out]; exact hll2, by omega, OG5.out.lower (by omega), OD5.out.lower (by omega), OL5.out.lower (by omega), P5.out.lower (by omega), B5.out⟩
  case' false =>
    have C5 := HC4
    have G5 := Lib.hid (World.grownBy.refl w4 (some w.heap.size))
    obtain ⟨w5, hw5⟩ : ∃ w5, w5 = w4 := ⟨_, rfl⟩
    rw [← hw5] at C5 ⊢
    have G5' : w4.grownBy w5 (some w.heap.size) := by rw [hw5]; exact G5.out
    have G5 := Lib.hid G5'
    clear hw5 G5'
  all_goals
    go_wp2_with fail
    refine (pick_any _ _ _ _ _ (by omega) (by omega) C5.out).mono ?_
    rintro e w6 ⟨x6, _, rfl, r6, g6⟩
    have C6 := Lib.hid r6
    have G6 := Lib.hid (G5.out.trans g6)
    clear r6 g6 C5 G5
    go_wp2_with fail
    refine (pick_any _ _ _ _ _ (by omega) (by omega) C6.out).mono ?_
    rintro e w7 ⟨x7, hx7, rfl, r7, g7⟩
    have C7 := Lib.hid r7
    have G7 := Lib.hid (G6.out.trans g7)
    clear r7 g7 C6 G6
    obtain ⟨p5, og5, od5, ol5, b5⟩ := HCUT.out w7 _ (by omega) C7.out G7.out
    have P5 := Lib.hid p5
    have OG5 := Lib.hid og5
    have OD5 := Lib.hid od5
    have OL5 := Lib.hid ol5
    have B5 := Lib.hid b5
    have hz7 := G7.out.size
    clear p5 og5 od5 ol5 b5
    have d1 : (x7 : Int).tdiv 8 = ((x7 / 8 : Nat) : Int) := by rw [Int.tdiv_eq_ediv_of_nonneg (by omega)]; omega
    have d2 : IntKind.i64.wrap ((x7 / 8 : Nat) : Int) = ((x7 / 8 : Nat) : Int) := IntWalk.i64_in _ (by omega)
    have d3 : IntKind.i64.wrap ((x6 : Int) - ((x7 / 8 : Nat) : Int)) = (x6 : Int) - ((x7 / 8 : Nat) : Int) := IntWalk.i64_in _ (by omega)
    generalize x7 / 8 = x8 at *
    go_wp2_with (at_builtin; refine halt ?_)
    unfold Halt
    refine wpList_app2 (E := encInt) rfl (.tmp 41) (.tmp 51) 26 rfl w3.heap.size 3 i0 _ 8 Try.underlying26 hinf hz0 hz1 hz2 rfl (by decide) v4 pl rfl P5.out ((x6 : Int) - x8) _ rfl (by first | rfl | (rw [alloc_size]; rfl)) (by unfold maxLen; omega) (by omega) (by omega) ?_
    intro v8 w8 ho8 hb8
    have P8 := Lib.hid ho8
    have hb8' := hb8 w3.heap.size (Nat.le_refl _)
    have OG8 := Lib.hid (OG5.out.pastHi hb8' (fun a ha => Nat.lt_of_lt_of_le (OG3.out.hi a ha) (Nat.le_refl _)))
    have OD8 := Lib.hid (OD5.out.pastHi hb8' (fun a ha => Nat.lt_of_lt_of_le (OD3.out.hi a ha) (Nat.le_refl _)))
    have OL8 := Lib.hid (OL5.out.pastHi hb8' (fun a ha => Nat.lt_of_lt_of_le (OL3.out.hi a ha) (Nat.le_refl _)))
    have B8 := Lib.hid (B5.out.trans (hb8 _ hz3))
    clear ho8 hb8 hb8'
    go_wp2
    refine bodyPost_ret (v := .tuple #[.slice Ag n1 cg, .slice Ad m1 cd, .slice A2 m2 c2, v8]) (by simp [results, Try.results24, go_sem]) rfl ?_
    exact ⟨_, _, _, _, g, D, l2, pl ++ [(x6 : Int) - x8], rfl, by rw [HGN.out]; exact hgl, by rw [HDN.out]; exact hDl, by rw [HLm2.out]; exact hll2, by simp; omega, OG8.out.lower (by omega), OD8.out.lower (by omega), OL8.out.lower (by omega), P8.out.lower (by omega), B8.out⟩
end Go.Proofs.Ytbedepmcecdhfaa
