/- The draws of the laws on plans, the rest. -/
import Derived.Test.YtbedepmcecdhfaaDrawG
namespace Go.Proofs.Ytbedepmcecdhfaa
open Go.RowKit
set_option maxRecDepth 4000 in
set_option maxHeartbeats 8000000 in
theorem drawFarthestLevels_any (A : Option Addr) (n c : Nat) (w : World) (hc : Bytes w A n) :
    Calls Try.prog 50 #[.slice A n c] w fun e w' => ∃ gv dv lv g D l, e = .returned (.tuple #[gv, dv, lv]) ∧ List.length g ≤ 6 ∧ List.length D ≤ 9 ∧ List.length l ≤ 7 ∧ Own encGauge w' w.heap.size 99 gv g ∧ Own encDitch w' w.heap.size 84 dv D ∧ Own encInt w' w.heap.size 3 lv l ∧ Below w.heap.size w w' := by
  have HC := Lib.hid hc
  clear hc
  go_enter Try.func50, Try.ntmps50
  go_wp2_with fail
  refine (drawReachedCount_any A n c _ HC.out).mono ?_
  rintro e w1 ⟨gv, dv, lv, g, D, l, rfl, h1, h2, h3, o1, o2, o3, b⟩
  have O1 := Lib.hid o1
  have O2 := Lib.hid o2
  have O3 := Lib.hid o3
  have BB := Lib.hid b
  clear o1 o2 o3 b
  go_wp2
  go_ret3
  exact ⟨_, _, _, g, D, l, rfl, h1, h2, h3, O1.out, O2.out, O3.out, BB.out⟩
set_option maxRecDepth 4000 in
set_option maxHeartbeats 8000000 in
theorem drawAreLevels_any (A : Option Addr) (n c : Nat) (w : World) (hc : Bytes w A n) :
    Calls Try.prog 52 #[.slice A n c] w fun e w' => ∃ gv lv g l, e = .returned (.tuple #[gv, lv]) ∧ List.length g ≤ 6 ∧ List.length l ≤ 7 ∧ Own encGauge w' w.heap.size 99 gv g ∧ Own encInt w' w.heap.size 3 lv l ∧ Below w.heap.size w w' := by
  have HC := Lib.hid (Cur.new hc c 71)
  have HB := Lib.hid (show Below w.heap.size w (w.alloc (.cells #[.slice A n c, .int .i64 0, .int .u64 0] 71)) from (by repeat (first | assumption | exact Below.refl _ _ | apply bl_gw | apply bl_alloc | apply bl_drewN | apply bl_drew)))
  clear hc
  go_enter Try.func52, Try.ntmps52
  go_wp2_with fail
  refine (field16_any _ _ _ _ (by omega) HC.out).mono ?_
  rintro e w1 ⟨gv, dv, g, D, rfl, hgl, hDl, hs1⟩
  have S1 := Lib.hid hs1
  obtain ⟨Ag, cg, rfl, hcg, _, _⟩ := hs1.og.slice
  obtain ⟨Ad, cd, rfl, hcd, _, _⟩ := hs1.od.slice
  have HAg := Lib.hid (show ∀ a, Ag = some a → a.block ≠ w.heap.size from fun a ha e => by have := S1.out.og.lo a ha; simp at this; omega)
  have HAd := Lib.hid (show ∀ a, Ad = some a → a.block ≠ w.heap.size from fun a ha e => by have := S1.out.od.lo a ha; simp at this; omega)
  have hsz1 : w.heap.size < w1.heap.size := by have := S1.out.sz; simp at this; omega
  obtain ⟨n1, hn1⟩ : ∃ n, g.length = n := ⟨_, rfl⟩
  obtain ⟨m1, hm1⟩ : ∃ m, D.length = m := ⟨_, rfl⟩
  have HGN := Lib.hid hn1
  have HDN := Lib.hid hm1
  rw [hn1] at hgl hcg S1 ⊢
  rw [hm1] at hDl hcd S1 ⊢
  have B1 := Lib.hid (show Below w.heap.size w w1 from HB.out.trans (gb_toBelow S1.out.grown (by simp) (Nat.le_refl _)))
  have HB0 := HB
  clear hs1 hn1 hm1 HC HB
  go_wp2_with fail
  refine (levels16_any g n1 HGN.out Ag cg _ _ _ _ (by omega) hgl S1.out.gb HAg.out (S1.out.og.rd) (S1.out.cur)).mono ?_
  rintro e w2 ⟨v2, l2, rfl, hll2, o2, r2, g2⟩
  obtain ⟨A2, c2, rfl, hcl2, _, _⟩ := o2.slice
  obtain ⟨m2, hm2⟩ : ∃ n, l2.length = n := ⟨_, rfl⟩
  have HLm2 := Lib.hid hm2
  rw [hm2] at o2 hll2 hcl2 ⊢
  have Ol2 := Lib.hid o2
  have C2 := Lib.hid r2
  have OG2 := Lib.hid (S1.out.og.drawn g2 (by simp))
  have OD2 := Lib.hid (S1.out.od.drawn g2 (by simp))
  have B2 := Lib.hid (B1.out.trans (gb_toBelow g2 (by have := B1.out.size; omega) (by omega)))
  have hgrl2 := g2.size
  have HGl2 := Lib.hid g2
  clear o2 r2 g2 hm2
  go_wp2
  go_ret2
  exact ⟨_, _, g, l2, rfl, by rw [HGN.out]; exact hgl, by rw [HLm2.out]; exact hll2, OG2.out.lower (by simp), Ol2.out.lower (by omega), B2.out⟩
set_option maxRecDepth 4000 in
set_option maxHeartbeats 8000000 in
theorem drawLevelsCount_any (A : Option Addr) (n c : Nat) (w : World) (hc : Bytes w A n) :
    Calls Try.prog 53 #[.slice A n c] w fun e w' => ∃ gv z g, e = .returned (.tuple #[gv, .int .i64 z]) ∧ List.length g ≤ 6 ∧ -1 ≤ z ∧ z ≤ 30 ∧ Own encGauge w' w.heap.size 99 gv g ∧ Below w.heap.size w w' := by
  have HC := Lib.hid (Cur.new hc c 71)
  have HB := Lib.hid (show Below w.heap.size w (w.alloc (.cells #[.slice A n c, .int .i64 0, .int .u64 0] 71)) from (by repeat (first | assumption | exact Below.refl _ _ | apply bl_gw | apply bl_alloc | apply bl_drewN | apply bl_drew)))
  clear hc
  go_enter Try.func53, Try.ntmps53
  go_wp2_with fail
  refine (field16_any _ _ _ _ (by omega) HC.out).mono ?_
  rintro e w1 ⟨gv, dv, g, D, rfl, hgl, hDl, hs1⟩
  have S1 := Lib.hid hs1
  obtain ⟨Ag, cg, rfl, hcg, _, _⟩ := hs1.og.slice
  obtain ⟨Ad, cd, rfl, hcd, _, _⟩ := hs1.od.slice
  have HAg := Lib.hid (show ∀ a, Ag = some a → a.block ≠ w.heap.size from fun a ha e => by have := S1.out.og.lo a ha; simp at this; omega)
  have HAd := Lib.hid (show ∀ a, Ad = some a → a.block ≠ w.heap.size from fun a ha e => by have := S1.out.od.lo a ha; simp at this; omega)
  have hsz1 : w.heap.size < w1.heap.size := by have := S1.out.sz; simp at this; omega
  obtain ⟨n1, hn1⟩ : ∃ n, g.length = n := ⟨_, rfl⟩
  obtain ⟨m1, hm1⟩ : ∃ m, D.length = m := ⟨_, rfl⟩
  have HGN := Lib.hid hn1
  have HDN := Lib.hid hm1
  rw [hn1] at hgl hcg S1 ⊢
  rw [hm1] at hDl hcd S1 ⊢
  have B1 := Lib.hid (show Below w.heap.size w w1 from HB.out.trans (gb_toBelow S1.out.grown (by simp) (Nat.le_refl _)))
  have HB0 := HB
  clear hs1 hn1 hm1 HC HB
  go_wp2_with fail
  refine (among_any [0, 2, 3, 4, 5, 6, 8, 30, -1] 9 rfl _ _ _ _ 3 _ (by omega) (S1.out.cur.below ((show Below (w1).heap.size (w1) _ from (by repeat (first | assumption | exact Below.refl _ _ | apply bl_gw | apply bl_alloc | apply bl_drewN | apply bl_drew))).mono S1.out.cur.le)) (by have := S1.out.cur.le; simp; omega) (by first | exact Blk.new _ _ _ | exact Blk.new_ _ _ _ _ (by simp) | exact (Blk.new _ _ _).drewN _ | exact (Blk.new _ _ _).gw _) (by omega) (by omega)).mono ?_
  rintro e w2 ⟨x2, hmx2, rfl, r1, g1⟩
  have S2 := Lib.hid (S1.out.step (show Below (w1).heap.size (w1) _ from (by repeat (first | assumption | exact Below.refl _ _ | apply bl_gw | apply bl_alloc | apply bl_drewN | apply bl_drew))) r1 g1)
  clear r1 g1
  have hb2 : -1 ≤ x2 ∧ x2 ≤ 30 := by simp at hmx2; omega
  have B2 := Lib.hid (HB0.out.trans (gb_toBelow S2.out.grown (by simp) (Nat.le_refl _)))
  clear hmx2
  go_wp2
  go_ret2
  exact ⟨_, _, g, rfl, by rw [HGN.out]; exact hgl, hb2.1, hb2.2, S2.out.og.lower (by simp), B2.out⟩
set_option maxHeartbeats 2000000 in
theorem indexOf_any (B p k : Nat) (n : Int) (w : World) (hk : k ≤ 10000) (hn0 : 0 ≤ n) (hn : n ≤ 100) (h : Cur w B p k) :
    Calls Try.prog 92 #[.pointer (some ⟨p, 0, none⟩), .int .i64 n] w fun e w' => ∃ z : Int, e = .returned (.int .i64 z) ∧ Cur w' B p (k + 4) ∧ w.grownBy w' (some p) := by
  have HC := Lib.hid h
  clear h
  have e1 : IntKind.i64.wrap (n + 1) = n + 1 := IntWalk.i64_in _ (by omega)
  go_enter Try.func92, Try.ntmps92
  go_wp2_with fail
  refine (pick_any _ _ _ _ _ (by omega) (by omega) HC.out).mono ?_
  rintro e w1 ⟨x1, _, rfl, r1, g1⟩
  have C1 := Lib.hid r1
  have G1 := Lib.hid g1
  clear r1 g1
  go_wp2_with fail
  refine (pick_any _ _ _ _ _ (by omega) (by omega) C1.out).mono ?_
  rintro e w2 ⟨x2, _, rfl, r2, g2⟩
  have C2 := Lib.hid r2
  have G2 := Lib.hid (G1.out.trans g2)
  clear r2 g2
  go_wp2
  go_ret
  exact ⟨_, rfl, C2.out, G2.out⟩
set_option maxRecDepth 4000 in
set_option maxHeartbeats 8000000 in
theorem drawFullestPond_any (A : Option Addr) (n c : Nat) (w : World) (hc : Bytes w A n) :
    Calls Try.prog 51 #[.slice A n c] w fun e w' => ∃ gv dv lv z g D l, e = .returned (.tuple #[gv, dv, lv, .int .i64 z]) ∧ List.length g ≤ 6 ∧ List.length D ≤ 9 ∧ List.length l ≤ 7 ∧ Own encGauge w' w.heap.size 99 gv g ∧ Own encDitch w' w.heap.size 84 dv D ∧ Own encInt w' w.heap.size 3 lv l ∧ Below w.heap.size w w' := by
  have HC := Lib.hid (Cur.new hc c 71)
  have HB := Lib.hid (show Below w.heap.size w (w.alloc (.cells #[.slice A n c, .int .i64 0, .int .u64 0] 71)) from (by repeat (first | assumption | exact Below.refl _ _ | apply bl_gw | apply bl_alloc | apply bl_drewN | apply bl_drew)))
  clear hc
  go_enter Try.func51, Try.ntmps51
  go_wp2_with fail
  refine (field16_any _ _ _ _ (by omega) HC.out).mono ?_
  rintro e w1 ⟨gv, dv, g, D, rfl, hgl, hDl, hs1⟩
  have S1 := Lib.hid hs1
  obtain ⟨Ag, cg, rfl, hcg, _, _⟩ := hs1.og.slice
  obtain ⟨Ad, cd, rfl, hcd, _, _⟩ := hs1.od.slice
  have HAg := Lib.hid (show ∀ a, Ag = some a → a.block ≠ w.heap.size from fun a ha e => by have := S1.out.og.lo a ha; simp at this; omega)
  have HAd := Lib.hid (show ∀ a, Ad = some a → a.block ≠ w.heap.size from fun a ha e => by have := S1.out.od.lo a ha; simp at this; omega)
  have hsz1 : w.heap.size < w1.heap.size := by have := S1.out.sz; simp at this; omega
  obtain ⟨n1, hn1⟩ : ∃ n, g.length = n := ⟨_, rfl⟩
  obtain ⟨m1, hm1⟩ : ∃ m, D.length = m := ⟨_, rfl⟩
  have HGN := Lib.hid hn1
  have HDN := Lib.hid hm1
  rw [hn1] at hgl hcg S1 ⊢
  rw [hm1] at hDl hcd S1 ⊢
  have B1 := Lib.hid (show Below w.heap.size w w1 from HB.out.trans (gb_toBelow S1.out.grown (by simp) (Nat.le_refl _)))
  have HB0 := HB
  clear hs1 hn1 hm1 HC HB
  go_wp2_with fail
  refine (levels16_any g n1 HGN.out Ag cg _ _ _ _ (by omega) hgl S1.out.gb HAg.out (S1.out.og.rd) (S1.out.cur)).mono ?_
  rintro e w2 ⟨v2, l2, rfl, hll2, o2, r2, g2⟩
  obtain ⟨A2, c2, rfl, hcl2, _, _⟩ := o2.slice
  obtain ⟨m2, hm2⟩ : ∃ n, l2.length = n := ⟨_, rfl⟩
  have HLm2 := Lib.hid hm2
  rw [hm2] at o2 hll2 hcl2 ⊢
  have Ol2 := Lib.hid o2
  have C2 := Lib.hid r2
  have OG2 := Lib.hid (S1.out.og.drawn g2 (by simp))
  have OD2 := Lib.hid (S1.out.od.drawn g2 (by simp))
  have B2 := Lib.hid (B1.out.trans (gb_toBelow g2 (by have := B1.out.size; omega) (by omega)))
  have hgrl2 := g2.size
  have HGl2 := Lib.hid g2
  clear o2 r2 g2 hm2
  go_wp2_with fail
  refine (indexOf_any _ _ _ _ _ (by omega) (by omega) (by omega) C2.out).mono ?_
  rintro e w3 ⟨z, rfl, _, g3⟩
  have OG3 := Lib.hid (OG2.out.drawn g3 (by simp))
  have OD3 := Lib.hid (OD2.out.drawn g3 (by simp))
  have OL3 := Lib.hid (Ol2.out.drawn g3 (by omega))
  have B3 := Lib.hid (B2.out.trans (gb_toBelow g3 (by have := B2.out.size; omega) (by omega)))
  clear g3
  go_wp2
  refine bodyPost_ret (v := .tuple #[.slice Ag n1 cg, .slice Ad m1 cd, .slice A2 m2 c2, .int .i64 z]) (by simp [results, Try.results51, go_sem]) rfl ?_
  exact ⟨_, _, _, _, g, D, l2, rfl, by rw [HGN.out]; exact hgl, by rw [HDN.out]; exact hDl, by rw [HLm2.out]; exact hll2, OG3.out.lower (by simp), OD3.out.lower (by simp), OL3.out.lower (by omega), B3.out⟩
set_option maxRecDepth 4000 in
set_option maxHeartbeats 8000000 in
theorem drawShortestPlan_any (A : Option Addr) (n c : Nat) (w : World) (hc : Bytes w A n) :
    Calls Try.prog 15 #[.slice A n c] w fun e w' => ∃ gv dv lv tv g D l t, e = .returned (.tuple #[gv, dv, lv, tv]) ∧ List.length g ≤ 6 ∧ List.length D ≤ 9 ∧ List.length l ≤ 7 ∧ List.length t ≤ 7 ∧ Own encGauge w' w.heap.size 99 gv g ∧ Own encDitch w' w.heap.size 84 dv D ∧ Own encInt w' w.heap.size 3 lv l ∧ Own encInt w' w.heap.size 3 tv t ∧ Below w.heap.size w w' := by
  have HC := Lib.hid (Cur.new hc c 71)
  have HB := Lib.hid (show Below w.heap.size w (w.alloc (.cells #[.slice A n c, .int .i64 0, .int .u64 0] 71)) from (by repeat (first | assumption | exact Below.refl _ _ | apply bl_gw | apply bl_alloc | apply bl_drewN | apply bl_drew)))
  clear hc
  go_enter Try.func15, Try.ntmps15
  go_wp2_with fail
  refine (field16_any _ _ _ _ (by omega) HC.out).mono ?_
  rintro e w1 ⟨gv, dv, g, D, rfl, hgl, hDl, hs1⟩
  have S1 := Lib.hid hs1
  obtain ⟨Ag, cg, rfl, hcg, _, _⟩ := hs1.og.slice
  obtain ⟨Ad, cd, rfl, hcd, _, _⟩ := hs1.od.slice
  have HAg := Lib.hid (show ∀ a, Ag = some a → a.block ≠ w.heap.size from fun a ha e => by have := S1.out.og.lo a ha; simp at this; omega)
  have HAd := Lib.hid (show ∀ a, Ad = some a → a.block ≠ w.heap.size from fun a ha e => by have := S1.out.od.lo a ha; simp at this; omega)
  have hsz1 : w.heap.size < w1.heap.size := by have := S1.out.sz; simp at this; omega
  obtain ⟨n1, hn1⟩ : ∃ n, g.length = n := ⟨_, rfl⟩
  obtain ⟨m1, hm1⟩ : ∃ m, D.length = m := ⟨_, rfl⟩
  have HGN := Lib.hid hn1
  have HDN := Lib.hid hm1
  rw [hn1] at hgl hcg S1 ⊢
  rw [hm1] at hDl hcd S1 ⊢
  have B1 := Lib.hid (show Below w.heap.size w w1 from HB.out.trans (gb_toBelow S1.out.grown (by simp) (Nat.le_refl _)))
  have HB0 := HB
  clear hs1 hn1 hm1 HC HB
  go_wp2_with fail
  refine (levels16_any g n1 HGN.out Ag cg _ _ _ _ (by omega) hgl S1.out.gb HAg.out (S1.out.og.rd) (S1.out.cur)).mono ?_
  rintro e w2 ⟨v2, l2, rfl, hll2, o2, r2, g2⟩
  obtain ⟨A2, c2, rfl, hcl2, _, _⟩ := o2.slice
  obtain ⟨m2, hm2⟩ : ∃ n, l2.length = n := ⟨_, rfl⟩
  have HLm2 := Lib.hid hm2
  rw [hm2] at o2 hll2 hcl2 ⊢
  have Ol2 := Lib.hid o2
  have C2 := Lib.hid r2
  have OG2 := Lib.hid (S1.out.og.drawn g2 (by simp))
  have OD2 := Lib.hid (S1.out.od.drawn g2 (by simp))
  have B2 := Lib.hid (B1.out.trans (gb_toBelow g2 (by have := B1.out.size; omega) (by omega)))
  have hgrl2 := g2.size
  have HGl2 := Lib.hid g2
  clear o2 r2 g2 hm2
  have HAl := Lib.hid (show ∀ a, A2 = some a → a.block ≠ w.heap.size from fun a ha e => by have := Ol2.out.lo a ha; omega)
  go_wp2_with fail
  refine (goal16_any g D l2 n1 m1 m2 HGN.out HDN.out HLm2.out Ag Ad A2 cg cd c2 _ _ _ _ (by omega) hgl hDl (by omega) S1.out.gb HAg.out HAd.out HAl.out OG2.out.rd OD2.out.rd Ol2.out.rd C2.out).mono ?_
  rintro e w3 ⟨v3, l3, rfl, hll3, o3, r3, g3⟩
  have Ol3 := Lib.hid o3
  have C3 := Lib.hid r3
  have OG3 := Lib.hid (OG2.out.drawn g3 (by simp))
  have OD3 := Lib.hid (OD2.out.drawn g3 (by simp))
  have OL3 := Lib.hid (Ol2.out.drawn g3 (by omega))
  have B3 := Lib.hid (B2.out.trans (gb_toBelow g3 (by have := B2.out.size; omega) (by omega)))
  have hgrl3 := g3.size
  clear o3 r3 g3
  go_wp2
  refine bodyPost_ret (v := .tuple #[.slice Ag n1 cg, .slice Ad m1 cd, .slice A2 m2 c2, v3]) (by simp [results, Try.results15, go_sem]) rfl ?_
  exact ⟨_, _, _, _, g, D, l2, l3, rfl, by rw [HGN.out]; exact hgl, by rw [HDN.out]; exact hDl, by rw [HLm2.out]; exact hll2, hll3, OG3.out.lower (by simp), OD3.out.lower (by simp), OL3.out.lower (by omega), Ol3.out.lower (by omega), B3.out⟩
set_option maxRecDepth 4000 in
set_option maxHeartbeats 8000000 in
theorem drawWhyNoPlan_any (A : Option Addr) (n c : Nat) (w : World) (hc : Bytes w A n) :
    Calls Try.prog 28 #[.slice A n c] w fun e w' => ∃ gv dv lv tv g D l t, e = .returned (.tuple #[gv, dv, lv, tv]) ∧ List.length g ≤ 6 ∧ List.length D ≤ 9 ∧ List.length l ≤ 7 ∧ List.length t ≤ 7 ∧ Own encGauge w' w.heap.size 99 gv g ∧ Own encDitch w' w.heap.size 84 dv D ∧ Own encInt w' w.heap.size 3 lv l ∧ Own encInt w' w.heap.size 3 tv t ∧ Below w.heap.size w w' := by
  have HC := Lib.hid (Cur.new hc c 71)
  have HB := Lib.hid (show Below w.heap.size w (w.alloc (.cells #[.slice A n c, .int .i64 0, .int .u64 0] 71)) from (by repeat (first | assumption | exact Below.refl _ _ | apply bl_gw | apply bl_alloc | apply bl_drewN | apply bl_drew)))
  clear hc
  go_enter Try.func28, Try.ntmps28
  go_wp2_with fail
  refine (field16_any _ _ _ _ (by omega) HC.out).mono ?_
  rintro e w1 ⟨gv, dv, g, D, rfl, hgl, hDl, hs1⟩
  have S1 := Lib.hid hs1
  obtain ⟨Ag, cg, rfl, hcg, _, _⟩ := hs1.og.slice
  obtain ⟨Ad, cd, rfl, hcd, _, _⟩ := hs1.od.slice
  have HAg := Lib.hid (show ∀ a, Ag = some a → a.block ≠ w.heap.size from fun a ha e => by have := S1.out.og.lo a ha; simp at this; omega)
  have HAd := Lib.hid (show ∀ a, Ad = some a → a.block ≠ w.heap.size from fun a ha e => by have := S1.out.od.lo a ha; simp at this; omega)
  have hsz1 : w.heap.size < w1.heap.size := by have := S1.out.sz; simp at this; omega
  obtain ⟨n1, hn1⟩ : ∃ n, g.length = n := ⟨_, rfl⟩
  obtain ⟨m1, hm1⟩ : ∃ m, D.length = m := ⟨_, rfl⟩
  have HGN := Lib.hid hn1
  have HDN := Lib.hid hm1
  rw [hn1] at hgl hcg S1 ⊢
  rw [hm1] at hDl hcd S1 ⊢
  have B1 := Lib.hid (show Below w.heap.size w w1 from HB.out.trans (gb_toBelow S1.out.grown (by simp) (Nat.le_refl _)))
  have HB0 := HB
  clear hs1 hn1 hm1 HC HB
  go_wp2_with fail
  refine (levels16_any g n1 HGN.out Ag cg _ _ _ _ (by omega) hgl S1.out.gb HAg.out (S1.out.og.rd) (S1.out.cur)).mono ?_
  rintro e w2 ⟨v2, l2, rfl, hll2, o2, r2, g2⟩
  obtain ⟨A2, c2, rfl, hcl2, _, _⟩ := o2.slice
  obtain ⟨m2, hm2⟩ : ∃ n, l2.length = n := ⟨_, rfl⟩
  have HLm2 := Lib.hid hm2
  rw [hm2] at o2 hll2 hcl2 ⊢
  have Ol2 := Lib.hid o2
  have C2 := Lib.hid r2
  have OG2 := Lib.hid (S1.out.og.drawn g2 (by simp))
  have OD2 := Lib.hid (S1.out.od.drawn g2 (by simp))
  have B2 := Lib.hid (B1.out.trans (gb_toBelow g2 (by have := B1.out.size; omega) (by omega)))
  have hgrl2 := g2.size
  have HGl2 := Lib.hid g2
  clear o2 r2 g2 hm2
  go_wp2_with fail
  refine (levels16_any g n1 HGN.out Ag cg _ _ _ _ (by omega) hgl S1.out.gb HAg.out (OG2.out.rd) (C2.out)).mono ?_
  rintro e w3 ⟨v3, l3, rfl, hll3, o2, r2, g2⟩
  obtain ⟨A3, c3, rfl, hcl3, _, _⟩ := o2.slice
  obtain ⟨m3, hm2⟩ : ∃ n, l3.length = n := ⟨_, rfl⟩
  have HLm3 := Lib.hid hm2
  rw [hm2] at o2 hll3 hcl3 ⊢
  have Ol3 := Lib.hid o2
  have C3 := Lib.hid r2
  have OG3 := Lib.hid (OG2.out.drawn g2 (by simp))
  have OD3 := Lib.hid (OD2.out.drawn g2 (by simp))
  have B3 := Lib.hid (B2.out.trans (gb_toBelow g2 (by have := B2.out.size; omega) (by omega)))
  have hgrl3 := g2.size
  have HGl3 := Lib.hid g2
  clear o2 r2 g2 hm2
  have OL3 := Lib.hid (Ol2.out.drawn HGl3.out (by omega))
  go_wp2
  refine bodyPost_ret (v := .tuple #[.slice Ag n1 cg, .slice Ad m1 cd, .slice A2 m2 c2, .slice A3 m3 c3]) (by simp [results, Try.results28, go_sem]) rfl ?_
  exact ⟨_, _, _, _, g, D, l2, l3, rfl, by rw [HGN.out]; exact hgl, by rw [HDN.out]; exact hDl, by rw [HLm2.out]; exact hll2, by rw [HLm3.out]; exact hll3, OG3.out.lower (by simp), OD3.out.lower (by simp), OL3.out.lower (by omega), Ol3.out.lower (by omega), B3.out⟩
end Go.Proofs.Ytbedepmcecdhfaa
