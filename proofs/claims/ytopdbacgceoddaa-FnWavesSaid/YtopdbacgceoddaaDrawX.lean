/- The draws of the laws on wind: some values, well formed. -/
import Derived.Test.YtopdbacgceoddaaDrawW
namespace Go.Proofs.Ytopdbacgceoddaa
open Go.RowKit
set_option maxRecDepth 4000 in
set_option maxHeartbeats 4000000 in
theorem drawAreBlows_any (A : Option Addr) (n c : Nat) (w : World) (hc : Bytes w A n) :
    Calls Try.prog 73 #[.slice A n c] w fun e w' => ∃ v l, e = .returned v ∧ List.length l ≤ 40 ∧ Own encBlow w' w.heap.size 62 v l ∧ Below w.heap.size w w' := by
  have HC := Lib.hid (Cur.new hc c 85)
  have HB := Lib.hid (show Below w.heap.size w (w.alloc (.cells #[.slice A n c, .int .i64 0, .int .u64 0] 85)) from (by repeat (first | assumption | exact Below.refl _ _ | apply bl_gw | apply bl_alloc | apply bl_drewN | apply bl_drew)))
  have HY := Lib.hid hc
  clear hc
  go_enter Try.func73, Try.ntmps73
  go_wp2_with fail
  refine (blows_any _ _ _ _ (by omega) (HC.out.below ((show Below ((w.alloc (.cells #[.slice A n c, .int .i64 0, .int .u64 0] 85))).heap.size ((w.alloc (.cells #[.slice A n c, .int .i64 0, .int .u64 0] 85))) _ from (by repeat (first | assumption | exact Below.refl _ _ | apply bl_gw | apply bl_alloc | apply bl_drewN | apply bl_drew))).mono HC.out.le))).mono ?_
  rintro e w1 ⟨v1, l1, rfl, hll1, o1, r1, g1⟩
  have O1 := Lib.hid (o1.lower (Nat.le_trans HC.out.le (by simp)))
  clear o1
  have C1 := Lib.hid r1
  have B1 := Lib.hid (HB.out.trans (((show Below ((w.alloc (.cells #[.slice A n c, .int .i64 0, .int .u64 0] 85))).heap.size ((w.alloc (.cells #[.slice A n c, .int .i64 0, .int .u64 0] 85))) _ from (by repeat (first | assumption | exact Below.refl _ _ | apply bl_gw | apply bl_alloc | apply bl_drewN | apply bl_drew))).mono HB.out.size).trans (gb_toBelow g1 (by have := HB.out.size; simp at this ⊢; try omega) (by simp))))
  have g1' := g1
  clear r1 g1
  go_wp2
  go_ret
  exact ⟨_, _, rfl, hll1, O1.out.lower (by omega), B1.out⟩
set_option maxRecDepth 4000 in
set_option maxHeartbeats 4000000 in
theorem drawMainDirection_any (A : Option Addr) (n c : Nat) (w : World) (hc : Bytes w A n) :
    Calls Try.prog 46 #[.slice A n c] w fun e w' => ∃ v l, e = .returned v ∧ List.length l ≤ 40 ∧ Own encBlow w' w.heap.size 62 v l ∧ Below w.heap.size w w' := by
  have HC := Lib.hid hc
  clear hc
  go_enter Try.func46, Try.ntmps46
  go_wp2_with fail
  refine (drawAreBlows_any A n c _ HC.out).mono ?_
  rintro e w1 ⟨v, l, rfl, hl, o1, b1⟩
  have O1 := Lib.hid o1
  have B1 := Lib.hid b1
  clear o1 b1
  go_wp2
  go_ret
  exact ⟨_, _, rfl, hl, O1.out, B1.out⟩
set_option maxRecDepth 4000 in
set_option maxHeartbeats 4000000 in
theorem drawCalmSpan_any (A : Option Addr) (n c : Nat) (w : World) (hc : Bytes w A n) :
    Calls Try.prog 45 #[.slice A n c] w fun e w' => ∃ v l, ∃ s f t : Int, e = .returned (.tuple #[v, .int .i64 s, .int .i64 f, .int .i64 t]) ∧ List.length l ≤ 40 ∧ Own encBlow w' w.heap.size 62 v l ∧ Below w.heap.size w w' := by
  have HC := Lib.hid (Cur.new hc c 85)
  have HB := Lib.hid (show Below w.heap.size w (w.alloc (.cells #[.slice A n c, .int .i64 0, .int .u64 0] 85)) from (by repeat (first | assumption | exact Below.refl _ _ | apply bl_gw | apply bl_alloc | apply bl_drewN | apply bl_drew)))
  have HY := Lib.hid hc
  clear hc
  go_enter Try.func45, Try.ntmps45
  go_wp2_with fail
  refine (among_any [0, 0, 1, 5, 9985, -1] 6 rfl _ _ _ _ 3 _ (by omega) (HC.out.below ((show Below ((w.alloc (.cells #[.slice A n c, .int .i64 0, .int .u64 0] 85))).heap.size ((w.alloc (.cells #[.slice A n c, .int .i64 0, .int .u64 0] 85))) _ from (by repeat (first | assumption | exact Below.refl _ _ | apply bl_gw | apply bl_alloc | apply bl_drewN | apply bl_drew))).mono HC.out.le)) (by have := HC.out.le; simp at this ⊢; try omega) (by first | exact Blk.new _ _ _ | exact Blk.new_ _ _ _ _ (by simp) | exact (Blk.new _ _ _).drewN _ | exact (Blk.new _ _ _).gw _) (by omega) (by omega)).mono ?_
  rintro e w1 ⟨x1, hmx1, rfl, r1, g1⟩
  have C1 := Lib.hid r1
  have B1 := Lib.hid (HB.out.trans (((show Below ((w.alloc (.cells #[.slice A n c, .int .i64 0, .int .u64 0] 85))).heap.size ((w.alloc (.cells #[.slice A n c, .int .i64 0, .int .u64 0] 85))) _ from (by repeat (first | assumption | exact Below.refl _ _ | apply bl_gw | apply bl_alloc | apply bl_drewN | apply bl_drew))).mono HB.out.size).trans (gb_toBelow g1 (by have := HB.out.size; simp at this ⊢; try omega) (by simp))))
  have g1' := g1
  clear r1 g1
  clear g1'
  go_wp2_with fail
  refine (blows_any _ _ _ _ (by omega) (C1.out.below ((show Below (w1).heap.size (w1) _ from (by repeat (first | assumption | exact Below.refl _ _ | apply bl_gw | apply bl_alloc | apply bl_drewN | apply bl_drew))).mono C1.out.le))).mono ?_
  rintro e w2 ⟨v2, l2, rfl, hll2, o1, r1, g1⟩
  have O2 := Lib.hid (o1.lower (Nat.le_trans C1.out.le (by simp)))
  clear o1
  have C2 := Lib.hid r1
  have B2 := Lib.hid (B1.out.trans (((show Below (w1).heap.size (w1) _ from (by repeat (first | assumption | exact Below.refl _ _ | apply bl_gw | apply bl_alloc | apply bl_drewN | apply bl_drew))).mono B1.out.size).trans (gb_toBelow g1 (by have := B1.out.size; simp at this ⊢; try omega) (by simp))))
  have g1' := g1
  clear r1 g1
  clear g1'
  go_wp2_with fail
  refine (among_any [0, 5, 10, 20, 60, -1] 6 rfl _ _ _ _ 3 _ (by omega) (C2.out.below ((show Below (w2).heap.size (w2) _ from (by repeat (first | assumption | exact Below.refl _ _ | apply bl_gw | apply bl_alloc | apply bl_drewN | apply bl_drew))).mono C2.out.le)) (by have := C2.out.le; simp at this ⊢; try omega) (by first | exact Blk.new _ _ _ | exact Blk.new_ _ _ _ _ (by simp) | exact (Blk.new _ _ _).drewN _ | exact (Blk.new _ _ _).gw _) (by omega) (by omega)).mono ?_
  rintro e w3 ⟨x3, hmx3, rfl, r1, g1⟩
  have C3 := Lib.hid r1
  have B3 := Lib.hid (B2.out.trans (((show Below (w2).heap.size (w2) _ from (by repeat (first | assumption | exact Below.refl _ _ | apply bl_gw | apply bl_alloc | apply bl_drewN | apply bl_drew))).mono B2.out.size).trans (gb_toBelow g1 (by have := B2.out.size; simp at this ⊢; try omega) (by simp))))
  have g1' := g1
  clear r1 g1
  have O3 := Lib.hid ((O2.out.past (bl_alloc (Below.refl _ _) _) (Nat.le_refl _)).drawn g1' (by omega))
  clear g1'
  go_wp2_with fail
  refine (among_any [0, 3, 10, 12, 9999, -1] 6 rfl _ _ _ _ 3 _ (by omega) (C3.out.below ((show Below (w3).heap.size (w3) _ from (by repeat (first | assumption | exact Below.refl _ _ | apply bl_gw | apply bl_alloc | apply bl_drewN | apply bl_drew))).mono C3.out.le)) (by have := C3.out.le; simp at this ⊢; try omega) (by first | exact Blk.new _ _ _ | exact Blk.new_ _ _ _ _ (by simp) | exact (Blk.new _ _ _).drewN _ | exact (Blk.new _ _ _).gw _) (by omega) (by omega)).mono ?_
  rintro e w4 ⟨x4, hmx4, rfl, r1, g1⟩
  have C4 := Lib.hid r1
  have B4 := Lib.hid (B3.out.trans (((show Below (w3).heap.size (w3) _ from (by repeat (first | assumption | exact Below.refl _ _ | apply bl_gw | apply bl_alloc | apply bl_drewN | apply bl_drew))).mono B3.out.size).trans (gb_toBelow g1 (by have := B3.out.size; simp at this ⊢; try omega) (by simp))))
  have g1' := g1
  clear r1 g1
  have O4 := Lib.hid ((O3.out.past (bl_alloc (Below.refl _ _) _) (Nat.le_refl _)).drawn g1' (by omega))
  clear g1'
  go_wp2
  exact bodyPost_ret (v := .tuple #[v2, .int .i64 x3, .int .i64 x1, .int .i64 (wrap64 (x1 + x4))]) (by simp [results, Try.results45, go_sem]) rfl ⟨_, _, _, _, _, rfl, hll2, O4.out.lower (by omega), B4.out⟩
set_option maxRecDepth 4000 in
set_option maxHeartbeats 4000000 in
theorem drawMeanSpeed_any (A : Option Addr) (n c : Nat) (w : World) (hc : Bytes w A n) :
    Calls Try.prog 47 #[.slice A n c] w fun e w' => ∃ v l, ∃ d : Int, e = .returned (.tuple #[v, .int .i64 d]) ∧ List.length l ≤ 40 ∧ Own encBlow w' w.heap.size 62 v l ∧ Below w.heap.size w w' := by
  have HC := Lib.hid (Cur.new hc c 85)
  have HB := Lib.hid (show Below w.heap.size w (w.alloc (.cells #[.slice A n c, .int .i64 0, .int .u64 0] 85)) from (by repeat (first | assumption | exact Below.refl _ _ | apply bl_gw | apply bl_alloc | apply bl_drewN | apply bl_drew)))
  have HY := Lib.hid hc
  clear hc
  go_enter Try.func47, Try.ntmps47
  go_wp2_with fail
  refine (blows_any _ _ _ _ (by omega) (HC.out.below ((show Below ((w.alloc (.cells #[.slice A n c, .int .i64 0, .int .u64 0] 85))).heap.size ((w.alloc (.cells #[.slice A n c, .int .i64 0, .int .u64 0] 85))) _ from (by repeat (first | assumption | exact Below.refl _ _ | apply bl_gw | apply bl_alloc | apply bl_drewN | apply bl_drew))).mono HC.out.le))).mono ?_
  rintro e w2 ⟨v2, l2, rfl, hll2, o1, r1, g1⟩
  have O2 := Lib.hid (o1.lower (Nat.le_trans HC.out.le (by simp)))
  clear o1
  have C2 := Lib.hid r1
  have B2 := Lib.hid (HB.out.trans (((show Below ((w.alloc (.cells #[.slice A n c, .int .i64 0, .int .u64 0] 85))).heap.size ((w.alloc (.cells #[.slice A n c, .int .i64 0, .int .u64 0] 85))) _ from (by repeat (first | assumption | exact Below.refl _ _ | apply bl_gw | apply bl_alloc | apply bl_drewN | apply bl_drew))).mono HB.out.size).trans (gb_toBelow g1 (by have := HB.out.size; simp at this ⊢; try omega) (by simp))))
  have g1' := g1
  clear r1 g1
  clear g1'
  go_wp2_with fail
  refine (pick_any _ _ _ 5 _ (by omega) (by omega) (C2.out.below ((show Below (w2).heap.size (w2) _ from (by repeat (first | assumption | exact Below.refl _ _ | apply bl_gw | apply bl_alloc | apply bl_drewN | apply bl_drew))).mono C2.out.le))).mono ?_
  rintro e w3 ⟨x3, hmx3, rfl, r1, g1⟩
  have C3 := Lib.hid r1
  have B3 := Lib.hid (B2.out.trans (((show Below (w2).heap.size (w2) _ from (by repeat (first | assumption | exact Below.refl _ _ | apply bl_gw | apply bl_alloc | apply bl_drewN | apply bl_drew))).mono B2.out.size).trans (gb_toBelow g1 (by have := B2.out.size; simp at this ⊢; try omega) (by simp))))
  have g1' := g1
  clear r1 g1
  have O3 := Lib.hid (O2.out.drawn g1' (by omega))
  clear g1'
  go_wp2_with fail
  refine (pick_any _ _ _ 17 _ (by omega) (by omega) (C3.out.below ((show Below (w3).heap.size (w3) _ from (by repeat (first | assumption | exact Below.refl _ _ | apply bl_gw | apply bl_alloc | apply bl_drewN | apply bl_drew))).mono C3.out.le))).mono ?_
  rintro e w4 ⟨x4, hmx4, rfl, r1, g1⟩
  have C4 := Lib.hid r1
  have B4 := Lib.hid (B3.out.trans (((show Below (w3).heap.size (w3) _ from (by repeat (first | assumption | exact Below.refl _ _ | apply bl_gw | apply bl_alloc | apply bl_drewN | apply bl_drew))).mono B3.out.size).trans (gb_toBelow g1 (by have := B3.out.size; simp at this ⊢; try omega) (by simp))))
  have g1' := g1
  clear r1 g1
  have O4 := Lib.hid (O3.out.drawn g1' (by omega))
  clear g1'
  go_wp2
  go_ret2
  exact ⟨_, _, _, rfl, hll2, O4.out.lower (by omega), B4.out⟩
set_option maxRecDepth 4000 in
set_option maxHeartbeats 4000000 in
theorem drawTurnLake_any (A : Option Addr) (n c : Nat) (w : World) (hc : Bytes w A n) :
    Calls Try.prog 48 #[.slice A n c] w fun e w' => ∃ x y z : Int, e = .returned (.agg #[.int .i64 x, .int .i64 y, .int .i64 z]) ∧ Below w.heap.size w w' := by
  have hcn := Cur.new (hc.past (bl_alloc (Below.refl _ _) (.cells #[.int .i64 0, .int .i64 0, .int .i64 0] 24))) c 85
  rw [show (w.alloc (.cells #[.int .i64 0, .int .i64 0, .int .i64 0] 24)).heap.size = w.heap.size + 1 by simp] at hcn
  have HC := Lib.hid hcn
  clear hcn
  have HB := Lib.hid (show Below w.heap.size w ((w.alloc (.cells #[.int .i64 0, .int .i64 0, .int .i64 0] 24)).alloc (.cells #[.slice A n c, .int .i64 0, .int .u64 0] 85)) from (by repeat (first | assumption | exact Below.refl _ _ | apply bl_gw | apply bl_alloc | apply bl_drewN | apply bl_drew)))
  have HR := Lib.hid ((Blk.new w 24 #[.int .i64 0, .int .i64 0, .int .i64 0]).alloc (.cells #[.slice A n c, .int .i64 0, .int .u64 0] 85))
  clear hc
  go_enter Try.func48, Try.ntmps48
  go_wp2_with fail
  refine (lake_any _ _ _ _ (by omega) (HC.out.below ((show Below (((w.alloc (.cells #[.int .i64 0, .int .i64 0, .int .i64 0] 24)).alloc (.cells #[.slice A n c, .int .i64 0, .int .u64 0] 85))).heap.size (((w.alloc (.cells #[.int .i64 0, .int .i64 0, .int .i64 0] 24)).alloc (.cells #[.slice A n c, .int .i64 0, .int .u64 0] 85))) _ from (by repeat (first | assumption | exact Below.refl _ _ | apply bl_gw | apply bl_alloc | apply bl_drewN | apply bl_drew))).mono HC.out.le))).mono ?_
  rintro e w1 ⟨x1, x2, x3, rfl, r1, g1⟩
  have C1 := Lib.hid r1
  have B1 := Lib.hid (HB.out.trans (((show Below (((w.alloc (.cells #[.int .i64 0, .int .i64 0, .int .i64 0] 24)).alloc (.cells #[.slice A n c, .int .i64 0, .int .u64 0] 85))).heap.size (((w.alloc (.cells #[.int .i64 0, .int .i64 0, .int .i64 0] 24)).alloc (.cells #[.slice A n c, .int .i64 0, .int .u64 0] 85))) _ from (by repeat (first | assumption | exact Below.refl _ _ | apply bl_gw | apply bl_alloc | apply bl_drewN | apply bl_drew))).mono HB.out.size).trans (gb_toBelow g1 (by have := HB.out.size; simp at this ⊢; try omega) (by simp))))
  have g1' := g1
  clear r1 g1
  have R1 := Lib.hid (HR.out.grown g1' (by simp))
  clear g1'
  have r0 : (w1).cell? ⟨w.heap.size, 0, none⟩ = some (.int .i64 0) := R1.out.cell 0
  have r1 : (w1).cell? ⟨w.heap.size, 1, none⟩ = some (.int .i64 0) := R1.out.cell 1
  have r2 : (w1).cell? ⟨w.heap.size, 2, none⟩ = some (.int .i64 0) := R1.out.cell 2
  have f0 := R1.out.frozen 0
  have f1 := R1.out.frozen 1
  have f2 := R1.out.frozen 2
  have hl1 := R1.out.lt
  go_wp2
  refine bodyPost_ret (v := .agg #[.int .i64 x1, .int .i64 x2, .int .i64 x3]) (by simp [results, Try.results48, go_sem, r0, r1, r2]) rfl ?_
  exact ⟨_, _, _, rfl, B1.out.trans (by repeat (first | assumption | exact Below.refl _ _ | apply Below.drew | apply below_drewN | (refine Below.setCell ?_ (by dsimp only; omega) _)))⟩
set_option maxRecDepth 4000 in
set_option maxHeartbeats 4000000 in
theorem drawWaveOf_any (A : Option Addr) (n c : Nat) (w : World) (hc : Bytes w A n) :
    Calls Try.prog 42 #[.slice A n c] w fun e w' => ∃ x y z s f : Int, e = .returned (.tuple #[.agg #[.int .i64 x, .int .i64 y, .int .i64 z], .int .i64 s, .int .i64 f]) ∧ Below w.heap.size w w' := by
  have hcn := Cur.new (hc.past (bl_alloc (Below.refl _ _) (.cells #[.int .i64 0, .int .i64 0, .int .i64 0] 24))) c 85
  rw [show (w.alloc (.cells #[.int .i64 0, .int .i64 0, .int .i64 0] 24)).heap.size = w.heap.size + 1 by simp] at hcn
  have HC := Lib.hid hcn
  clear hcn
  have HB := Lib.hid (show Below w.heap.size w ((w.alloc (.cells #[.int .i64 0, .int .i64 0, .int .i64 0] 24)).alloc (.cells #[.slice A n c, .int .i64 0, .int .u64 0] 85)) from (by repeat (first | assumption | exact Below.refl _ _ | apply bl_gw | apply bl_alloc | apply bl_drewN | apply bl_drew)))
  have HR := Lib.hid ((Blk.new w 24 #[.int .i64 0, .int .i64 0, .int .i64 0]).alloc (.cells #[.slice A n c, .int .i64 0, .int .u64 0] 85))
  clear hc
  go_enter Try.func42, Try.ntmps42
  go_wp2_with fail
  refine (lake_any _ _ _ _ (by omega) (HC.out.below ((show Below (((w.alloc (.cells #[.int .i64 0, .int .i64 0, .int .i64 0] 24)).alloc (.cells #[.slice A n c, .int .i64 0, .int .u64 0] 85))).heap.size (((w.alloc (.cells #[.int .i64 0, .int .i64 0, .int .i64 0] 24)).alloc (.cells #[.slice A n c, .int .i64 0, .int .u64 0] 85))) _ from (by repeat (first | assumption | exact Below.refl _ _ | apply bl_gw | apply bl_alloc | apply bl_drewN | apply bl_drew))).mono HC.out.le))).mono ?_
  rintro e w1 ⟨x1, x2, x3, rfl, r1, g1⟩
  have C1 := Lib.hid r1
  have B1 := Lib.hid (HB.out.trans (((show Below (((w.alloc (.cells #[.int .i64 0, .int .i64 0, .int .i64 0] 24)).alloc (.cells #[.slice A n c, .int .i64 0, .int .u64 0] 85))).heap.size (((w.alloc (.cells #[.int .i64 0, .int .i64 0, .int .i64 0] 24)).alloc (.cells #[.slice A n c, .int .i64 0, .int .u64 0] 85))) _ from (by repeat (first | assumption | exact Below.refl _ _ | apply bl_gw | apply bl_alloc | apply bl_drewN | apply bl_drew))).mono HB.out.size).trans (gb_toBelow g1 (by have := HB.out.size; simp at this ⊢; try omega) (by simp))))
  have g1' := g1
  clear r1 g1
  have R1 := Lib.hid (HR.out.grown g1' (by simp))
  clear g1'
  go_wp2_with fail
  refine (among_any [0, 5, 10, 20, 60, 61, -1] 7 rfl _ _ _ _ 3 _ (by omega) (C1.out.below ((show Below (w1).heap.size (w1) _ from (by repeat (first | assumption | exact Below.refl _ _ | apply bl_gw | apply bl_alloc | apply bl_drewN | apply bl_drew))).mono C1.out.le)) (by have := C1.out.le; simp at this ⊢; try omega) (by first | exact Blk.new _ _ _ | exact Blk.new_ _ _ _ _ (by simp) | exact (Blk.new _ _ _).drewN _ | exact (Blk.new _ _ _).gw _) (by omega) (by omega)).mono ?_
  rintro e w2 ⟨y, hmy, rfl, r1, g1⟩
  have C2 := Lib.hid r1
  have B2 := Lib.hid (B1.out.trans (((show Below (w1).heap.size (w1) _ from (by repeat (first | assumption | exact Below.refl _ _ | apply bl_gw | apply bl_alloc | apply bl_drewN | apply bl_drew))).mono B1.out.size).trans (gb_toBelow g1 (by have := B1.out.size; simp at this ⊢; try omega) (by simp))))
  have g1' := g1
  clear r1 g1
  have R2 := Lib.hid ((R1.out.alloc _).grown g1' (by simp))
  clear g1'
  go_wp2_with fail
  refine (pick_any _ _ _ 5 _ (by omega) (by omega) (C2.out.below ((show Below (w2).heap.size (w2) _ from (by repeat (first | assumption | exact Below.refl _ _ | apply bl_gw | apply bl_alloc | apply bl_drewN | apply bl_drew))).mono C2.out.le))).mono ?_
  rintro e w3 ⟨u3, hmu3, rfl, r1, g1⟩
  have C3 := Lib.hid r1
  have B3 := Lib.hid (B2.out.trans (((show Below (w2).heap.size (w2) _ from (by repeat (first | assumption | exact Below.refl _ _ | apply bl_gw | apply bl_alloc | apply bl_drewN | apply bl_drew))).mono B2.out.size).trans (gb_toBelow g1 (by have := B2.out.size; simp at this ⊢; try omega) (by simp))))
  have g1' := g1
  clear r1 g1
  have R3 := Lib.hid (R2.out.grown g1' (by simp))
  clear g1'
  go_wp2_with fail
  refine (pick_any _ _ _ 17 _ (by omega) (by omega) (C3.out.below ((show Below (w3).heap.size (w3) _ from (by repeat (first | assumption | exact Below.refl _ _ | apply bl_gw | apply bl_alloc | apply bl_drewN | apply bl_drew))).mono C3.out.le))).mono ?_
  rintro e w4 ⟨u4, hmu4, rfl, r1, g1⟩
  have C4 := Lib.hid r1
  have B4 := Lib.hid (B3.out.trans (((show Below (w3).heap.size (w3) _ from (by repeat (first | assumption | exact Below.refl _ _ | apply bl_gw | apply bl_alloc | apply bl_drewN | apply bl_drew))).mono B3.out.size).trans (gb_toBelow g1 (by have := B3.out.size; simp at this ⊢; try omega) (by simp))))
  have g1' := g1
  clear r1 g1
  have R4 := Lib.hid (R3.out.grown g1' (by simp))
  clear g1'
  have r0 : (w4).cell? ⟨w.heap.size, 0, none⟩ = some (.int .i64 0) := R4.out.cell 0
  have r1 : (w4).cell? ⟨w.heap.size, 1, none⟩ = some (.int .i64 0) := R4.out.cell 1
  have r2 : (w4).cell? ⟨w.heap.size, 2, none⟩ = some (.int .i64 0) := R4.out.cell 2
  have f0 := R4.out.frozen 0
  have f1 := R4.out.frozen 1
  have f2 := R4.out.frozen 2
  have hl1 := R4.out.lt
  go_wp2
  refine bodyPost_ret (v := .tuple #[.agg #[.int .i64 x1, .int .i64 x2, .int .i64 x3], .int .i64 y, _]) (by simp [results, Try.results42, go_sem, r0, r1, r2]; rfl) rfl ?_
  exact ⟨_, _, _, _, _, rfl, B4.out.trans (by repeat (first | assumption | exact Below.refl _ _ | apply Below.drew | apply below_drewN | (refine Below.setCell ?_ (by dsimp only; omega) _)))⟩
set_option maxRecDepth 4000 in
set_option maxHeartbeats 4000000 in
theorem drawSpilledInAll_any (A : Option Addr) (n c : Nat) (w : World) (hc : Bytes w A n) :
    Calls Try.prog 67 #[.slice A n c] w fun e w' => ∃ v l, ∃ x y z : Int, e = .returned (.tuple #[v, .agg #[.int .i64 x, .int .i64 y, .int .i64 z]]) ∧ List.length l ≤ 40 ∧ Own encBlow w' w.heap.size 62 v l ∧ Below w.heap.size w w' := by
  have hcn := Cur.new (hc.past (bl_alloc (Below.refl _ _) (.cells #[.int .i64 0, .int .i64 0, .int .i64 0] 24))) c 85
  rw [show (w.alloc (.cells #[.int .i64 0, .int .i64 0, .int .i64 0] 24)).heap.size = w.heap.size + 1 by simp] at hcn
  have HC := Lib.hid hcn
  clear hcn
  have HB := Lib.hid (show Below w.heap.size w ((w.alloc (.cells #[.int .i64 0, .int .i64 0, .int .i64 0] 24)).alloc (.cells #[.slice A n c, .int .i64 0, .int .u64 0] 85)) from (by repeat (first | assumption | exact Below.refl _ _ | apply bl_gw | apply bl_alloc | apply bl_drewN | apply bl_drew)))
  have HR := Lib.hid ((Blk.new w 24 #[.int .i64 0, .int .i64 0, .int .i64 0]).alloc (.cells #[.slice A n c, .int .i64 0, .int .u64 0] 85))
  clear hc
  go_enter Try.func67, Try.ntmps67
  go_wp2_with fail
  refine (blows_any _ _ _ _ (by omega) (HC.out.below ((show Below (((w.alloc (.cells #[.int .i64 0, .int .i64 0, .int .i64 0] 24)).alloc (.cells #[.slice A n c, .int .i64 0, .int .u64 0] 85))).heap.size (((w.alloc (.cells #[.int .i64 0, .int .i64 0, .int .i64 0] 24)).alloc (.cells #[.slice A n c, .int .i64 0, .int .u64 0] 85))) _ from (by repeat (first | assumption | exact Below.refl _ _ | apply bl_gw | apply bl_alloc | apply bl_drewN | apply bl_drew))).mono HC.out.le))).mono ?_
  rintro e w1 ⟨v1, l1, rfl, hll1, o1, r1, g1⟩
  have O1 := Lib.hid (o1.lower (Nat.le_trans HC.out.le (by simp)))
  clear o1
  have C1 := Lib.hid r1
  have B1 := Lib.hid (HB.out.trans (((show Below (((w.alloc (.cells #[.int .i64 0, .int .i64 0, .int .i64 0] 24)).alloc (.cells #[.slice A n c, .int .i64 0, .int .u64 0] 85))).heap.size (((w.alloc (.cells #[.int .i64 0, .int .i64 0, .int .i64 0] 24)).alloc (.cells #[.slice A n c, .int .i64 0, .int .u64 0] 85))) _ from (by repeat (first | assumption | exact Below.refl _ _ | apply bl_gw | apply bl_alloc | apply bl_drewN | apply bl_drew))).mono HB.out.size).trans (gb_toBelow g1 (by have := HB.out.size; simp at this ⊢; try omega) (by simp))))
  have g1' := g1
  clear r1 g1
  have R1 := Lib.hid (HR.out.grown g1' (by simp))
  clear g1'
  go_wp2_with fail
  refine (lake_any _ _ _ _ (by omega) (C1.out.below ((show Below (w1).heap.size (w1) _ from (by repeat (first | assumption | exact Below.refl _ _ | apply bl_gw | apply bl_alloc | apply bl_drewN | apply bl_drew))).mono C1.out.le))).mono ?_
  rintro e w2 ⟨x1, x2, x3, rfl, r1, g1⟩
  have C2 := Lib.hid r1
  have B2 := Lib.hid (B1.out.trans (((show Below (w1).heap.size (w1) _ from (by repeat (first | assumption | exact Below.refl _ _ | apply bl_gw | apply bl_alloc | apply bl_drewN | apply bl_drew))).mono B1.out.size).trans (gb_toBelow g1 (by have := B1.out.size; simp at this ⊢; try omega) (by simp))))
  have g1' := g1
  clear r1 g1
  have R2 := Lib.hid (R1.out.grown g1' (by simp))
  have O2 := Lib.hid (O1.out.drawn g1' (by simp))
  clear g1'
  have hne : v1.ownBlock ≠ some w.heap.size := fun h => by have := O2.out.row _ h; omega
  have r0 : (w2).cell? ⟨w.heap.size, 0, none⟩ = some (.int .i64 0) := R2.out.cell 0
  have r1 : (w2).cell? ⟨w.heap.size, 1, none⟩ = some (.int .i64 0) := R2.out.cell 1
  have r2 : (w2).cell? ⟨w.heap.size, 2, none⟩ = some (.int .i64 0) := R2.out.cell 2
  have f0 := R2.out.frozen 0
  have f1 := R2.out.frozen 1
  have f2 := R2.out.frozen 2
  have hl1 := R2.out.lt
  go_wp2
  refine bodyPost_ret (v := .tuple #[v1, .agg #[.int .i64 x1, .int .i64 x2, .int .i64 x3]]) (by simp [results, Try.results67, go_sem, r0, r1, r2]) rfl ?_
  exact ⟨_, _, _, _, _, rfl, hll1, ((((O2.out.afar hne _).afar hne _).afar hne _).lower (by omega)), B2.out.trans (by repeat (first | assumption | exact Below.refl _ _ | apply Below.drew | apply below_drewN | (refine Below.setCell ?_ (by dsimp only; omega) _)))⟩
end Go.Proofs.Ytopdbacgceoddaa
