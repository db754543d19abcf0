/- The draws of the law on contracts. -/
import Derived.Test.YtcljfdpjlkaagaaDrawR
namespace Go.Proofs.Ytcljfdpjlkaagaa
open Go.RowKit
set_option maxRecDepth 4000 in
set_option maxHeartbeats 4000000 in
theorem drawServeAll_any (A : Option Addr) (n c : Nat) (w : World) (hc : Bytes w A n) :
    Calls Try.prog 45 #[.slice A n c] w fun e w' => ∃ sv lv s l, e = .returned (.tuple #[sv, lv]) ∧ List.length s ≤ 4 ∧ List.length l ≤ 11 ∧ Own encInt w' w.heap.size 3 sv s ∧ Own encContract w' w.heap.size 25 lv l ∧ Below w.heap.size w w' := by
  have HC := Lib.hid (Cur.new hc c 82)
  have HB := Lib.hid (show Below w.heap.size w (w.alloc (.cells #[.slice A n c, .int .i64 0, .int .u64 0] 82)) from (by repeat (first | assumption | exact Below.refl _ _ | apply bl_gw | apply bl_alloc | apply bl_drewN | apply bl_drew)))
  have HY := Lib.hid hc
  clear hc
  go_enter Try.func45, Try.ntmps45
  go_wp2_with fail
  refine (stock18_any _ _ _ _ (by omega) (HC.out.below ((show Below ((w.alloc (.cells #[.slice A n c, .int .i64 0, .int .u64 0] 82))).heap.size ((w.alloc (.cells #[.slice A n c, .int .i64 0, .int .u64 0] 82))) _ from (by repeat (first | assumption | exact Below.refl _ _ | apply bl_gw | apply bl_alloc | apply bl_drewN | apply bl_drew))).mono HC.out.le))).mono ?_
  rintro e w1 ⟨v1, l1, rfl, hll1, o1, r1, g1⟩
  have O1 := Lib.hid (o1.lower (Nat.le_trans HC.out.le (by simp)))
  clear o1
  have C1 := Lib.hid r1
  have B1 := Lib.hid (HB.out.trans (((show Below ((w.alloc (.cells #[.slice A n c, .int .i64 0, .int .u64 0] 82))).heap.size ((w.alloc (.cells #[.slice A n c, .int .i64 0, .int .u64 0] 82))) _ from (by repeat (first | assumption | exact Below.refl _ _ | apply bl_gw | apply bl_alloc | apply bl_drewN | apply bl_drew))).mono HB.out.size).trans (gb_toBelow g1 (by have := HB.out.size; simp at this ⊢; try omega) (by simp))))
  have g1' := g1
  clear r1 g1
  clear g1'
  go_wp2_with fail
  refine (contracts_any _ _ _ _ (by omega) (C1.out.below ((show Below (w1).heap.size (w1) _ from (by repeat (first | assumption | exact Below.refl _ _ | apply bl_gw | apply bl_alloc | apply bl_drewN | apply bl_drew))).mono C1.out.le))).mono ?_
  rintro e w2 ⟨v2, l2, rfl, hll2, o1, r1, g1⟩
  have O2 := Lib.hid (o1.lower (Nat.le_trans C1.out.le (by simp)))
  clear o1
  have C2 := Lib.hid r1
  have B2 := Lib.hid (B1.out.trans (((show Below (w1).heap.size (w1) _ from (by repeat (first | assumption | exact Below.refl _ _ | apply bl_gw | apply bl_alloc | apply bl_drewN | apply bl_drew))).mono B1.out.size).trans (gb_toBelow g1 (by have := B1.out.size; simp at this ⊢; try omega) (by simp))))
  have g1' := g1
  clear r1 g1
  have O1' := Lib.hid (O1.out.drawn g1' (by omega))
  clear g1'
  go_wp2
  go_ret2
  exact ⟨_, _, _, _, rfl, hll1, hll2, O1'.out.lower (by omega), O2.out.lower (by omega), B2.out⟩
set_option maxRecDepth 4000 in
set_option maxHeartbeats 8000000 in
theorem drawServeOne_any (A : Option Addr) (n c : Nat) (w : World) (hc : Bytes w A n) :
    Calls Try.prog 48 #[.slice A n c] w fun e w' => ∃ sv s, ∃ a0 a1 a2 a3 a4 a5 a6 : Int, e = .returned (.tuple #[sv, .agg #[.int .i64 a0, .int .i64 a1, .int .i64 a2, .int .i64 a3, .int .i64 a4, .int .i64 a5, .int .i64 a6]]) ∧ List.length s ≤ 4 ∧ Own encInt w' w.heap.size 3 sv s ∧ Below w.heap.size w w' := by
  have hcn := Cur.new (hc.past (bl_alloc (Below.refl _ _) (.cells #[.int .i64 0, .int .i64 0, .int .i64 0, .int .i64 0, .int .i64 0, .int .i64 0, .int .i64 0] 25))) c 82
  rw [show (w.alloc (.cells #[.int .i64 0, .int .i64 0, .int .i64 0, .int .i64 0, .int .i64 0, .int .i64 0, .int .i64 0] 25)).heap.size = w.heap.size + 1 by simp] at hcn
  have HC := Lib.hid hcn
  clear hcn
  have HB := Lib.hid (show Below w.heap.size w ((w.alloc (.cells #[.int .i64 0, .int .i64 0, .int .i64 0, .int .i64 0, .int .i64 0, .int .i64 0, .int .i64 0] 25)).alloc (.cells #[.slice A n c, .int .i64 0, .int .u64 0] 82)) from (by repeat (first | assumption | exact Below.refl _ _ | apply bl_gw | apply bl_alloc | apply bl_drewN | apply bl_drew)))
  have HR := Lib.hid ((Blk.new w 25 #[.int .i64 0, .int .i64 0, .int .i64 0, .int .i64 0, .int .i64 0, .int .i64 0, .int .i64 0]).alloc (.cells #[.slice A n c, .int .i64 0, .int .u64 0] 82))
  clear hc
  go_enter Try.func48, Try.ntmps48
  go_wp2_with fail
  refine (stock18_any _ _ _ _ (by omega) (HC.out.below ((show Below ((w.alloc (.cells #[.int .i64 0, .int .i64 0, .int .i64 0, .int .i64 0, .int .i64 0, .int .i64 0, .int .i64 0] 25)).alloc (.cells #[.slice A n c, .int .i64 0, .int .u64 0] 82)).heap.size ((w.alloc (.cells #[.int .i64 0, .int .i64 0, .int .i64 0, .int .i64 0, .int .i64 0, .int .i64 0, .int .i64 0] 25)).alloc (.cells #[.slice A n c, .int .i64 0, .int .u64 0] 82)) _ from (by repeat (first | assumption | exact Below.refl _ _ | apply bl_gw | apply bl_alloc | apply bl_drewN | apply bl_drew))).mono HC.out.le))).mono ?_
  rintro e w1 ⟨v1, l1, rfl, hll1, o1, r1, g1⟩
  have O1 := Lib.hid (o1.lower (Nat.le_trans HC.out.le (by simp)))
  clear o1
  have C1 := Lib.hid r1
  have B1 := Lib.hid (HB.out.trans (((show Below ((w.alloc (.cells #[.int .i64 0, .int .i64 0, .int .i64 0, .int .i64 0, .int .i64 0, .int .i64 0, .int .i64 0] 25)).alloc (.cells #[.slice A n c, .int .i64 0, .int .u64 0] 82)).heap.size ((w.alloc (.cells #[.int .i64 0, .int .i64 0, .int .i64 0, .int .i64 0, .int .i64 0, .int .i64 0, .int .i64 0] 25)).alloc (.cells #[.slice A n c, .int .i64 0, .int .u64 0] 82)) _ from (by repeat (first | assumption | exact Below.refl _ _ | apply bl_gw | apply bl_alloc | apply bl_drewN | apply bl_drew))).mono HB.out.size).trans (gb_toBelow g1 (by have := HB.out.size; simp at this ⊢; try omega) (by simp))))
  have g1' := g1
  clear r1 g1
  have K1 := Lib.hid (HR.out.grown g1' (by simp))
  clear g1'
  go_wp2_with fail
  refine (contract_any _ _ _ _ _ (by omega) (C1.out.below ((show Below w1.heap.size w1 _ from (by repeat (first | assumption | exact Below.refl _ _ | apply bl_gw | apply bl_alloc | apply bl_drewN | apply bl_drew))).mono C1.out.le))).mono ?_
  rintro e w2 ⟨a0, a1, a2, a3, a4, a5, a6, rfl, r1, g1⟩
  have C2 := Lib.hid r1
  have B2 := Lib.hid (B1.out.trans (((show Below (w1).heap.size (w1) _ from (by repeat (first | assumption | exact Below.refl _ _ | apply bl_gw | apply bl_alloc | apply bl_drewN | apply bl_drew))).mono B1.out.size).trans (gb_toBelow g1 (by have := B1.out.size; simp at this ⊢; try omega) (by simp))))
  have g1' := g1
  clear r1 g1
  have O1' := Lib.hid (O1.out.drawn g1' (by simp))
  have K2 := Lib.hid (K1.out.grown g1' (by simp))
  clear g1' K1 O1 HR HC HB C1 B1
  have hne : v1.ownBlock ≠ some w.heap.size := fun h => by have := O1'.out.row _ h; omega
  have r0 : w2.cell? ⟨w.heap.size, 0, none⟩ = some (.int .i64 0) := K2.out.cell 0
  have r1 : w2.cell? ⟨w.heap.size, 1, none⟩ = some (.int .i64 0) := K2.out.cell 1
  have r2 : w2.cell? ⟨w.heap.size, 2, none⟩ = some (.int .i64 0) := K2.out.cell 2
  have r3 : w2.cell? ⟨w.heap.size, 3, none⟩ = some (.int .i64 0) := K2.out.cell 3
  have r4 : w2.cell? ⟨w.heap.size, 4, none⟩ = some (.int .i64 0) := K2.out.cell 4
  have r5 : w2.cell? ⟨w.heap.size, 5, none⟩ = some (.int .i64 0) := K2.out.cell 5
  have r6 : w2.cell? ⟨w.heap.size, 6, none⟩ = some (.int .i64 0) := K2.out.cell 6
  have f0 := K2.out.frozen 0
  have f1 := K2.out.frozen 1
  have f2 := K2.out.frozen 2
  have f3 := K2.out.frozen 3
  have f4 := K2.out.frozen 4
  have f5 := K2.out.frozen 5
  have f6 := K2.out.frozen 6
  have hl1' := K2.out.lt
  go_wp2
  have KE := Lib.hid (show Blk ((((((((w2).setCell ⟨w.heap.size, 0, none⟩ (.int .i64 a0)).setCell ⟨w.heap.size, 1, none⟩ (.int .i64 a1)).setCell ⟨w.heap.size, 2, none⟩ (.int .i64 a2)).setCell ⟨w.heap.size, 3, none⟩ (.int .i64 a3)).setCell ⟨w.heap.size, 4, none⟩ (.int .i64 a4)).setCell ⟨w.heap.size, 5, none⟩ (.int .i64 a5)).setCell ⟨w.heap.size, 6, none⟩ (.int .i64 a6)) w.heap.size 25 #[.int .i64 a0, .int .i64 a1, .int .i64 a2, .int .i64 a3, .int .i64 a4, .int .i64 a5, .int .i64 a6] from (((((((K2.out).set_ 0 (.int .i64 a0)).set_ 1 (.int .i64 a1)).set_ 2 (.int .i64 a2)).set_ 3 (.int .i64 a3)).set_ 4 (.int .i64 a4)).set_ 5 (.int .i64 a5)).set_ 6 (.int .i64 a6))
  have BE := Lib.hid (show Below w.heap.size w2 ((((((((w2).setCell ⟨w.heap.size, 0, none⟩ (.int .i64 a0)).setCell ⟨w.heap.size, 1, none⟩ (.int .i64 a1)).setCell ⟨w.heap.size, 2, none⟩ (.int .i64 a2)).setCell ⟨w.heap.size, 3, none⟩ (.int .i64 a3)).setCell ⟨w.heap.size, 4, none⟩ (.int .i64 a4)).setCell ⟨w.heap.size, 5, none⟩ (.int .i64 a5)).setCell ⟨w.heap.size, 6, none⟩ (.int .i64 a6)) from (((((((Below.refl w.heap.size w2).setCell (p := ⟨w.heap.size, 0, none⟩) (Nat.le_refl _) (.int .i64 a0)).setCell (p := ⟨w.heap.size, 1, none⟩) (Nat.le_refl _) (.int .i64 a1)).setCell (p := ⟨w.heap.size, 2, none⟩) (Nat.le_refl _) (.int .i64 a2)).setCell (p := ⟨w.heap.size, 3, none⟩) (Nat.le_refl _) (.int .i64 a3)).setCell (p := ⟨w.heap.size, 4, none⟩) (Nat.le_refl _) (.int .i64 a4)).setCell (p := ⟨w.heap.size, 5, none⟩) (Nat.le_refl _) (.int .i64 a5)).setCell (p := ⟨w.heap.size, 6, none⟩) (Nat.le_refl _) (.int .i64 a6))
  have OE := Lib.hid (show Own encInt ((((((((w2).setCell ⟨w.heap.size, 0, none⟩ (.int .i64 a0)).setCell ⟨w.heap.size, 1, none⟩ (.int .i64 a1)).setCell ⟨w.heap.size, 2, none⟩ (.int .i64 a2)).setCell ⟨w.heap.size, 3, none⟩ (.int .i64 a3)).setCell ⟨w.heap.size, 4, none⟩ (.int .i64 a4)).setCell ⟨w.heap.size, 5, none⟩ (.int .i64 a5)).setCell ⟨w.heap.size, 6, none⟩ (.int .i64 a6)) _ 3 v1 l1 from (((((((O1'.out).afar hne (i := 0) (.int .i64 a0)).afar hne (i := 1) (.int .i64 a1)).afar hne (i := 2) (.int .i64 a2)).afar hne (i := 3) (.int .i64 a3)).afar hne (i := 4) (.int .i64 a4)).afar hne (i := 5) (.int .i64 a5)).afar hne (i := 6) (.int .i64 a6))
  clear r0 r1 r2 r3 r4 r5 r6 f0 f1 f2 f3 f4 f5 f6
  generalize ((((((((w2).setCell ⟨w.heap.size, 0, none⟩ (.int .i64 a0)).setCell ⟨w.heap.size, 1, none⟩ (.int .i64 a1)).setCell ⟨w.heap.size, 2, none⟩ (.int .i64 a2)).setCell ⟨w.heap.size, 3, none⟩ (.int .i64 a3)).setCell ⟨w.heap.size, 4, none⟩ (.int .i64 a4)).setCell ⟨w.heap.size, 5, none⟩ (.int .i64 a5)).setCell ⟨w.heap.size, 6, none⟩ (.int .i64 a6)) = wE at KE BE OE ⊢
  have r0 : wE.cell? ⟨w.heap.size, 0, none⟩ = some (.int .i64 a0) := KE.out.cell 0
  have r1 : wE.cell? ⟨w.heap.size, 1, none⟩ = some (.int .i64 a1) := KE.out.cell 1
  have r2 : wE.cell? ⟨w.heap.size, 2, none⟩ = some (.int .i64 a2) := KE.out.cell 2
  have r3 : wE.cell? ⟨w.heap.size, 3, none⟩ = some (.int .i64 a3) := KE.out.cell 3
  have r4 : wE.cell? ⟨w.heap.size, 4, none⟩ = some (.int .i64 a4) := KE.out.cell 4
  have r5 : wE.cell? ⟨w.heap.size, 5, none⟩ = some (.int .i64 a5) := KE.out.cell 5
  have r6 : wE.cell? ⟨w.heap.size, 6, none⟩ = some (.int .i64 a6) := KE.out.cell 6
  refine bodyPost_ret (v := .tuple #[v1, .agg #[.int .i64 a0, .int .i64 a1, .int .i64 a2, .int .i64 a3, .int .i64 a4, .int .i64 a5, .int .i64 a6]]) (by simp [results, Try.results48, go_sem, r0, r1, r2, r3, r4, r5, r6]) rfl ?_
  exact ⟨_, _, _, _, _, _, _, _, _, rfl, hll1, OE.out.lower (by omega), B2.out.trans BE.out⟩
end Go.Proofs.Ytcljfdpjlkaagaa
