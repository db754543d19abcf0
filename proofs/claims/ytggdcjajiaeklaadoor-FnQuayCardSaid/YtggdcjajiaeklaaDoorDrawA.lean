/- The draw of a ship: some ship. -/
import Derived.Test.YtggdcjajiaeklaaDoorDraw
import Derived.Test.YtggdcjajiaeklaaDoorShipA
namespace Go.Proofs.YtggdcjajiaeklaaDoor
open Go.RowKit
set_option maxRecDepth 8000 in
set_option maxHeartbeats 16000000 in
theorem ship_any (id come : Int) (B p k : Nat) (w : World) (hk : k ≤ 1000) (h : Cur w B p k) :
    Calls Tryd.prog 59 #[.pointer (some ⟨p, 0, none⟩), .int .i64 id, .int .i64 come] w fun e w' => ∃ a0 a1 a2 a3 a4 a5 : Int, e = .returned (.agg #[.int .i64 a0, .int .i64 a1, .int .i64 a2, .int .i64 a3, .int .i64 a4, .int .i64 a5]) ∧ Cur w' B p (k + 20) ∧ w.grownBy w' (some p) := by
  have HC := Lib.hid h
  have HG := Lib.hid (World.grownBy.refl w (some p))
  have hpB := h.lt
  have hle := h.le
  clear h
  go_enter Tryd.func59, Tryd.ntmps59
  go_wp2_with fail
  refine (among_any [1, 2, 5, 9, 30] 5 rfl _ _ _ _ 3 _ (by omega) (HC.out.below ((show Below (w).heap.size (w) _ from (by repeat (first | assumption | exact Below.refl _ _ | apply bl_gw | apply bl_alloc | apply bl_drewN | apply bl_drew))).mono HC.out.le)) (by have := HC.out.le; simp; omega) (by first | exact Blk.new _ _ _ | exact Blk.new_ _ _ _ _ (by simp) | exact (Blk.new _ _ _).drewN _ | exact (Blk.new _ _ _).gw _) (by omega) (by omega)).mono ?_
  rintro e w1 ⟨x1, hmx1, rfl, r1, g1⟩
  have C1 := Lib.hid r1
  have G1 := Lib.hid ((gb_below HG.out ((show Below (w).heap.size (w) _ from (by repeat (first | assumption | exact Below.refl _ _ | apply bl_gw | apply bl_alloc | apply bl_drewN | apply bl_drew))).mono HG.out.size)).trans g1)
  have g1' := g1
  clear r1 g1
  have K1 := Lib.hid ((((Blk.new w 26 #[.int .i64 0, .int .i64 0, .int .i64 0, .int .i64 0, .int .i64 0, .int .i64 0]).alloc _).grown g1' (by omega)))
  clear g1' hmx1
  obtain ⟨lv, hlv⟩ : ∃ z, IntKind.i64.wrap (come + x1) = z := ⟨_, rfl⟩
  go_wp2_with fail
  refine (among_any [10, 30, 45, 60, 90] 5 rfl _ _ _ _ 3 _ (by omega) (C1.out.below ((show Below (w1).heap.size (w1) _ from (by repeat (first | assumption | exact Below.refl _ _ | apply bl_gw | apply bl_alloc | apply bl_drewN | apply bl_drew))).mono C1.out.le)) (by have := C1.out.le; simp; omega) (by first | exact Blk.new _ _ _ | exact Blk.new_ _ _ _ _ (by simp) | exact (Blk.new _ _ _).drewN _ | exact (Blk.new _ _ _).gw _) (by omega) (by omega)).mono ?_
  rintro e w2 ⟨x2, hmx2, rfl, r1, g1⟩
  have C2 := Lib.hid r1
  have G2 := Lib.hid ((gb_below G1.out ((show Below (w1).heap.size (w1) _ from (by repeat (first | assumption | exact Below.refl _ _ | apply bl_gw | apply bl_alloc | apply bl_drewN | apply bl_drew))).mono G1.out.size)).trans g1)
  have g1' := g1
  clear r1 g1
  have K2 := Lib.hid ((K1.out.alloc _).grown g1' (by omega))
  clear g1' hmx2
  go_wp2_with fail
  refine (among_any [1, 300, 500, 900, 3000] 5 rfl _ _ _ _ 3 _ (by omega) (C2.out.below ((show Below (w2).heap.size (w2) _ from (by repeat (first | assumption | exact Below.refl _ _ | apply bl_gw | apply bl_alloc | apply bl_drewN | apply bl_drew))).mono C2.out.le)) (by have := C2.out.le; simp; omega) (by first | exact Blk.new _ _ _ | exact Blk.new_ _ _ _ _ (by simp) | exact (Blk.new _ _ _).drewN _ | exact (Blk.new _ _ _).gw _) (by omega) (by omega)).mono ?_
  rintro e w3 ⟨x3, hmx3, rfl, r1, g1⟩
  have C3 := Lib.hid r1
  have G3 := Lib.hid ((gb_below G2.out ((show Below (w2).heap.size (w2) _ from (by repeat (first | assumption | exact Below.refl _ _ | apply bl_gw | apply bl_alloc | apply bl_drewN | apply bl_drew))).mono G2.out.size)).trans g1)
  have g1' := g1
  clear r1 g1
  have K3 := Lib.hid ((K2.out.alloc _).grown g1' (by omega))
  have hb3 : 0 ≤ x3 ∧ x3 ≤ 3000 := by simp at hmx3; omega
  have e3 : IntKind.i64.wrap (x3 + 1) = x3 + 1 := IntWalk.i64_in _ (by omega)
  have hN : w.heap.size < w3.heap.size := by have := K3.out.lt; omega
  clear g1' hmx3
  go_wp2_with fail
  refine (among_any [0, 0, 0, _, x3] 5 rfl _ _ _ _ 3 _ (by omega) (C3.out.below ((show Below (w3).heap.size (w3) _ from (by repeat (first | assumption | exact Below.refl _ _ | apply bl_gw | apply bl_alloc | apply bl_drewN | apply bl_drew))).mono C3.out.le)) (by have := C3.out.le; simp; omega) (by first | exact Blk.new _ _ _ | exact Blk.new_ _ _ _ _ (by simp) | exact (Blk.new _ _ _).drewN _ | exact (Blk.new _ _ _).gw _) (by omega) (by omega)).mono ?_
  rintro e w4 ⟨x4, hmx4, rfl, r1, g1⟩
  have C4 := Lib.hid r1
  have G4 := Lib.hid ((gb_below G3.out ((show Below (w3).heap.size (w3) _ from (by repeat (first | assumption | exact Below.refl _ _ | apply bl_gw | apply bl_alloc | apply bl_drewN | apply bl_drew))).mono G3.out.size)).trans g1)
  have g1' := g1
  clear r1 g1
  have K4 := Lib.hid (((K3.out.alloc _).alloc _).grown g1' (by omega))
  have Q4 := Lib.hid ((((by first | exact Blk.new _ _ _ | exact Blk.new_ _ _ _ _ (by simp) | exact (Blk.new _ _ _).drewN _ | exact (Blk.new _ _ _).gw _) : Blk (w3.alloc (.cells #[.int .i64 id, .int .i64 come, .int .i64 lv, .int .i64 x2, .int .i64 x3, .int .i64 0] 26)) w3.heap.size 26 #[.int .i64 id, .int .i64 come, .int .i64 lv, .int .i64 x2, .int .i64 x3, .int .i64 0]).alloc _).grown g1' (by omega))
  clear g1' hmx4
  have hs4 := Q4.out.lt
  have q5 : w4.cell? ⟨w3.heap.size, 5, none⟩ = some (.int .i64 0) := Q4.out.cell 5
  have z5 := Q4.out.frozen 5
  have BS := Lib.hid ((Below.refl w.heap.size w4).setCell (p := ⟨w3.heap.size, 5, none⟩) (Nat.le_of_lt hN) (.int .i64 x4))
  have C4' := Lib.hid (C4.out.below (BS.out.mono hle))
  have G4' := Lib.hid (gb_below G4.out BS.out)
  have K4' := Lib.hid (K4.out.far (p := ⟨w3.heap.size, 5, none⟩) (by show w.heap.size ≠ w3.heap.size; omega) (.int .i64 x4))
  have Q4' := Lib.hid (show Blk (w4.setCell ⟨w3.heap.size, 5, none⟩ (.int .i64 x4)) w3.heap.size 26 #[.int .i64 id, .int .i64 come, .int .i64 lv, .int .i64 x2, .int .i64 x3, .int .i64 x4] from Q4.out.set_ 5 (.int .i64 x4))
  go_wp2_with fail
  refine (pick_any _ _ _ 100 _ (by omega) (by omega) (C4'.out.below ((show Below (w4.setCell ⟨w3.heap.size, 5, none⟩ (.int .i64 x4)).heap.size (w4.setCell ⟨w3.heap.size, 5, none⟩ (.int .i64 x4)) _ from (by repeat (first | assumption | exact Below.refl _ _ | apply bl_gw | apply bl_alloc | apply bl_drewN | apply bl_drew))).mono C4'.out.le))).mono ?_
  rintro e w7 ⟨x7, hmx7, rfl, r1, g1⟩
  have C7 := Lib.hid r1
  have G7 := Lib.hid ((gb_below G4'.out ((show Below (w4.setCell ⟨w3.heap.size, 5, none⟩ (.int .i64 x4)).heap.size (w4.setCell ⟨w3.heap.size, 5, none⟩ (.int .i64 x4)) _ from (by repeat (first | assumption | exact Below.refl _ _ | apply bl_gw | apply bl_alloc | apply bl_drewN | apply bl_drew))).mono G4'.out.size)).trans g1)
  have g1' := g1
  clear r1 g1
  have K7 := Lib.hid (K4'.out.grown g1' (by omega))
  have Q7 := Lib.hid (Q4'.out.grown g1' (by omega))
  clear g1' q5 z5 hs4 K1 K2 K3 K4 K4' Q4 Q4' C1 C2 C3 C4 C4' G1 G2 G3 G4 G4' HC HG BS
  rcases (show x7 = 0 ∨ x7 = 1 ∨ x7 = 2 ∨ x7 = 3 ∨ x7 = 4 ∨ x7 = 5 ∨ 5 < x7 by omega) with h | h | h | h | h | h | h
  · have fk : (x7 : Int) = 0 := by omega
    rw [fk]
    go_wp2_with fail
    refine (among_any [0, 99, 100] 3 rfl _ _ _ _ 3 _ (by omega) (C7.out.below ((show Below (w7).heap.size (w7) _ from (by repeat (first | assumption | exact Below.refl _ _ | apply bl_gw | apply bl_alloc | apply bl_drewN | apply bl_drew))).mono C7.out.le)) (by have := C7.out.le; simp; omega) (by first | exact Blk.new _ _ _ | exact Blk.new_ _ _ _ _ (by simp) | exact (Blk.new _ _ _).drewN _ | exact (Blk.new _ _ _).gw _) (by omega) (by omega)).mono ?_
    rintro e w8 ⟨y, hmy, rfl, r1, g1⟩
    have C8 := Lib.hid r1
    have G8 := Lib.hid ((gb_below G7.out ((show Below (w7).heap.size (w7) _ from (by repeat (first | assumption | exact Below.refl _ _ | apply bl_gw | apply bl_alloc | apply bl_drewN | apply bl_drew))).mono G7.out.size)).trans g1)
    have g1' := g1
    clear r1 g1
    have K8 := Lib.hid ((K7.out.alloc _).grown g1' (by omega))
    have Q8 := Lib.hid ((Q7.out.alloc _).grown g1' (by omega))
    clear g1' hmy
    have r0 : (w8).cell? ⟨w.heap.size, 0, none⟩ = some (.int .i64 0) := K8.out.cell 0
    have r1 : (w8).cell? ⟨w.heap.size, 1, none⟩ = some (.int .i64 0) := K8.out.cell 1
    have r2 : (w8).cell? ⟨w.heap.size, 2, none⟩ = some (.int .i64 0) := K8.out.cell 2
    have r3 : (w8).cell? ⟨w.heap.size, 3, none⟩ = some (.int .i64 0) := K8.out.cell 3
    have r4 : (w8).cell? ⟨w.heap.size, 4, none⟩ = some (.int .i64 0) := K8.out.cell 4
    have r5 : (w8).cell? ⟨w.heap.size, 5, none⟩ = some (.int .i64 0) := K8.out.cell 5
    have f0 := K8.out.frozen 0
    have f1 := K8.out.frozen 1
    have f2 := K8.out.frozen 2
    have f3 := K8.out.frozen 3
    have f4 := K8.out.frozen 4
    have f5 := K8.out.frozen 5
    have e0 : (w8).cell? ⟨w3.heap.size, 0, none⟩ = some (.int .i64 id) := Q8.out.cell 0
    have e1 : (w8).cell? ⟨w3.heap.size, 1, none⟩ = some (.int .i64 come) := Q8.out.cell 1
    have e2 : (w8).cell? ⟨w3.heap.size, 2, none⟩ = some (.int .i64 lv) := Q8.out.cell 2
    have e3 : (w8).cell? ⟨w3.heap.size, 3, none⟩ = some (.int .i64 x2) := Q8.out.cell 3
    have e4 : (w8).cell? ⟨w3.heap.size, 4, none⟩ = some (.int .i64 x3) := Q8.out.cell 4
    have e5 : (w8).cell? ⟨w3.heap.size, 5, none⟩ = some (.int .i64 x4) := Q8.out.cell 5
    have h0 := Q8.out.frozen 0
    have h1 := Q8.out.frozen 1
    have h2 := Q8.out.frozen 2
    have h3 := Q8.out.frozen 3
    have h4 := Q8.out.frozen 4
    have h5 := Q8.out.frozen 5
    have hl1 := K8.out.lt
    have hl2 := Q8.out.lt
    have hne1 : (w3.heap.size : Nat) ≠ w.heap.size := by omega
    have hgk : w.heap.size ≤ w3.heap.size := by omega
    go_wp2
    have KE := Lib.hid (show Blk (((((((w8.setCell ⟨w3.heap.size, 0, none⟩ (.int .i64 y)).setCell ⟨w.heap.size, 0, none⟩ (.int .i64 y)).setCell ⟨w.heap.size, 1, none⟩ (.int .i64 come)).setCell ⟨w.heap.size, 2, none⟩ (.int .i64 lv)).setCell ⟨w.heap.size, 3, none⟩ (.int .i64 x2)).setCell ⟨w.heap.size, 4, none⟩ (.int .i64 x3)).setCell ⟨w.heap.size, 5, none⟩ (.int .i64 x4)) w.heap.size 26 #[.int .i64 y, .int .i64 come, .int .i64 lv, .int .i64 x2, .int .i64 x3, .int .i64 x4] from ((((((K8.out.far (p := ⟨w3.heap.size, 0, none⟩) (fun h => hne1 h.symm) (.int .i64 y)).set_ 0 (.int .i64 y)).set_ 1 (.int .i64 come)).set_ 2 (.int .i64 lv)).set_ 3 (.int .i64 x2)).set_ 4 (.int .i64 x3)).set_ 5 (.int .i64 x4))
    have BE := Lib.hid (show Below w.heap.size (w8) (((((((w8.setCell ⟨w3.heap.size, 0, none⟩ (.int .i64 y)).setCell ⟨w.heap.size, 0, none⟩ (.int .i64 y)).setCell ⟨w.heap.size, 1, none⟩ (.int .i64 come)).setCell ⟨w.heap.size, 2, none⟩ (.int .i64 lv)).setCell ⟨w.heap.size, 3, none⟩ (.int .i64 x2)).setCell ⟨w.heap.size, 4, none⟩ (.int .i64 x3)).setCell ⟨w.heap.size, 5, none⟩ (.int .i64 x4)) from (((((((Below.refl w.heap.size w8).setCell (p := ⟨w3.heap.size, 0, none⟩) hgk (.int .i64 y)).setCell (p := ⟨w.heap.size, 0, none⟩) (Nat.le_refl _) (.int .i64 y)).setCell (p := ⟨w.heap.size, 1, none⟩) (Nat.le_refl _) (.int .i64 come)).setCell (p := ⟨w.heap.size, 2, none⟩) (Nat.le_refl _) (.int .i64 lv)).setCell (p := ⟨w.heap.size, 3, none⟩) (Nat.le_refl _) (.int .i64 x2)).setCell (p := ⟨w.heap.size, 4, none⟩) (Nat.le_refl _) (.int .i64 x3)).setCell (p := ⟨w.heap.size, 5, none⟩) (Nat.le_refl _) (.int .i64 x4))
    clear r0 f0 e0 h0 r1 f1 e1 h1 r2 f2 e2 h2 r3 f3 e3 h3 r4 f4 e4 h4 r5 f5 e5 h5
    generalize (((((((w8.setCell ⟨w3.heap.size, 0, none⟩ (.int .i64 y)).setCell ⟨w.heap.size, 0, none⟩ (.int .i64 y)).setCell ⟨w.heap.size, 1, none⟩ (.int .i64 come)).setCell ⟨w.heap.size, 2, none⟩ (.int .i64 lv)).setCell ⟨w.heap.size, 3, none⟩ (.int .i64 x2)).setCell ⟨w.heap.size, 4, none⟩ (.int .i64 x3)).setCell ⟨w.heap.size, 5, none⟩ (.int .i64 x4)) = wE at KE BE ⊢
    have r0 : wE.cell? ⟨w.heap.size, 0, none⟩ = some (.int .i64 y) := KE.out.cell 0
    have r1 : wE.cell? ⟨w.heap.size, 1, none⟩ = some (.int .i64 come) := KE.out.cell 1
    have r2 : wE.cell? ⟨w.heap.size, 2, none⟩ = some (.int .i64 lv) := KE.out.cell 2
    have r3 : wE.cell? ⟨w.heap.size, 3, none⟩ = some (.int .i64 x2) := KE.out.cell 3
    have r4 : wE.cell? ⟨w.heap.size, 4, none⟩ = some (.int .i64 x3) := KE.out.cell 4
    have r5 : wE.cell? ⟨w.heap.size, 5, none⟩ = some (.int .i64 x4) := KE.out.cell 5
    refine bodyPost_ret (v := .agg #[.int .i64 y, .int .i64 come, .int .i64 lv, .int .i64 x2, .int .i64 x3, .int .i64 x4]) (by simp [results, Tryd.results59, go_sem, r0, r1, r2, r3, r4, r5]) rfl ?_
    exact ⟨_, _, _, _, _, _, rfl, draw_end C8.out G8.out hle (by omega) BE.out⟩
  · have fk : (x7 : Int) = 1 := by omega
    rw [fk]
    have m2 : w7.cell? ⟨w3.heap.size, 2, none⟩ = some (.int .i64 lv) := Q7.out.cell 2
    go_wp2_with fail
    refine (among_any [-1, lv] 2 rfl _ _ _ _ 3 _ (by omega) (C7.out.below ((show Below (w7).heap.size (w7) _ from (by repeat (first | assumption | exact Below.refl _ _ | apply bl_gw | apply bl_alloc | apply bl_drewN | apply bl_drew))).mono C7.out.le)) (by have := C7.out.le; simp; omega) (by first | exact Blk.new _ _ _ | exact Blk.new_ _ _ _ _ (by simp) | exact (Blk.new _ _ _).drewN _ | exact (Blk.new _ _ _).gw _) (by omega) (by omega)).mono ?_
    rintro e w8 ⟨y, hmy, rfl, r1, g1⟩
    have C8 := Lib.hid r1
    have G8 := Lib.hid ((gb_below G7.out ((show Below (w7).heap.size (w7) _ from (by repeat (first | assumption | exact Below.refl _ _ | apply bl_gw | apply bl_alloc | apply bl_drewN | apply bl_drew))).mono G7.out.size)).trans g1)
    have g1' := g1
    clear r1 g1
    have K8 := Lib.hid ((K7.out.alloc _).grown g1' (by omega))
    have Q8 := Lib.hid ((Q7.out.alloc _).grown g1' (by omega))
    clear g1' hmy
    have r0 : (w8).cell? ⟨w.heap.size, 0, none⟩ = some (.int .i64 0) := K8.out.cell 0
    have r1 : (w8).cell? ⟨w.heap.size, 1, none⟩ = some (.int .i64 0) := K8.out.cell 1
    have r2 : (w8).cell? ⟨w.heap.size, 2, none⟩ = some (.int .i64 0) := K8.out.cell 2
    have r3 : (w8).cell? ⟨w.heap.size, 3, none⟩ = some (.int .i64 0) := K8.out.cell 3
    have r4 : (w8).cell? ⟨w.heap.size, 4, none⟩ = some (.int .i64 0) := K8.out.cell 4
    have r5 : (w8).cell? ⟨w.heap.size, 5, none⟩ = some (.int .i64 0) := K8.out.cell 5
    have f0 := K8.out.frozen 0
    have f1 := K8.out.frozen 1
    have f2 := K8.out.frozen 2
    have f3 := K8.out.frozen 3
    have f4 := K8.out.frozen 4
    have f5 := K8.out.frozen 5
    have e0 : (w8).cell? ⟨w3.heap.size, 0, none⟩ = some (.int .i64 id) := Q8.out.cell 0
    have e1 : (w8).cell? ⟨w3.heap.size, 1, none⟩ = some (.int .i64 come) := Q8.out.cell 1
    have e2 : (w8).cell? ⟨w3.heap.size, 2, none⟩ = some (.int .i64 lv) := Q8.out.cell 2
    have e3 : (w8).cell? ⟨w3.heap.size, 3, none⟩ = some (.int .i64 x2) := Q8.out.cell 3
    have e4 : (w8).cell? ⟨w3.heap.size, 4, none⟩ = some (.int .i64 x3) := Q8.out.cell 4
    have e5 : (w8).cell? ⟨w3.heap.size, 5, none⟩ = some (.int .i64 x4) := Q8.out.cell 5
    have h0 := Q8.out.frozen 0
    have h1 := Q8.out.frozen 1
    have h2 := Q8.out.frozen 2
    have h3 := Q8.out.frozen 3
    have h4 := Q8.out.frozen 4
    have h5 := Q8.out.frozen 5
    have hl1 := K8.out.lt
    have hl2 := Q8.out.lt
    have hne1 : (w3.heap.size : Nat) ≠ w.heap.size := by omega
    have hgk : w.heap.size ≤ w3.heap.size := by omega
    go_wp2
    have KE := Lib.hid (show Blk (((((((w8.setCell ⟨w3.heap.size, 1, none⟩ (.int .i64 y)).setCell ⟨w.heap.size, 0, none⟩ (.int .i64 id)).setCell ⟨w.heap.size, 1, none⟩ (.int .i64 y)).setCell ⟨w.heap.size, 2, none⟩ (.int .i64 lv)).setCell ⟨w.heap.size, 3, none⟩ (.int .i64 x2)).setCell ⟨w.heap.size, 4, none⟩ (.int .i64 x3)).setCell ⟨w.heap.size, 5, none⟩ (.int .i64 x4)) w.heap.size 26 #[.int .i64 id, .int .i64 y, .int .i64 lv, .int .i64 x2, .int .i64 x3, .int .i64 x4] from ((((((K8.out.far (p := ⟨w3.heap.size, 1, none⟩) (fun h => hne1 h.symm) (.int .i64 y)).set_ 0 (.int .i64 id)).set_ 1 (.int .i64 y)).set_ 2 (.int .i64 lv)).set_ 3 (.int .i64 x2)).set_ 4 (.int .i64 x3)).set_ 5 (.int .i64 x4))
    have BE := Lib.hid (show Below w.heap.size (w8) (((((((w8.setCell ⟨w3.heap.size, 1, none⟩ (.int .i64 y)).setCell ⟨w.heap.size, 0, none⟩ (.int .i64 id)).setCell ⟨w.heap.size, 1, none⟩ (.int .i64 y)).setCell ⟨w.heap.size, 2, none⟩ (.int .i64 lv)).setCell ⟨w.heap.size, 3, none⟩ (.int .i64 x2)).setCell ⟨w.heap.size, 4, none⟩ (.int .i64 x3)).setCell ⟨w.heap.size, 5, none⟩ (.int .i64 x4)) from (((((((Below.refl w.heap.size w8).setCell (p := ⟨w3.heap.size, 1, none⟩) hgk (.int .i64 y)).setCell (p := ⟨w.heap.size, 0, none⟩) (Nat.le_refl _) (.int .i64 id)).setCell (p := ⟨w.heap.size, 1, none⟩) (Nat.le_refl _) (.int .i64 y)).setCell (p := ⟨w.heap.size, 2, none⟩) (Nat.le_refl _) (.int .i64 lv)).setCell (p := ⟨w.heap.size, 3, none⟩) (Nat.le_refl _) (.int .i64 x2)).setCell (p := ⟨w.heap.size, 4, none⟩) (Nat.le_refl _) (.int .i64 x3)).setCell (p := ⟨w.heap.size, 5, none⟩) (Nat.le_refl _) (.int .i64 x4))
    clear r0 f0 e0 h0 r1 f1 e1 h1 r2 f2 e2 h2 r3 f3 e3 h3 r4 f4 e4 h4 r5 f5 e5 h5
    generalize (((((((w8.setCell ⟨w3.heap.size, 1, none⟩ (.int .i64 y)).setCell ⟨w.heap.size, 0, none⟩ (.int .i64 id)).setCell ⟨w.heap.size, 1, none⟩ (.int .i64 y)).setCell ⟨w.heap.size, 2, none⟩ (.int .i64 lv)).setCell ⟨w.heap.size, 3, none⟩ (.int .i64 x2)).setCell ⟨w.heap.size, 4, none⟩ (.int .i64 x3)).setCell ⟨w.heap.size, 5, none⟩ (.int .i64 x4)) = wE at KE BE ⊢
    have r0 : wE.cell? ⟨w.heap.size, 0, none⟩ = some (.int .i64 id) := KE.out.cell 0
    have r1 : wE.cell? ⟨w.heap.size, 1, none⟩ = some (.int .i64 y) := KE.out.cell 1
    have r2 : wE.cell? ⟨w.heap.size, 2, none⟩ = some (.int .i64 lv) := KE.out.cell 2
    have r3 : wE.cell? ⟨w.heap.size, 3, none⟩ = some (.int .i64 x2) := KE.out.cell 3
    have r4 : wE.cell? ⟨w.heap.size, 4, none⟩ = some (.int .i64 x3) := KE.out.cell 4
    have r5 : wE.cell? ⟨w.heap.size, 5, none⟩ = some (.int .i64 x4) := KE.out.cell 5
    refine bodyPost_ret (v := .agg #[.int .i64 id, .int .i64 y, .int .i64 lv, .int .i64 x2, .int .i64 x3, .int .i64 x4]) (by simp [results, Tryd.results59, go_sem, r0, r1, r2, r3, r4, r5]) rfl ?_
    exact ⟨_, _, _, _, _, _, rfl, draw_end C8.out G8.out hle (by omega) BE.out⟩
  · have fk : (x7 : Int) = 2 := by omega
    rw [fk]
    have r0 : (w7).cell? ⟨w.heap.size, 0, none⟩ = some (.int .i64 0) := K7.out.cell 0
    have r1 : (w7).cell? ⟨w.heap.size, 1, none⟩ = some (.int .i64 0) := K7.out.cell 1
    have r2 : (w7).cell? ⟨w.heap.size, 2, none⟩ = some (.int .i64 0) := K7.out.cell 2
    have r3 : (w7).cell? ⟨w.heap.size, 3, none⟩ = some (.int .i64 0) := K7.out.cell 3
    have r4 : (w7).cell? ⟨w.heap.size, 4, none⟩ = some (.int .i64 0) := K7.out.cell 4
    have r5 : (w7).cell? ⟨w.heap.size, 5, none⟩ = some (.int .i64 0) := K7.out.cell 5
    have f0 := K7.out.frozen 0
    have f1 := K7.out.frozen 1
    have f2 := K7.out.frozen 2
    have f3 := K7.out.frozen 3
    have f4 := K7.out.frozen 4
    have f5 := K7.out.frozen 5
    have e0 : (w7).cell? ⟨w3.heap.size, 0, none⟩ = some (.int .i64 id) := Q7.out.cell 0
    have e1 : (w7).cell? ⟨w3.heap.size, 1, none⟩ = some (.int .i64 come) := Q7.out.cell 1
    have e2 : (w7).cell? ⟨w3.heap.size, 2, none⟩ = some (.int .i64 lv) := Q7.out.cell 2
    have e3 : (w7).cell? ⟨w3.heap.size, 3, none⟩ = some (.int .i64 x2) := Q7.out.cell 3
    have e4 : (w7).cell? ⟨w3.heap.size, 4, none⟩ = some (.int .i64 x3) := Q7.out.cell 4
    have e5 : (w7).cell? ⟨w3.heap.size, 5, none⟩ = some (.int .i64 x4) := Q7.out.cell 5
    have h0 := Q7.out.frozen 0
    have h1 := Q7.out.frozen 1
    have h2 := Q7.out.frozen 2
    have h3 := Q7.out.frozen 3
    have h4 := Q7.out.frozen 4
    have h5 := Q7.out.frozen 5
    have hl1 := K7.out.lt
    have hl2 := Q7.out.lt
    have hne1 : (w3.heap.size : Nat) ≠ w.heap.size := by omega
    have hgk : w.heap.size ≤ w3.heap.size := by omega
    go_wp2
    have KE := Lib.hid (show Blk (((((((w7.setCell ⟨w3.heap.size, 2, none⟩ (.int .i64 4001)).setCell ⟨w.heap.size, 0, none⟩ (.int .i64 id)).setCell ⟨w.heap.size, 1, none⟩ (.int .i64 come)).setCell ⟨w.heap.size, 2, none⟩ (.int .i64 4001)).setCell ⟨w.heap.size, 3, none⟩ (.int .i64 x2)).setCell ⟨w.heap.size, 4, none⟩ (.int .i64 x3)).setCell ⟨w.heap.size, 5, none⟩ (.int .i64 x4)) w.heap.size 26 #[.int .i64 id, .int .i64 come, .int .i64 4001, .int .i64 x2, .int .i64 x3, .int .i64 x4] from ((((((K7.out.far (p := ⟨w3.heap.size, 2, none⟩) (fun h => hne1 h.symm) (.int .i64 4001)).set_ 0 (.int .i64 id)).set_ 1 (.int .i64 come)).set_ 2 (.int .i64 4001)).set_ 3 (.int .i64 x2)).set_ 4 (.int .i64 x3)).set_ 5 (.int .i64 x4))
    have BE := Lib.hid (show Below w.heap.size (w7) (((((((w7.setCell ⟨w3.heap.size, 2, none⟩ (.int .i64 4001)).setCell ⟨w.heap.size, 0, none⟩ (.int .i64 id)).setCell ⟨w.heap.size, 1, none⟩ (.int .i64 come)).setCell ⟨w.heap.size, 2, none⟩ (.int .i64 4001)).setCell ⟨w.heap.size, 3, none⟩ (.int .i64 x2)).setCell ⟨w.heap.size, 4, none⟩ (.int .i64 x3)).setCell ⟨w.heap.size, 5, none⟩ (.int .i64 x4)) from (((((((Below.refl w.heap.size w7).setCell (p := ⟨w3.heap.size, 2, none⟩) hgk (.int .i64 4001)).setCell (p := ⟨w.heap.size, 0, none⟩) (Nat.le_refl _) (.int .i64 id)).setCell (p := ⟨w.heap.size, 1, none⟩) (Nat.le_refl _) (.int .i64 come)).setCell (p := ⟨w.heap.size, 2, none⟩) (Nat.le_refl _) (.int .i64 4001)).setCell (p := ⟨w.heap.size, 3, none⟩) (Nat.le_refl _) (.int .i64 x2)).setCell (p := ⟨w.heap.size, 4, none⟩) (Nat.le_refl _) (.int .i64 x3)).setCell (p := ⟨w.heap.size, 5, none⟩) (Nat.le_refl _) (.int .i64 x4))
    clear r0 f0 e0 h0 r1 f1 e1 h1 r2 f2 e2 h2 r3 f3 e3 h3 r4 f4 e4 h4 r5 f5 e5 h5
    generalize (((((((w7.setCell ⟨w3.heap.size, 2, none⟩ (.int .i64 4001)).setCell ⟨w.heap.size, 0, none⟩ (.int .i64 id)).setCell ⟨w.heap.size, 1, none⟩ (.int .i64 come)).setCell ⟨w.heap.size, 2, none⟩ (.int .i64 4001)).setCell ⟨w.heap.size, 3, none⟩ (.int .i64 x2)).setCell ⟨w.heap.size, 4, none⟩ (.int .i64 x3)).setCell ⟨w.heap.size, 5, none⟩ (.int .i64 x4)) = wE at KE BE ⊢
    have r0 : wE.cell? ⟨w.heap.size, 0, none⟩ = some (.int .i64 id) := KE.out.cell 0
    have r1 : wE.cell? ⟨w.heap.size, 1, none⟩ = some (.int .i64 come) := KE.out.cell 1
    have r2 : wE.cell? ⟨w.heap.size, 2, none⟩ = some (.int .i64 4001) := KE.out.cell 2
    have r3 : wE.cell? ⟨w.heap.size, 3, none⟩ = some (.int .i64 x2) := KE.out.cell 3
    have r4 : wE.cell? ⟨w.heap.size, 4, none⟩ = some (.int .i64 x3) := KE.out.cell 4
    have r5 : wE.cell? ⟨w.heap.size, 5, none⟩ = some (.int .i64 x4) := KE.out.cell 5
    refine bodyPost_ret (v := .agg #[.int .i64 id, .int .i64 come, .int .i64 4001, .int .i64 x2, .int .i64 x3, .int .i64 x4]) (by simp [results, Tryd.results59, go_sem, r0, r1, r2, r3, r4, r5]) rfl ?_
    exact ⟨_, _, _, _, _, _, rfl, draw_end C7.out G7.out hle (by omega) BE.out⟩
  · have fk : (x7 : Int) = 3 := by omega
    rw [fk]
    go_wp2_with fail
    refine (among_any [9, 91] 2 rfl _ _ _ _ 3 _ (by omega) (C7.out.below ((show Below (w7).heap.size (w7) _ from (by repeat (first | assumption | exact Below.refl _ _ | apply bl_gw | apply bl_alloc | apply bl_drewN | apply bl_drew))).mono C7.out.le)) (by have := C7.out.le; simp; omega) (by first | exact Blk.new _ _ _ | exact Blk.new_ _ _ _ _ (by simp) | exact (Blk.new _ _ _).drewN _ | exact (Blk.new _ _ _).gw _) (by omega) (by omega)).mono ?_
    rintro e w8 ⟨y, hmy, rfl, r1, g1⟩
    have C8 := Lib.hid r1
    have G8 := Lib.hid ((gb_below G7.out ((show Below (w7).heap.size (w7) _ from (by repeat (first | assumption | exact Below.refl _ _ | apply bl_gw | apply bl_alloc | apply bl_drewN | apply bl_drew))).mono G7.out.size)).trans g1)
    have g1' := g1
    clear r1 g1
    have K8 := Lib.hid ((K7.out.alloc _).grown g1' (by omega))
    have Q8 := Lib.hid ((Q7.out.alloc _).grown g1' (by omega))
    clear g1' hmy
    have r0 : (w8).cell? ⟨w.heap.size, 0, none⟩ = some (.int .i64 0) := K8.out.cell 0
    have r1 : (w8).cell? ⟨w.heap.size, 1, none⟩ = some (.int .i64 0) := K8.out.cell 1
    have r2 : (w8).cell? ⟨w.heap.size, 2, none⟩ = some (.int .i64 0) := K8.out.cell 2
    have r3 : (w8).cell? ⟨w.heap.size, 3, none⟩ = some (.int .i64 0) := K8.out.cell 3
    have r4 : (w8).cell? ⟨w.heap.size, 4, none⟩ = some (.int .i64 0) := K8.out.cell 4
    have r5 : (w8).cell? ⟨w.heap.size, 5, none⟩ = some (.int .i64 0) := K8.out.cell 5
    have f0 := K8.out.frozen 0
    have f1 := K8.out.frozen 1
    have f2 := K8.out.frozen 2
    have f3 := K8.out.frozen 3
    have f4 := K8.out.frozen 4
    have f5 := K8.out.frozen 5
    have e0 : (w8).cell? ⟨w3.heap.size, 0, none⟩ = some (.int .i64 id) := Q8.out.cell 0
    have e1 : (w8).cell? ⟨w3.heap.size, 1, none⟩ = some (.int .i64 come) := Q8.out.cell 1
    have e2 : (w8).cell? ⟨w3.heap.size, 2, none⟩ = some (.int .i64 lv) := Q8.out.cell 2
    have e3 : (w8).cell? ⟨w3.heap.size, 3, none⟩ = some (.int .i64 x2) := Q8.out.cell 3
    have e4 : (w8).cell? ⟨w3.heap.size, 4, none⟩ = some (.int .i64 x3) := Q8.out.cell 4
    have e5 : (w8).cell? ⟨w3.heap.size, 5, none⟩ = some (.int .i64 x4) := Q8.out.cell 5
    have h0 := Q8.out.frozen 0
    have h1 := Q8.out.frozen 1
    have h2 := Q8.out.frozen 2
    have h3 := Q8.out.frozen 3
    have h4 := Q8.out.frozen 4
    have h5 := Q8.out.frozen 5
    have hl1 := K8.out.lt
    have hl2 := Q8.out.lt
    have hne1 : (w3.heap.size : Nat) ≠ w.heap.size := by omega
    have hgk : w.heap.size ≤ w3.heap.size := by omega
    go_wp2
    have KE := Lib.hid (show Blk (((((((w8.setCell ⟨w3.heap.size, 3, none⟩ (.int .i64 y)).setCell ⟨w.heap.size, 0, none⟩ (.int .i64 id)).setCell ⟨w.heap.size, 1, none⟩ (.int .i64 come)).setCell ⟨w.heap.size, 2, none⟩ (.int .i64 lv)).setCell ⟨w.heap.size, 3, none⟩ (.int .i64 y)).setCell ⟨w.heap.size, 4, none⟩ (.int .i64 x3)).setCell ⟨w.heap.size, 5, none⟩ (.int .i64 x4)) w.heap.size 26 #[.int .i64 id, .int .i64 come, .int .i64 lv, .int .i64 y, .int .i64 x3, .int .i64 x4] from ((((((K8.out.far (p := ⟨w3.heap.size, 3, none⟩) (fun h => hne1 h.symm) (.int .i64 y)).set_ 0 (.int .i64 id)).set_ 1 (.int .i64 come)).set_ 2 (.int .i64 lv)).set_ 3 (.int .i64 y)).set_ 4 (.int .i64 x3)).set_ 5 (.int .i64 x4))
    have BE := Lib.hid (show Below w.heap.size (w8) (((((((w8.setCell ⟨w3.heap.size, 3, none⟩ (.int .i64 y)).setCell ⟨w.heap.size, 0, none⟩ (.int .i64 id)).setCell ⟨w.heap.size, 1, none⟩ (.int .i64 come)).setCell ⟨w.heap.size, 2, none⟩ (.int .i64 lv)).setCell ⟨w.heap.size, 3, none⟩ (.int .i64 y)).setCell ⟨w.heap.size, 4, none⟩ (.int .i64 x3)).setCell ⟨w.heap.size, 5, none⟩ (.int .i64 x4)) from (((((((Below.refl w.heap.size w8).setCell (p := ⟨w3.heap.size, 3, none⟩) hgk (.int .i64 y)).setCell (p := ⟨w.heap.size, 0, none⟩) (Nat.le_refl _) (.int .i64 id)).setCell (p := ⟨w.heap.size, 1, none⟩) (Nat.le_refl _) (.int .i64 come)).setCell (p := ⟨w.heap.size, 2, none⟩) (Nat.le_refl _) (.int .i64 lv)).setCell (p := ⟨w.heap.size, 3, none⟩) (Nat.le_refl _) (.int .i64 y)).setCell (p := ⟨w.heap.size, 4, none⟩) (Nat.le_refl _) (.int .i64 x3)).setCell (p := ⟨w.heap.size, 5, none⟩) (Nat.le_refl _) (.int .i64 x4))
    clear r0 f0 e0 h0 r1 f1 e1 h1 r2 f2 e2 h2 r3 f3 e3 h3 r4 f4 e4 h4 r5 f5 e5 h5
    generalize (((((((w8.setCell ⟨w3.heap.size, 3, none⟩ (.int .i64 y)).setCell ⟨w.heap.size, 0, none⟩ (.int .i64 id)).setCell ⟨w.heap.size, 1, none⟩ (.int .i64 come)).setCell ⟨w.heap.size, 2, none⟩ (.int .i64 lv)).setCell ⟨w.heap.size, 3, none⟩ (.int .i64 y)).setCell ⟨w.heap.size, 4, none⟩ (.int .i64 x3)).setCell ⟨w.heap.size, 5, none⟩ (.int .i64 x4)) = wE at KE BE ⊢
    have r0 : wE.cell? ⟨w.heap.size, 0, none⟩ = some (.int .i64 id) := KE.out.cell 0
    have r1 : wE.cell? ⟨w.heap.size, 1, none⟩ = some (.int .i64 come) := KE.out.cell 1
    have r2 : wE.cell? ⟨w.heap.size, 2, none⟩ = some (.int .i64 lv) := KE.out.cell 2
    have r3 : wE.cell? ⟨w.heap.size, 3, none⟩ = some (.int .i64 y) := KE.out.cell 3
    have r4 : wE.cell? ⟨w.heap.size, 4, none⟩ = some (.int .i64 x3) := KE.out.cell 4
    have r5 : wE.cell? ⟨w.heap.size, 5, none⟩ = some (.int .i64 x4) := KE.out.cell 5
    refine bodyPost_ret (v := .agg #[.int .i64 id, .int .i64 come, .int .i64 lv, .int .i64 y, .int .i64 x3, .int .i64 x4]) (by simp [results, Tryd.results59, go_sem, r0, r1, r2, r3, r4, r5]) rfl ?_
    exact ⟨_, _, _, _, _, _, rfl, draw_end C8.out G8.out hle (by omega) BE.out⟩
  · have fk : (x7 : Int) = 4 := by omega
    rw [fk]
    go_wp2_with fail
    refine (among_any [0, 3001] 2 rfl _ _ _ _ 3 _ (by omega) (C7.out.below ((show Below (w7).heap.size (w7) _ from (by repeat (first | assumption | exact Below.refl _ _ | apply bl_gw | apply bl_alloc | apply bl_drewN | apply bl_drew))).mono C7.out.le)) (by have := C7.out.le; simp; omega) (by first | exact Blk.new _ _ _ | exact Blk.new_ _ _ _ _ (by simp) | exact (Blk.new _ _ _).drewN _ | exact (Blk.new _ _ _).gw _) (by omega) (by omega)).mono ?_
    rintro e w8 ⟨y, hmy, rfl, r1, g1⟩
    have C8 := Lib.hid r1
    have G8 := Lib.hid ((gb_below G7.out ((show Below (w7).heap.size (w7) _ from (by repeat (first | assumption | exact Below.refl _ _ | apply bl_gw | apply bl_alloc | apply bl_drewN | apply bl_drew))).mono G7.out.size)).trans g1)
    have g1' := g1
    clear r1 g1
    have K8 := Lib.hid ((K7.out.alloc _).grown g1' (by omega))
    have Q8 := Lib.hid ((Q7.out.alloc _).grown g1' (by omega))
    clear g1' hmy
    have r0 : (w8).cell? ⟨w.heap.size, 0, none⟩ = some (.int .i64 0) := K8.out.cell 0
    have r1 : (w8).cell? ⟨w.heap.size, 1, none⟩ = some (.int .i64 0) := K8.out.cell 1
    have r2 : (w8).cell? ⟨w.heap.size, 2, none⟩ = some (.int .i64 0) := K8.out.cell 2
    have r3 : (w8).cell? ⟨w.heap.size, 3, none⟩ = some (.int .i64 0) := K8.out.cell 3
    have r4 : (w8).cell? ⟨w.heap.size, 4, none⟩ = some (.int .i64 0) := K8.out.cell 4
    have r5 : (w8).cell? ⟨w.heap.size, 5, none⟩ = some (.int .i64 0) := K8.out.cell 5
    have f0 := K8.out.frozen 0
    have f1 := K8.out.frozen 1
    have f2 := K8.out.frozen 2
    have f3 := K8.out.frozen 3
    have f4 := K8.out.frozen 4
    have f5 := K8.out.frozen 5
    have e0 : (w8).cell? ⟨w3.heap.size, 0, none⟩ = some (.int .i64 id) := Q8.out.cell 0
    have e1 : (w8).cell? ⟨w3.heap.size, 1, none⟩ = some (.int .i64 come) := Q8.out.cell 1
    have e2 : (w8).cell? ⟨w3.heap.size, 2, none⟩ = some (.int .i64 lv) := Q8.out.cell 2
    have e3 : (w8).cell? ⟨w3.heap.size, 3, none⟩ = some (.int .i64 x2) := Q8.out.cell 3
    have e4 : (w8).cell? ⟨w3.heap.size, 4, none⟩ = some (.int .i64 x3) := Q8.out.cell 4
    have e5 : (w8).cell? ⟨w3.heap.size, 5, none⟩ = some (.int .i64 x4) := Q8.out.cell 5
    have h0 := Q8.out.frozen 0
    have h1 := Q8.out.frozen 1
    have h2 := Q8.out.frozen 2
    have h3 := Q8.out.frozen 3
    have h4 := Q8.out.frozen 4
    have h5 := Q8.out.frozen 5
    have hl1 := K8.out.lt
    have hl2 := Q8.out.lt
    have hne1 : (w3.heap.size : Nat) ≠ w.heap.size := by omega
    have hgk : w.heap.size ≤ w3.heap.size := by omega
    go_wp2
    have KE := Lib.hid (show Blk (((((((w8.setCell ⟨w3.heap.size, 4, none⟩ (.int .i64 y)).setCell ⟨w.heap.size, 0, none⟩ (.int .i64 id)).setCell ⟨w.heap.size, 1, none⟩ (.int .i64 come)).setCell ⟨w.heap.size, 2, none⟩ (.int .i64 lv)).setCell ⟨w.heap.size, 3, none⟩ (.int .i64 x2)).setCell ⟨w.heap.size, 4, none⟩ (.int .i64 y)).setCell ⟨w.heap.size, 5, none⟩ (.int .i64 x4)) w.heap.size 26 #[.int .i64 id, .int .i64 come, .int .i64 lv, .int .i64 x2, .int .i64 y, .int .i64 x4] from ((((((K8.out.far (p := ⟨w3.heap.size, 4, none⟩) (fun h => hne1 h.symm) (.int .i64 y)).set_ 0 (.int .i64 id)).set_ 1 (.int .i64 come)).set_ 2 (.int .i64 lv)).set_ 3 (.int .i64 x2)).set_ 4 (.int .i64 y)).set_ 5 (.int .i64 x4))
    have BE := Lib.hid (show Below w.heap.size (w8) (((((((w8.setCell ⟨w3.heap.size, 4, none⟩ (.int .i64 y)).setCell ⟨w.heap.size, 0, none⟩ (.int .i64 id)).setCell ⟨w.heap.size, 1, none⟩ (.int .i64 come)).setCell ⟨w.heap.size, 2, none⟩ (.int .i64 lv)).setCell ⟨w.heap.size, 3, none⟩ (.int .i64 x2)).setCell ⟨w.heap.size, 4, none⟩ (.int .i64 y)).setCell ⟨w.heap.size, 5, none⟩ (.int .i64 x4)) from (((((((Below.refl w.heap.size w8).setCell (p := ⟨w3.heap.size, 4, none⟩) hgk (.int .i64 y)).setCell (p := ⟨w.heap.size, 0, none⟩) (Nat.le_refl _) (.int .i64 id)).setCell (p := ⟨w.heap.size, 1, none⟩) (Nat.le_refl _) (.int .i64 come)).setCell (p := ⟨w.heap.size, 2, none⟩) (Nat.le_refl _) (.int .i64 lv)).setCell (p := ⟨w.heap.size, 3, none⟩) (Nat.le_refl _) (.int .i64 x2)).setCell (p := ⟨w.heap.size, 4, none⟩) (Nat.le_refl _) (.int .i64 y)).setCell (p := ⟨w.heap.size, 5, none⟩) (Nat.le_refl _) (.int .i64 x4))
    clear r0 f0 e0 h0 r1 f1 e1 h1 r2 f2 e2 h2 r3 f3 e3 h3 r4 f4 e4 h4 r5 f5 e5 h5
    generalize (((((((w8.setCell ⟨w3.heap.size, 4, none⟩ (.int .i64 y)).setCell ⟨w.heap.size, 0, none⟩ (.int .i64 id)).setCell ⟨w.heap.size, 1, none⟩ (.int .i64 come)).setCell ⟨w.heap.size, 2, none⟩ (.int .i64 lv)).setCell ⟨w.heap.size, 3, none⟩ (.int .i64 x2)).setCell ⟨w.heap.size, 4, none⟩ (.int .i64 y)).setCell ⟨w.heap.size, 5, none⟩ (.int .i64 x4)) = wE at KE BE ⊢
    have r0 : wE.cell? ⟨w.heap.size, 0, none⟩ = some (.int .i64 id) := KE.out.cell 0
    have r1 : wE.cell? ⟨w.heap.size, 1, none⟩ = some (.int .i64 come) := KE.out.cell 1
    have r2 : wE.cell? ⟨w.heap.size, 2, none⟩ = some (.int .i64 lv) := KE.out.cell 2
    have r3 : wE.cell? ⟨w.heap.size, 3, none⟩ = some (.int .i64 x2) := KE.out.cell 3
    have r4 : wE.cell? ⟨w.heap.size, 4, none⟩ = some (.int .i64 y) := KE.out.cell 4
    have r5 : wE.cell? ⟨w.heap.size, 5, none⟩ = some (.int .i64 x4) := KE.out.cell 5
    refine bodyPost_ret (v := .agg #[.int .i64 id, .int .i64 come, .int .i64 lv, .int .i64 x2, .int .i64 y, .int .i64 x4]) (by simp [results, Tryd.results59, go_sem, r0, r1, r2, r3, r4, r5]) rfl ?_
    exact ⟨_, _, _, _, _, _, rfl, draw_end C8.out G8.out hle (by omega) BE.out⟩
  · have fk : (x7 : Int) = 5 := by omega
    rw [fk]
    have m4 : w7.cell? ⟨w3.heap.size, 4, none⟩ = some (.int .i64 x3) := Q7.out.cell 4
    go_wp2_with fail
    refine (among_any [-1, x3 + 1] 2 rfl _ _ _ _ 3 _ (by omega) (C7.out.below ((show Below (w7).heap.size (w7) _ from (by repeat (first | assumption | exact Below.refl _ _ | apply bl_gw | apply bl_alloc | apply bl_drewN | apply bl_drew))).mono C7.out.le)) (by have := C7.out.le; simp; omega) (by first | exact Blk.new _ _ _ | exact Blk.new_ _ _ _ _ (by simp) | exact (Blk.new _ _ _).drewN _ | exact (Blk.new _ _ _).gw _) (by omega) (by omega)).mono ?_
    rintro e w8 ⟨y, hmy, rfl, r1, g1⟩
    have C8 := Lib.hid r1
    have G8 := Lib.hid ((gb_below G7.out ((show Below (w7).heap.size (w7) _ from (by repeat (first | assumption | exact Below.refl _ _ | apply bl_gw | apply bl_alloc | apply bl_drewN | apply bl_drew))).mono G7.out.size)).trans g1)
    have g1' := g1
    clear r1 g1
    have K8 := Lib.hid ((K7.out.alloc _).grown g1' (by omega))
    have Q8 := Lib.hid ((Q7.out.alloc _).grown g1' (by omega))
    clear g1' hmy
    have r0 : (w8).cell? ⟨w.heap.size, 0, none⟩ = some (.int .i64 0) := K8.out.cell 0
    have r1 : (w8).cell? ⟨w.heap.size, 1, none⟩ = some (.int .i64 0) := K8.out.cell 1
    have r2 : (w8).cell? ⟨w.heap.size, 2, none⟩ = some (.int .i64 0) := K8.out.cell 2
    have r3 : (w8).cell? ⟨w.heap.size, 3, none⟩ = some (.int .i64 0) := K8.out.cell 3
    have r4 : (w8).cell? ⟨w.heap.size, 4, none⟩ = some (.int .i64 0) := K8.out.cell 4
    have r5 : (w8).cell? ⟨w.heap.size, 5, none⟩ = some (.int .i64 0) := K8.out.cell 5
    have f0 := K8.out.frozen 0
    have f1 := K8.out.frozen 1
    have f2 := K8.out.frozen 2
    have f3 := K8.out.frozen 3
    have f4 := K8.out.frozen 4
    have f5 := K8.out.frozen 5
    have e0 : (w8).cell? ⟨w3.heap.size, 0, none⟩ = some (.int .i64 id) := Q8.out.cell 0
    have e1 : (w8).cell? ⟨w3.heap.size, 1, none⟩ = some (.int .i64 come) := Q8.out.cell 1
    have e2 : (w8).cell? ⟨w3.heap.size, 2, none⟩ = some (.int .i64 lv) := Q8.out.cell 2
    have e3 : (w8).cell? ⟨w3.heap.size, 3, none⟩ = some (.int .i64 x2) := Q8.out.cell 3
    have e4 : (w8).cell? ⟨w3.heap.size, 4, none⟩ = some (.int .i64 x3) := Q8.out.cell 4
    have e5 : (w8).cell? ⟨w3.heap.size, 5, none⟩ = some (.int .i64 x4) := Q8.out.cell 5
    have h0 := Q8.out.frozen 0
    have h1 := Q8.out.frozen 1
    have h2 := Q8.out.frozen 2
    have h3 := Q8.out.frozen 3
    have h4 := Q8.out.frozen 4
    have h5 := Q8.out.frozen 5
    have hl1 := K8.out.lt
    have hl2 := Q8.out.lt
    have hne1 : (w3.heap.size : Nat) ≠ w.heap.size := by omega
    have hgk : w.heap.size ≤ w3.heap.size := by omega
    go_wp2
    have KE := Lib.hid (show Blk (((((((w8.setCell ⟨w3.heap.size, 5, none⟩ (.int .i64 y)).setCell ⟨w.heap.size, 0, none⟩ (.int .i64 id)).setCell ⟨w.heap.size, 1, none⟩ (.int .i64 come)).setCell ⟨w.heap.size, 2, none⟩ (.int .i64 lv)).setCell ⟨w.heap.size, 3, none⟩ (.int .i64 x2)).setCell ⟨w.heap.size, 4, none⟩ (.int .i64 x3)).setCell ⟨w.heap.size, 5, none⟩ (.int .i64 y)) w.heap.size 26 #[.int .i64 id, .int .i64 come, .int .i64 lv, .int .i64 x2, .int .i64 x3, .int .i64 y] from ((((((K8.out.far (p := ⟨w3.heap.size, 5, none⟩) (fun h => hne1 h.symm) (.int .i64 y)).set_ 0 (.int .i64 id)).set_ 1 (.int .i64 come)).set_ 2 (.int .i64 lv)).set_ 3 (.int .i64 x2)).set_ 4 (.int .i64 x3)).set_ 5 (.int .i64 y))
    have BE := Lib.hid (show Below w.heap.size (w8) (((((((w8.setCell ⟨w3.heap.size, 5, none⟩ (.int .i64 y)).setCell ⟨w.heap.size, 0, none⟩ (.int .i64 id)).setCell ⟨w.heap.size, 1, none⟩ (.int .i64 come)).setCell ⟨w.heap.size, 2, none⟩ (.int .i64 lv)).setCell ⟨w.heap.size, 3, none⟩ (.int .i64 x2)).setCell ⟨w.heap.size, 4, none⟩ (.int .i64 x3)).setCell ⟨w.heap.size, 5, none⟩ (.int .i64 y)) from (((((((Below.refl w.heap.size w8).setCell (p := ⟨w3.heap.size, 5, none⟩) hgk (.int .i64 y)).setCell (p := ⟨w.heap.size, 0, none⟩) (Nat.le_refl _) (.int .i64 id)).setCell (p := ⟨w.heap.size, 1, none⟩) (Nat.le_refl _) (.int .i64 come)).setCell (p := ⟨w.heap.size, 2, none⟩) (Nat.le_refl _) (.int .i64 lv)).setCell (p := ⟨w.heap.size, 3, none⟩) (Nat.le_refl _) (.int .i64 x2)).setCell (p := ⟨w.heap.size, 4, none⟩) (Nat.le_refl _) (.int .i64 x3)).setCell (p := ⟨w.heap.size, 5, none⟩) (Nat.le_refl _) (.int .i64 y))
    clear r0 f0 e0 h0 r1 f1 e1 h1 r2 f2 e2 h2 r3 f3 e3 h3 r4 f4 e4 h4 r5 f5 e5 h5
    generalize (((((((w8.setCell ⟨w3.heap.size, 5, none⟩ (.int .i64 y)).setCell ⟨w.heap.size, 0, none⟩ (.int .i64 id)).setCell ⟨w.heap.size, 1, none⟩ (.int .i64 come)).setCell ⟨w.heap.size, 2, none⟩ (.int .i64 lv)).setCell ⟨w.heap.size, 3, none⟩ (.int .i64 x2)).setCell ⟨w.heap.size, 4, none⟩ (.int .i64 x3)).setCell ⟨w.heap.size, 5, none⟩ (.int .i64 y)) = wE at KE BE ⊢
    have r0 : wE.cell? ⟨w.heap.size, 0, none⟩ = some (.int .i64 id) := KE.out.cell 0
    have r1 : wE.cell? ⟨w.heap.size, 1, none⟩ = some (.int .i64 come) := KE.out.cell 1
    have r2 : wE.cell? ⟨w.heap.size, 2, none⟩ = some (.int .i64 lv) := KE.out.cell 2
    have r3 : wE.cell? ⟨w.heap.size, 3, none⟩ = some (.int .i64 x2) := KE.out.cell 3
    have r4 : wE.cell? ⟨w.heap.size, 4, none⟩ = some (.int .i64 x3) := KE.out.cell 4
    have r5 : wE.cell? ⟨w.heap.size, 5, none⟩ = some (.int .i64 y) := KE.out.cell 5
    refine bodyPost_ret (v := .agg #[.int .i64 id, .int .i64 come, .int .i64 lv, .int .i64 x2, .int .i64 x3, .int .i64 y]) (by simp [results, Tryd.results59, go_sem, r0, r1, r2, r3, r4, r5]) rfl ?_
    exact ⟨_, _, _, _, _, _, rfl, draw_end C8.out G8.out hle (by omega) BE.out⟩
  · have fk : 5 < (x7 : Int) := by omega
    have p0 : ¬ (x7 : Int) = 0 := by omega
    have b0 : ((x7 : Int) == 0) = false := beq_eq_false_iff_ne.2 p0
    have p1 : ¬ (x7 : Int) = 1 := by omega
    have b1 : ((x7 : Int) == 1) = false := beq_eq_false_iff_ne.2 p1
    have p2 : ¬ (x7 : Int) = 2 := by omega
    have b2 : ((x7 : Int) == 2) = false := beq_eq_false_iff_ne.2 p2
    have p3 : ¬ (x7 : Int) = 3 := by omega
    have b3 : ((x7 : Int) == 3) = false := beq_eq_false_iff_ne.2 p3
    have p4 : ¬ (x7 : Int) = 4 := by omega
    have b4 : ((x7 : Int) == 4) = false := beq_eq_false_iff_ne.2 p4
    have p5 : ¬ (x7 : Int) = 5 := by omega
    have b5 : ((x7 : Int) == 5) = false := beq_eq_false_iff_ne.2 p5
    have r0 : (w7).cell? ⟨w.heap.size, 0, none⟩ = some (.int .i64 0) := K7.out.cell 0
    have r1 : (w7).cell? ⟨w.heap.size, 1, none⟩ = some (.int .i64 0) := K7.out.cell 1
    have r2 : (w7).cell? ⟨w.heap.size, 2, none⟩ = some (.int .i64 0) := K7.out.cell 2
    have r3 : (w7).cell? ⟨w.heap.size, 3, none⟩ = some (.int .i64 0) := K7.out.cell 3
    have r4 : (w7).cell? ⟨w.heap.size, 4, none⟩ = some (.int .i64 0) := K7.out.cell 4
    have r5 : (w7).cell? ⟨w.heap.size, 5, none⟩ = some (.int .i64 0) := K7.out.cell 5
    have f0 := K7.out.frozen 0
    have f1 := K7.out.frozen 1
    have f2 := K7.out.frozen 2
    have f3 := K7.out.frozen 3
    have f4 := K7.out.frozen 4
    have f5 := K7.out.frozen 5
    have e0 : (w7).cell? ⟨w3.heap.size, 0, none⟩ = some (.int .i64 id) := Q7.out.cell 0
    have e1 : (w7).cell? ⟨w3.heap.size, 1, none⟩ = some (.int .i64 come) := Q7.out.cell 1
    have e2 : (w7).cell? ⟨w3.heap.size, 2, none⟩ = some (.int .i64 lv) := Q7.out.cell 2
    have e3 : (w7).cell? ⟨w3.heap.size, 3, none⟩ = some (.int .i64 x2) := Q7.out.cell 3
    have e4 : (w7).cell? ⟨w3.heap.size, 4, none⟩ = some (.int .i64 x3) := Q7.out.cell 4
    have e5 : (w7).cell? ⟨w3.heap.size, 5, none⟩ = some (.int .i64 x4) := Q7.out.cell 5
    have h0 := Q7.out.frozen 0
    have h1 := Q7.out.frozen 1
    have h2 := Q7.out.frozen 2
    have h3 := Q7.out.frozen 3
    have h4 := Q7.out.frozen 4
    have h5 := Q7.out.frozen 5
    have hl1 := K7.out.lt
    have hl2 := Q7.out.lt
    have hne1 : (w3.heap.size : Nat) ≠ w.heap.size := by omega
    have hgk : w.heap.size ≤ w3.heap.size := by omega
    go_wp2
    have KE := Lib.hid (show Blk (((((((w7).setCell ⟨w.heap.size, 0, none⟩ (.int .i64 id)).setCell ⟨w.heap.size, 1, none⟩ (.int .i64 come)).setCell ⟨w.heap.size, 2, none⟩ (.int .i64 lv)).setCell ⟨w.heap.size, 3, none⟩ (.int .i64 x2)).setCell ⟨w.heap.size, 4, none⟩ (.int .i64 x3)).setCell ⟨w.heap.size, 5, none⟩ (.int .i64 x4)) w.heap.size 26 #[.int .i64 id, .int .i64 come, .int .i64 lv, .int .i64 x2, .int .i64 x3, .int .i64 x4] from ((((((K7.out).set_ 0 (.int .i64 id)).set_ 1 (.int .i64 come)).set_ 2 (.int .i64 lv)).set_ 3 (.int .i64 x2)).set_ 4 (.int .i64 x3)).set_ 5 (.int .i64 x4))
    have BE := Lib.hid (show Below w.heap.size (w7) (((((((w7).setCell ⟨w.heap.size, 0, none⟩ (.int .i64 id)).setCell ⟨w.heap.size, 1, none⟩ (.int .i64 come)).setCell ⟨w.heap.size, 2, none⟩ (.int .i64 lv)).setCell ⟨w.heap.size, 3, none⟩ (.int .i64 x2)).setCell ⟨w.heap.size, 4, none⟩ (.int .i64 x3)).setCell ⟨w.heap.size, 5, none⟩ (.int .i64 x4)) from ((((((Below.refl w.heap.size w7).setCell (p := ⟨w.heap.size, 0, none⟩) (Nat.le_refl _) (.int .i64 id)).setCell (p := ⟨w.heap.size, 1, none⟩) (Nat.le_refl _) (.int .i64 come)).setCell (p := ⟨w.heap.size, 2, none⟩) (Nat.le_refl _) (.int .i64 lv)).setCell (p := ⟨w.heap.size, 3, none⟩) (Nat.le_refl _) (.int .i64 x2)).setCell (p := ⟨w.heap.size, 4, none⟩) (Nat.le_refl _) (.int .i64 x3)).setCell (p := ⟨w.heap.size, 5, none⟩) (Nat.le_refl _) (.int .i64 x4))
    clear r0 f0 e0 h0 r1 f1 e1 h1 r2 f2 e2 h2 r3 f3 e3 h3 r4 f4 e4 h4 r5 f5 e5 h5
    generalize (((((((w7).setCell ⟨w.heap.size, 0, none⟩ (.int .i64 id)).setCell ⟨w.heap.size, 1, none⟩ (.int .i64 come)).setCell ⟨w.heap.size, 2, none⟩ (.int .i64 lv)).setCell ⟨w.heap.size, 3, none⟩ (.int .i64 x2)).setCell ⟨w.heap.size, 4, none⟩ (.int .i64 x3)).setCell ⟨w.heap.size, 5, none⟩ (.int .i64 x4)) = wE at KE BE ⊢
    have r0 : wE.cell? ⟨w.heap.size, 0, none⟩ = some (.int .i64 id) := KE.out.cell 0
    have r1 : wE.cell? ⟨w.heap.size, 1, none⟩ = some (.int .i64 come) := KE.out.cell 1
    have r2 : wE.cell? ⟨w.heap.size, 2, none⟩ = some (.int .i64 lv) := KE.out.cell 2
    have r3 : wE.cell? ⟨w.heap.size, 3, none⟩ = some (.int .i64 x2) := KE.out.cell 3
    have r4 : wE.cell? ⟨w.heap.size, 4, none⟩ = some (.int .i64 x3) := KE.out.cell 4
    have r5 : wE.cell? ⟨w.heap.size, 5, none⟩ = some (.int .i64 x4) := KE.out.cell 5
    refine bodyPost_ret (v := .agg #[.int .i64 id, .int .i64 come, .int .i64 lv, .int .i64 x2, .int .i64 x3, .int .i64 x4]) (by simp [results, Tryd.results59, go_sem, r0, r1, r2, r3, r4, r5]) rfl ?_
    exact ⟨_, _, _, _, _, _, rfl, draw_end C7.out G7.out hle (by omega) BE.out⟩
end Go.Proofs.YtggdcjajiaeklaaDoor
