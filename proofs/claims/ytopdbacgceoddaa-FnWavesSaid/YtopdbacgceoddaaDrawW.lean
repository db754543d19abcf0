/- Draws of lakes and blows: some lake, some row of blows that is short. -/
import Derived.Test.YtopdbacgceoddaaDraw
import Derived.Test.YtopdbacgceoddaaWindB
namespace Go.Proofs.Ytopdbacgceoddaa
open Go.RowKit
set_option maxRecDepth 4000 in
set_option maxHeartbeats 4000000 in
theorem lake_any (B p k : Nat) (w : World) (hk : k ≤ 1000) (h : Cur w B p k) :
    Calls Try.prog 68 #[.pointer (some ⟨p, 0, none⟩)] w fun e w' => ∃ a b c : Int, e = .returned (.agg #[.int .i64 a, .int .i64 b, .int .i64 c]) ∧ Cur w' B p (k + 10) ∧ w.grownBy w' (some p) := by
  have HC := Lib.hid h
  have HG := Lib.hid (World.grownBy.refl w (some p))
  have hpB := h.lt
  have hle := h.le
  clear h
  go_enter Try.func68, Try.ntmps68
  go_wp2_with fail
  refine (among_any [1, 100, 500, 1000, 2000] 5 rfl _ _ _ _ 3 _ (by omega) (HC.out.below ((show Below (w).heap.size (w) _ from (by repeat (first | assumption | exact Below.refl _ _ | apply bl_gw | apply bl_alloc | apply bl_drewN | apply bl_drew))).mono HC.out.le)) (by have := HC.out.le; simp; omega) (by first | exact Blk.new _ _ _ | exact Blk.new_ _ _ _ _ (by simp) | exact (Blk.new _ _ _).drewN _ | exact (Blk.new _ _ _).gw _) (by omega) (by omega)).mono ?_
  rintro e w1 ⟨x1, hmx1, rfl, r1, g1⟩
  have C1 := Lib.hid r1
  have G1 := Lib.hid ((gb_below HG.out ((show Below (w).heap.size (w) _ from (by repeat (first | assumption | exact Below.refl _ _ | apply bl_gw | apply bl_alloc | apply bl_drewN | apply bl_drew))).mono HG.out.size)).trans g1)
  have g1' := g1
  clear r1 g1
  have K0 := Lib.hid ((((Blk.new w 24 #[.int .i64 0, .int .i64 0, .int .i64 0]).alloc _).grown g1' (by omega)))
  clear g1'
  go_wp2_with fail
  refine (among_any [1, 200, 500, 2000] 4 rfl _ _ _ _ 3 _ (by omega) (C1.out.below ((show Below (w1).heap.size (w1) _ from (by repeat (first | assumption | exact Below.refl _ _ | apply bl_gw | apply bl_alloc | apply bl_drewN | apply bl_drew))).mono C1.out.le)) (by have := C1.out.le; simp; omega) (by first | exact Blk.new _ _ _ | exact Blk.new_ _ _ _ _ (by simp) | exact (Blk.new _ _ _).drewN _ | exact (Blk.new _ _ _).gw _) (by omega) (by omega)).mono ?_
  rintro e w2 ⟨x2, hmx2, rfl, r1, g1⟩
  have C2 := Lib.hid r1
  have G2 := Lib.hid ((gb_below G1.out ((show Below (w1).heap.size (w1) _ from (by repeat (first | assumption | exact Below.refl _ _ | apply bl_gw | apply bl_alloc | apply bl_drewN | apply bl_drew))).mono G1.out.size)).trans g1)
  have g1' := g1
  clear r1 g1
  have K2 := Lib.hid ((K0.out.alloc _).grown g1' (by omega))
  clear g1'
  go_wp2_with fail
  refine (among_any [0, 5, 10, 50, 149, 150, 200] 7 rfl _ _ _ _ 3 _ (by omega) (C2.out.below ((show Below (w2).heap.size (w2) _ from (by repeat (first | assumption | exact Below.refl _ _ | apply bl_gw | apply bl_alloc | apply bl_drewN | apply bl_drew))).mono C2.out.le)) (by have := C2.out.le; simp; omega) (by first | exact Blk.new _ _ _ | exact Blk.new_ _ _ _ _ (by simp) | exact (Blk.new _ _ _).drewN _ | exact (Blk.new _ _ _).gw _) (by omega) (by omega)).mono ?_
  rintro e w3 ⟨x3, hmx3, rfl, r1, g1⟩
  have C3 := Lib.hid r1
  have G3 := Lib.hid ((gb_below G2.out ((show Below (w2).heap.size (w2) _ from (by repeat (first | assumption | exact Below.refl _ _ | apply bl_gw | apply bl_alloc | apply bl_drewN | apply bl_drew))).mono G2.out.size)).trans g1)
  have g1' := g1
  clear r1 g1
  have K3 := Lib.hid ((K2.out.alloc _).grown g1' (by omega))
  have hN : w.heap.size < w3.heap.size := by have := K3.out.lt; omega
  clear g1'
  go_wp2_with fail
  refine (pick_any _ _ _ 32 _ (by omega) (by omega) (C3.out.below ((show Below (w3).heap.size (w3) _ from (by repeat (first | assumption | exact Below.refl _ _ | apply bl_gw | apply bl_alloc | apply bl_drewN | apply bl_drew))).mono C3.out.le))).mono ?_
  rintro e w4 ⟨x4, hmx4, rfl, r1, g1⟩
  have C4 := Lib.hid r1
  have G4 := Lib.hid ((gb_below G3.out ((show Below (w3).heap.size (w3) _ from (by repeat (first | assumption | exact Below.refl _ _ | apply bl_gw | apply bl_alloc | apply bl_drewN | apply bl_drew))).mono G3.out.size)).trans g1)
  have g1' := g1
  clear r1 g1
  have K4 := Lib.hid ((K3.out.alloc _).grown g1' (by omega))
  have Q4 := Lib.hid (((by first | exact Blk.new _ _ _ | exact Blk.new_ _ _ _ _ (by simp) | exact (Blk.new _ _ _).drewN _ | exact (Blk.new _ _ _).gw _) : Blk (w3.alloc (.cells #[.int .i64 x1, .int .i64 x2, .int .i64 x3] 24)) w3.heap.size 24 #[.int .i64 x1, .int .i64 x2, .int .i64 x3]).grown g1' (by omega))
  clear g1'
  rcases (show x4 = 0 ∨ x4 = 1 ∨ (¬ x4 = 0 ∧ ¬ x4 = 1) by omega) with rfl | rfl | ⟨q0, q1⟩
  · go_wp2_with fail
    refine (among_any [0, 2001] 2 rfl _ _ _ _ 3 _ (by omega) (C4.out.below ((show Below (w4).heap.size (w4) _ from (by repeat (first | assumption | exact Below.refl _ _ | apply bl_gw | apply bl_alloc | apply bl_drewN | apply bl_drew))).mono C4.out.le)) (by have := C4.out.le; simp; omega) (by first | exact Blk.new _ _ _ | exact Blk.new_ _ _ _ _ (by simp) | exact (Blk.new _ _ _).drewN _ | exact (Blk.new _ _ _).gw _) (by omega) (by omega)).mono ?_
    rintro e w5 ⟨x5, hmx5, rfl, r1, g1⟩
    have C5 := Lib.hid r1
    have G5 := Lib.hid ((gb_below G4.out ((show Below (w4).heap.size (w4) _ from (by repeat (first | assumption | exact Below.refl _ _ | apply bl_gw | apply bl_alloc | apply bl_drewN | apply bl_drew))).mono G4.out.size)).trans g1)
    have g1' := g1
    clear r1 g1
    have K5 := Lib.hid ((K4.out.alloc _).grown g1' (by omega))
    have Q5 := Lib.hid ((Q4.out.alloc _).grown g1' (by omega))
    clear g1'
    have r0 : (w5).cell? ⟨w.heap.size, 0, none⟩ = some (.int .i64 0) := K5.out.cell 0
    have r1 : (w5).cell? ⟨w.heap.size, 1, none⟩ = some (.int .i64 0) := K5.out.cell 1
    have r2 : (w5).cell? ⟨w.heap.size, 2, none⟩ = some (.int .i64 0) := K5.out.cell 2
    have f0 := K5.out.frozen 0
    have f1 := K5.out.frozen 1
    have f2 := K5.out.frozen 2
    have e0 : (w5).cell? ⟨w3.heap.size, 0, none⟩ = some (.int .i64 x1) := Q5.out.cell 0
    have e1 : (w5).cell? ⟨w3.heap.size, 1, none⟩ = some (.int .i64 x2) := Q5.out.cell 1
    have e2 : (w5).cell? ⟨w3.heap.size, 2, none⟩ = some (.int .i64 x3) := Q5.out.cell 2
    have h0 := Q5.out.frozen 0
    have h1 := Q5.out.frozen 1
    have h2 := Q5.out.frozen 2
    have hl1 := K5.out.lt
    have hl2 := Q5.out.lt
    have hne1 : (w3.heap.size : Nat) ≠ w.heap.size := by omega
    have hgk : w.heap.size ≤ w3.heap.size := by omega
    go_wp2
    refine bodyPost_ret (v := .agg #[.int .i64 x5, .int .i64 x2, .int .i64 x3]) (by simp [results, Try.results68, go_sem, r0, r1, r2]) rfl ?_
    exact ⟨_, _, _, rfl, draw_end C5.out G5.out hle (by omega) (by repeat (first | assumption | exact Below.refl _ _ | apply Below.drew | apply below_drewN | (refine Below.setCell ?_ (by dsimp only; omega) _)))⟩
  · go_wp2_with fail
    refine (among_any [-1, 201] 2 rfl _ _ _ _ 3 _ (by omega) (C4.out.below ((show Below (w4).heap.size (w4) _ from (by repeat (first | assumption | exact Below.refl _ _ | apply bl_gw | apply bl_alloc | apply bl_drewN | apply bl_drew))).mono C4.out.le)) (by have := C4.out.le; simp; omega) (by first | exact Blk.new _ _ _ | exact Blk.new_ _ _ _ _ (by simp) | exact (Blk.new _ _ _).drewN _ | exact (Blk.new _ _ _).gw _) (by omega) (by omega)).mono ?_
    rintro e w5 ⟨x5, hmx5, rfl, r1, g1⟩
    have C5 := Lib.hid r1
    have G5 := Lib.hid ((gb_below G4.out ((show Below (w4).heap.size (w4) _ from (by repeat (first | assumption | exact Below.refl _ _ | apply bl_gw | apply bl_alloc | apply bl_drewN | apply bl_drew))).mono G4.out.size)).trans g1)
    have g1' := g1
    clear r1 g1
    have K5 := Lib.hid ((K4.out.alloc _).grown g1' (by omega))
    have Q5 := Lib.hid ((Q4.out.alloc _).grown g1' (by omega))
    clear g1'
    have r0 : (w5).cell? ⟨w.heap.size, 0, none⟩ = some (.int .i64 0) := K5.out.cell 0
    have r1 : (w5).cell? ⟨w.heap.size, 1, none⟩ = some (.int .i64 0) := K5.out.cell 1
    have r2 : (w5).cell? ⟨w.heap.size, 2, none⟩ = some (.int .i64 0) := K5.out.cell 2
    have f0 := K5.out.frozen 0
    have f1 := K5.out.frozen 1
    have f2 := K5.out.frozen 2
    have e0 : (w5).cell? ⟨w3.heap.size, 0, none⟩ = some (.int .i64 x1) := Q5.out.cell 0
    have e1 : (w5).cell? ⟨w3.heap.size, 1, none⟩ = some (.int .i64 x2) := Q5.out.cell 1
    have e2 : (w5).cell? ⟨w3.heap.size, 2, none⟩ = some (.int .i64 x3) := Q5.out.cell 2
    have h0 := Q5.out.frozen 0
    have h1 := Q5.out.frozen 1
    have h2 := Q5.out.frozen 2
    have hl1 := K5.out.lt
    have hl2 := Q5.out.lt
    have hne1 : (w3.heap.size : Nat) ≠ w.heap.size := by omega
    have hgk : w.heap.size ≤ w3.heap.size := by omega
    go_wp2
    refine bodyPost_ret (v := .agg #[.int .i64 x1, .int .i64 x2, .int .i64 x5]) (by simp [results, Try.results68, go_sem, r0, r1, r2]) rfl ?_
    exact ⟨_, _, _, rfl, draw_end C5.out G5.out hle (by omega) (by repeat (first | assumption | exact Below.refl _ _ | apply Below.drew | apply below_drewN | (refine Below.setCell ?_ (by dsimp only; omega) _)))⟩
  · have q0' : ¬ (x4 : Int) = 0 := by omega
    have q1' : ¬ (x4 : Int) = 1 := by omega
    have q2' : ((x4 : Int) == 0) = false := beq_eq_false_iff_ne.2 q0'
    have q3' : ((x4 : Int) == 1) = false := beq_eq_false_iff_ne.2 q1'
    have r0 : (w4).cell? ⟨w.heap.size, 0, none⟩ = some (.int .i64 0) := K4.out.cell 0
    have r1 : (w4).cell? ⟨w.heap.size, 1, none⟩ = some (.int .i64 0) := K4.out.cell 1
    have r2 : (w4).cell? ⟨w.heap.size, 2, none⟩ = some (.int .i64 0) := K4.out.cell 2
    have f0 := K4.out.frozen 0
    have f1 := K4.out.frozen 1
    have f2 := K4.out.frozen 2
    have e0 : (w4).cell? ⟨w3.heap.size, 0, none⟩ = some (.int .i64 x1) := Q4.out.cell 0
    have e1 : (w4).cell? ⟨w3.heap.size, 1, none⟩ = some (.int .i64 x2) := Q4.out.cell 1
    have e2 : (w4).cell? ⟨w3.heap.size, 2, none⟩ = some (.int .i64 x3) := Q4.out.cell 2
    have h0 := Q4.out.frozen 0
    have h1 := Q4.out.frozen 1
    have h2 := Q4.out.frozen 2
    have hl1 := K4.out.lt
    have hl2 := Q4.out.lt
    have hne1 : (w3.heap.size : Nat) ≠ w.heap.size := by omega
    have hgk : w.heap.size ≤ w3.heap.size := by omega
    go_wp2
    refine bodyPost_ret (v := .agg #[.int .i64 x1, .int .i64 x2, .int .i64 x3]) (by simp [results, Try.results68, go_sem, r0, r1, r2]) rfl ?_
    exact ⟨_, _, _, rfl, draw_end C4.out G4.out hle (by omega) (by repeat (first | assumption | exact Below.refl _ _ | apply Below.drew | apply below_drewN | (refine Below.setCell ?_ (by dsimp only; omega) _)))⟩
set_option maxRecDepth 4000 in
set_option maxHeartbeats 8000000 in
theorem blows_any (B p k : Nat) (w : World) (hk : k ≤ 1000) (h : Cur w B p k) :
    Calls Try.prog 71 #[.pointer (some ⟨p, 0, none⟩)] w fun e w' => ∃ v l, e = .returned v ∧ List.length l ≤ 40 ∧ Own encBlow w' w.heap.size 62 v l ∧ Cur w' B p (k + 200) ∧ w.grownBy w' (some p) := by
  have HC := Lib.hid h
  have HG := Lib.hid (World.grownBy.refl w (some p))
  have hpB := h.lt
  have hle := h.le
  clear h
  obtain ⟨i0, hinf, hz0, hz1, hz2⟩ := info_parts info_Blow
  go_enter Try.func71, Try.ntmps71
  go_wp2_with fail
  refine (among_any [0, 5, 9990] 3 rfl _ _ _ _ 3 _ (by omega) (HC.out.below ((show Below (w).heap.size (w) _ from (by repeat (first | assumption | exact Below.refl _ _ | apply bl_gw | apply bl_alloc | apply bl_drewN | apply bl_drew))).mono HC.out.le)) (by have := HC.out.le; simp; omega) (by first | exact Blk.new _ _ _ | exact Blk.new_ _ _ _ _ (by simp) | exact (Blk.new _ _ _).drewN _ | exact (Blk.new _ _ _).gw _) (by omega) (by omega)).mono ?_
  rintro e w1 ⟨x1, hmx1, rfl, r1, g1⟩
  have C1 := Lib.hid r1
  have G1 := Lib.hid ((gb_below HG.out ((show Below (w).heap.size (w) _ from (by repeat (first | assumption | exact Below.refl _ _ | apply bl_gw | apply bl_alloc | apply bl_drewN | apply bl_drew))).mono HG.out.size)).trans g1)
  have g1' := g1
  clear r1 g1
  have O1 := Lib.hid (((Own.nil_ (E := encBlow) (Nat.le_refl w.heap.size) 62).past (bl_alloc (Below.refl _ _) _) (Nat.le_refl _)).drawn g1' (by omega))
  clear g1'
  go_wp2_with fail
  refine (pick_any _ _ _ 8 _ (by omega) (by omega) (C1.out.below ((show Below (w1).heap.size (w1) _ from (by repeat (first | assumption | exact Below.refl _ _ | apply bl_gw | apply bl_alloc | apply bl_drewN | apply bl_drew))).mono C1.out.le))).mono ?_
  rintro e w2 ⟨x2, hmx2, rfl, r1, g1⟩
  have C2 := Lib.hid r1
  have G2 := Lib.hid ((gb_below G1.out ((show Below (w1).heap.size (w1) _ from (by repeat (first | assumption | exact Below.refl _ _ | apply bl_gw | apply bl_alloc | apply bl_drewN | apply bl_drew))).mono G1.out.size)).trans g1)
  have g1' := g1
  clear r1 g1
  have O2 := Lib.hid (O1.out.drawn g1' (by omega))
  clear g1'
  go_wp2
  go_loopw [3, 4, 5] (fun u hv mv wr => ∃ (l : List Blow) (h : Int) (m : Nat), l.length + m ≤ 7 ∧ hv = .int .i64 h ∧ mv = .int .i64 m ∧ Own encBlow wr w.heap.size 62 u l ∧ Cur wr B p (k + 4 + 6 * l.length) ∧ w.grownBy wr (some p)) (fun _ _ mv _ => (intOf mv).toNat)
  case atStart => exact ⟨[], x1, x2, by simp; omega, rfl, rfl, O2.out, C2.out.mono (by simp), G2.out⟩
  case round =>
    obtain ⟨l, h, m, hlm, rfl, rfl, ho, hc, hg⟩ := hrel
    have HO := Lib.hid ho
    have C3 := Lib.hid hc
    have G3 := Lib.hid hg
    clear ho hc hg
    by_cases hm : 0 < m
    · have m1 : (0 : Int) < m := by omega
      go_wp2_with fail
      refine (among_any [0, 5, 10, 15, 20, 30, 60] 7 rfl _ _ _ _ 3 _ (by omega) (C3.out.below ((show Below (wr).heap.size (wr) _ from (by repeat (first | assumption | exact Below.refl _ _ | apply bl_gw | apply bl_alloc | apply bl_drewN | apply bl_drew))).mono C3.out.le)) (by have := C3.out.le; simp; omega) (by first | exact Blk.new _ _ _ | exact Blk.new_ _ _ _ _ (by simp) | exact (Blk.new _ _ _).drewN _ | exact (Blk.new _ _ _).gw _) (by omega) (by omega)).mono ?_
      rintro e w3 ⟨x4, hmx4, rfl, r1, g1⟩
      have C4 := Lib.hid r1
      have G4 := Lib.hid ((gb_below G3.out ((show Below (wr).heap.size (wr) _ from (by repeat (first | assumption | exact Below.refl _ _ | apply bl_gw | apply bl_alloc | apply bl_drewN | apply bl_drew))).mono G3.out.size)).trans g1)
      have g1' := g1
      clear r1 g1
      have O4 := Lib.hid ((HO.out.past (bl_alloc (Below.refl _ _) _) (Nat.le_refl _)).drawn g1' (by omega))
      clear g1'
      go_wp2_with fail
      refine (pick_any _ _ _ 4 _ (by omega) (by omega) (C4.out.below ((show Below (w3).heap.size (w3) _ from (by repeat (first | assumption | exact Below.refl _ _ | apply bl_gw | apply bl_alloc | apply bl_drewN | apply bl_drew))).mono C4.out.le))).mono ?_
      rintro e w4 ⟨x5, hmx5, rfl, r1, g1⟩
      have C4' := Lib.hid r1
      have G4' := Lib.hid ((gb_below G4.out ((show Below (w3).heap.size (w3) _ from (by repeat (first | assumption | exact Below.refl _ _ | apply bl_gw | apply bl_alloc | apply bl_drewN | apply bl_drew))).mono G4.out.size)).trans g1)
      have g1' := g1
      clear r1 g1
      have O4' := Lib.hid (O4.out.drawn g1' (by omega))
      clear g1'
      go_wp2_with (at_builtin; refine halt ?_)
      unfold Halt
      refine wpList_app2 (E := encBlow) rfl (.tmp 16) (.tmp 24) 36 rfl w.heap.size 62 i0 _ 24 Try.underlying36 hinf hz0 hz1 hz2 rfl (by decide) _ _ rfl O4'.out ⟨h, x4, x5⟩ _ rfl (by first | rfl | (rw [alloc_size]; rfl)) (by unfold maxLen; omega) (by omega) (by have := G4'.out.size; simp; omega) ?_
      intro v5 w5 ho5 hb5
      have O5 := Lib.hid ho5
      have C5 := Lib.hid (C4'.out.below (hb5 B hle))
      have G5 := Lib.hid (gb_below G4'.out (hb5 _ (Nat.le_refl _)))
      clear ho5 hb5
      go_wp2_with fail
      refine (among_any [1, 1, 2, 6] 4 rfl _ _ _ _ 3 _ (by omega) (C5.out.below ((show Below (w5).heap.size (w5) _ from (by repeat (first | assumption | exact Below.refl _ _ | apply bl_gw | apply bl_alloc | apply bl_drewN | apply bl_drew))).mono C5.out.le)) (by have := C5.out.le; simp; omega) (by first | exact Blk.new _ _ _ | exact Blk.new_ _ _ _ _ (by simp) | exact (Blk.new _ _ _).drewN _ | exact (Blk.new _ _ _).gw _) (by omega) (by omega)).mono ?_
      rintro e w6 ⟨x6, hmx6, rfl, r1, g1⟩
      have C6 := Lib.hid r1
      have G6 := Lib.hid ((gb_below G5.out ((show Below (w5).heap.size (w5) _ from (by repeat (first | assumption | exact Below.refl _ _ | apply bl_gw | apply bl_alloc | apply bl_drewN | apply bl_drew))).mono G5.out.size)).trans g1)
      have g1' := g1
      clear r1 g1
      have O6 := Lib.hid ((O5.out.past (bl_alloc (Below.refl _ _) _) (Nat.le_refl _)).drawn g1' (by omega))
      clear g1'
      obtain ⟨m', rfl⟩ : ∃ m', m = m' + 1 := ⟨m - 1, by omega⟩
      have m2 : IntKind.i64.wrap (((m' + 1 : Nat) : Int) - 1) = m' := by rw [IntWalk.i64_in _ (by omega)]; omega
      go_wp2
      go_roundw
      case rel => exact ⟨_, _, m', by simp; omega, rfl, rfl, O6.out, C6.out.mono (by simp; omega), G6.out⟩
      case measure => simp [intOf]
    · obtain rfl : m = 0 := by omega
      have hl7 : l.length ≤ 7 := by omega
      go_wp2_with fail
      refine (pick_any _ _ _ 32 _ (by omega) (by omega) (C3.out.below ((show Below (wr).heap.size (wr) _ from (by repeat (first | assumption | exact Below.refl _ _ | apply bl_gw | apply bl_alloc | apply bl_drewN | apply bl_drew))).mono C3.out.le))).mono ?_
      rintro e w7 ⟨x7, hmx7, rfl, r1, g1⟩
      have C7 := Lib.hid r1
      have G7 := Lib.hid ((gb_below G3.out ((show Below (wr).heap.size (wr) _ from (by repeat (first | assumption | exact Below.refl _ _ | apply bl_gw | apply bl_alloc | apply bl_drewN | apply bl_drew))).mono G3.out.size)).trans g1)
      have g1' := g1
      clear r1 g1
      have O7 := Lib.hid (HO.out.drawn g1' (by omega))
      clear g1'
      rcases (show x7 = 0 ∨ x7 = 1 ∨ (¬ x7 = 0 ∧ ¬ x7 = 1) by omega) with rfl | rfl | ⟨q0, q1⟩
      · go_wp2_with fail
        refine (among_any [-1, 0, 10000] 3 rfl _ _ _ _ 3 _ (by omega) (C7.out.below ((show Below (w7).heap.size (w7) _ from (by repeat (first | assumption | exact Below.refl _ _ | apply bl_gw | apply bl_alloc | apply bl_drewN | apply bl_drew))).mono C7.out.le)) (by have := C7.out.le; simp; omega) (by first | exact Blk.new _ _ _ | exact Blk.new_ _ _ _ _ (by simp) | exact (Blk.new _ _ _).drewN _ | exact (Blk.new _ _ _).gw _) (by omega) (by omega)).mono ?_
        rintro e w8 ⟨x8, hmx8, rfl, r1, g1⟩
        have C8 := Lib.hid r1
        have G8 := Lib.hid ((gb_below G7.out ((show Below (w7).heap.size (w7) _ from (by repeat (first | assumption | exact Below.refl _ _ | apply bl_gw | apply bl_alloc | apply bl_drewN | apply bl_drew))).mono G7.out.size)).trans g1)
        have g1' := g1
        clear r1 g1
        have O8 := Lib.hid ((O7.out.past (bl_alloc (Below.refl _ _) _) (Nat.le_refl _)).drawn g1' (by omega))
        clear g1'
        go_wp2_with fail
        refine (among_any [-1, 61] 2 rfl _ _ _ _ 3 _ (by omega) (C8.out.below ((show Below (w8).heap.size (w8) _ from (by repeat (first | assumption | exact Below.refl _ _ | apply bl_gw | apply bl_alloc | apply bl_drewN | apply bl_drew))).mono C8.out.le)) (by have := C8.out.le; simp; omega) (by first | exact Blk.new _ _ _ | exact Blk.new_ _ _ _ _ (by simp) | exact (Blk.new _ _ _).drewN _ | exact (Blk.new _ _ _).gw _) (by omega) (by omega)).mono ?_
        rintro e w9 ⟨x9, hmx9, rfl, r1, g1⟩
        have C9 := Lib.hid r1
        have G9 := Lib.hid ((gb_below G8.out ((show Below (w8).heap.size (w8) _ from (by repeat (first | assumption | exact Below.refl _ _ | apply bl_gw | apply bl_alloc | apply bl_drewN | apply bl_drew))).mono G8.out.size)).trans g1)
        have g1' := g1
        clear r1 g1
        have O9 := Lib.hid ((O8.out.past (bl_alloc (Below.refl _ _) _) (Nat.le_refl _)).drawn g1' (by omega))
        clear g1'
        go_wp2_with fail
        refine (among_any [0, 4] 2 rfl _ _ _ _ 3 _ (by omega) (C9.out.below ((show Below (w9).heap.size (w9) _ from (by repeat (first | assumption | exact Below.refl _ _ | apply bl_gw | apply bl_alloc | apply bl_drewN | apply bl_drew))).mono C9.out.le)) (by have := C9.out.le; simp; omega) (by first | exact Blk.new _ _ _ | exact Blk.new_ _ _ _ _ (by simp) | exact (Blk.new _ _ _).drewN _ | exact (Blk.new _ _ _).gw _) (by omega) (by omega)).mono ?_
        rintro e w4 ⟨x4, hmx4, rfl, r1, g1⟩
        have C4 := Lib.hid r1
        have G4 := Lib.hid ((gb_below G9.out ((show Below (w9).heap.size (w9) _ from (by repeat (first | assumption | exact Below.refl _ _ | apply bl_gw | apply bl_alloc | apply bl_drewN | apply bl_drew))).mono G9.out.size)).trans g1)
        have g1' := g1
        clear r1 g1
        have O4 := Lib.hid ((O9.out.past (bl_alloc (Below.refl _ _) _) (Nat.le_refl _)).drawn g1' (by omega))
        clear g1'
        go_wp2_with (at_builtin; refine halt ?_)
        unfold Halt
        refine wpList_app2 (E := encBlow) rfl (.tmp 35) (.tmp 46) 36 rfl w.heap.size 62 i0 _ 24 Try.underlying36 hinf hz0 hz1 hz2 rfl (by decide) _ _ rfl O4.out ⟨x8, x9, x4⟩ _ rfl (by first | rfl | (rw [alloc_size]; rfl)) (by unfold maxLen; omega) (by omega) (by have := G4.out.size; simp; omega) ?_
        intro v5 w5 ho5 hb5
        have O5 := Lib.hid ho5
        have C5 := Lib.hid (C4.out.below (hb5 B hle))
        have G5 := Lib.hid (gb_below G4.out (hb5 _ (Nat.le_refl _)))
        clear ho5 hb5
        go_wp2
        go_ret
        exact ⟨_, _, rfl, by simp; omega, O5.out, C5.out.mono (by omega), G5.out⟩
      · go_wp2
        go_loopw [3, 4] (fun u hv wr => ∃ (l : List Blow) (h : Int), l.length ≤ 21 ∧ hv = .int .i64 h ∧ Own encBlow wr w.heap.size 62 u l ∧ Cur wr B p (k + 60 + 2 * l.length) ∧ w.grownBy wr (some p)) (fun u _ _ => 22 - sliceLen u)
        case atStart => exact ⟨l, h, by omega, rfl, O7.out, C7.out.mono (by omega), G7.out⟩
        case round =>
          obtain ⟨l', h', hl', rfl, ho, hc, hg⟩ := hrel
          obtain ⟨A', c', rfl, _, _, _⟩ := ho.slice
          have HO' := Lib.hid ho
          have C8 := Lib.hid hc
          have G8 := Lib.hid hg
          clear ho hc hg
          go_wp2_with fail
          refine (pick_any _ _ _ 2 _ (by omega) (by omega) (C8.out.below ((show Below (wr).heap.size (wr) _ from (by repeat (first | assumption | exact Below.refl _ _ | apply bl_gw | apply bl_alloc | apply bl_drewN | apply bl_drew))).mono C8.out.le))).mono ?_
          rintro e w9 ⟨x9, hmx9, rfl, r1, g1⟩
          have C9 := Lib.hid r1
          have G9 := Lib.hid ((gb_below G8.out ((show Below (wr).heap.size (wr) _ from (by repeat (first | assumption | exact Below.refl _ _ | apply bl_gw | apply bl_alloc | apply bl_drewN | apply bl_drew))).mono G8.out.size)).trans g1)
          have g1' := g1
          clear r1 g1
          have O9 := Lib.hid (HO'.out.drawn g1' (by omega))
          clear g1'
          have k9 : IntKind.i64.wrap (20 + (x9 : Int)) = 20 + (x9 : Int) := IntWalk.i64_in _ (by omega)
          by_cases hlt : (l'.length : Int) < 20 + (x9 : Int)
          · go_wp2_with (at_builtin; refine halt ?_)
            unfold Halt
            refine wpList_app2 (E := encBlow) rfl (.tmp 56) (.tmp 59) 36 rfl w.heap.size 62 i0 _ 24 Try.underlying36 hinf hz0 hz1 hz2 rfl (by decide) _ _ rfl O9.out ⟨h', 3, 0⟩ _ rfl (by first | rfl | (rw [alloc_size]; rfl)) (by unfold maxLen; omega) (by omega) (by have := G9.out.size; simp; omega) ?_
            intro v5 w5 ho5 hb5
            have O5 := Lib.hid ho5
            have C5 := Lib.hid (C9.out.below (hb5 B hle))
            have G5 := Lib.hid (gb_below G9.out (hb5 _ (Nat.le_refl _)))
            clear ho5 hb5
            go_wp2
            go_roundw
            case rel => exact ⟨_, _, by simp; omega, rfl, O5.out, C5.out.mono (by simp; omega), G5.out⟩
            case measure =>
              obtain ⟨A6, c6, rfl, _, _, _⟩ := O5.out.slice
              simp [sliceLen]; omega
          · go_wp2
            go_ret
            exact ⟨_, _, rfl, by omega, O9.out, C9.out.mono (by omega), G9.out⟩
      · have q0' : ¬ (x7 : Int) = 0 := by omega
        have q1' : ¬ (x7 : Int) = 1 := by omega
        have q2' : ((x7 : Int) == 0) = false := beq_eq_false_iff_ne.2 q0'
        have q3' : ((x7 : Int) == 1) = false := beq_eq_false_iff_ne.2 q1'
        go_wp2
        go_ret
        exact ⟨_, _, rfl, by omega, O7.out, C7.out.mono (by omega), G7.out⟩
end Go.Proofs.Ytopdbacgceoddaa
