/- The draw of the law on what spills in an hour. -/
import Derived.Test.YtopdbacgceoddaaDrawX
import Derived.Deep.RegionHeld3
namespace Go.Proofs.Ytopdbacgceoddaa
open Go.RowKit
theorem blow_hour_at {w : World} {base bk off n c k : Nat} {e : TypeId} {l : List Blow} (h : Own encBlow w base e (.slice (some ⟨bk, off, none⟩) n c) l) (hk : k < l.length) :
    bk < w.heap.size ∧ ∃ hv, w.cell? ⟨bk, off + k * 3, none⟩ = some (.int .i64 hv) := by
  obtain ⟨b', off', e', hb, hcs⟩ := h.rd.blow (by omega)
  injection e' with e'
  injection e' with e1 e2
  subst e1 e2
  exact ⟨hb, _, (hcs k _ (List.getElem?_eq_getElem hk)).1⟩
set_option maxRecDepth 4000 in
set_option maxHeartbeats 8000000 in
theorem drawSpilledIn_any (A : Option Addr) (n c : Nat) (w : World) (hc : Bytes w A n) :
    Calls Try.prog 44 #[.slice A n c] w fun e w' => ∃ v l, ∃ x y z h : Int, e = .returned (.tuple #[v, .agg #[.int .i64 x, .int .i64 y, .int .i64 z], .int .i64 h]) ∧ List.length l ≤ 40 ∧ Own encBlow w' w.heap.size 62 v l ∧ Below w.heap.size w w' := by
  have hcn := Cur.new (hc.past (bl_alloc (Below.refl _ _) (.cells #[.int .i64 0, .int .i64 0, .int .i64 0] 24))) c 85
  rw [show (w.alloc (.cells #[.int .i64 0, .int .i64 0, .int .i64 0] 24)).heap.size = w.heap.size + 1 by simp] at hcn
  have HC := Lib.hid hcn
  clear hcn
  have HB := Lib.hid (show Below w.heap.size w ((w.alloc (.cells #[.int .i64 0, .int .i64 0, .int .i64 0] 24)).alloc (.cells #[.slice A n c, .int .i64 0, .int .u64 0] 85)) from (by repeat (first | assumption | exact Below.refl _ _ | apply bl_gw | apply bl_alloc | apply bl_drewN | apply bl_drew)))
  have HR := Lib.hid ((Blk.new w 24 #[.int .i64 0, .int .i64 0, .int .i64 0]).alloc (.cells #[.slice A n c, .int .i64 0, .int .u64 0] 85))
  clear hc
  go_enter Try.func44, Try.ntmps44
  go_wp2_with fail
  refine (blows_any _ _ _ _ (by omega) (HC.out.below ((show Below (((w.alloc (.cells #[.int .i64 0, .int .i64 0, .int .i64 0] 24)).alloc (.cells #[.slice A n c, .int .i64 0, .int .u64 0] 85))).heap.size (((w.alloc (.cells #[.int .i64 0, .int .i64 0, .int .i64 0] 24)).alloc (.cells #[.slice A n c, .int .i64 0, .int .u64 0] 85))) _ from (by repeat (first | assumption | exact Below.refl _ _ | apply bl_gw | apply bl_alloc | apply bl_drewN | apply bl_drew))).mono HC.out.le))).mono ?_
  rintro e w1 ⟨v1, l1, rfl, hll1, o1, r1, g1⟩
  have O1 := Lib.hid (o1.lower (Nat.le_trans HC.out.le (by simp)))
  clear o1
  have C1 := Lib.hid r1
  have B1 := Lib.hid (HB.out.trans (((show Below (((w.alloc (.cells #[.int .i64 0, .int .i64 0, .int .i64 0] 24)).alloc (.cells #[.slice A n c, .int .i64 0, .int .u64 0] 85))).heap.size (((w.alloc (.cells #[.int .i64 0, .int .i64 0, .int .i64 0] 24)).alloc (.cells #[.slice A n c, .int .i64 0, .int .u64 0] 85))) _ from (by repeat (first | assumption | exact Below.refl _ _ | apply bl_gw | apply bl_alloc | apply bl_drewN | apply bl_drew))).mono HB.out.size).trans (gb_toBelow g1 (by have := HB.out.size; simp at this ⊢; try omega) (by simp))))
  have g1' := g1
  clear r1 g1
  have R1 := Lib.hid (HR.out.grown g1' (by simp))
  clear g1'
  obtain ⟨A1, cc1, rfl, _, _, _⟩ := O1.out.slice
  by_cases h0 : (0 : Int) < (l1.length : Int)
  · go_wp2_with fail
    refine (one_any _ _ _ 4 _ (by omega) (by omega) (C1.out.below ((show Below (w1).heap.size (w1) _ from (by repeat (first | assumption | exact Below.refl _ _ | apply bl_gw | apply bl_alloc | apply bl_drewN | apply bl_drew))).mono C1.out.le))).mono ?_
    rintro e w1' ⟨q, rfl, r1, g1⟩
    have C1' := Lib.hid r1
    have B1' := Lib.hid (B1.out.trans (((show Below (w1).heap.size (w1) _ from (by repeat (first | assumption | exact Below.refl _ _ | apply bl_gw | apply bl_alloc | apply bl_drewN | apply bl_drew))).mono B1.out.size).trans (gb_toBelow g1 (by have := B1.out.size; simp at this ⊢; try omega) (by simp))))
    have g1' := g1
    clear r1 g1
    have R1' := Lib.hid (R1.out.grown g1' (by simp))
    have O1' := Lib.hid (O1.out.drawn g1' (by simp))
    clear g1'
    cases q
    · go_wp2
      obtain ⟨bk, off, rfl, _⟩ := O1'.out.rd.blow (by omega)
      go_region_with (first
        | (go_at_call 68; refine (lake_any _ _ _ _ (by omega) (C1'.out.below ((show Below w1'.heap.size w1' _ from (by repeat (first | assumption | exact Below.refl _ _ | apply bl_gw | apply bl_alloc | apply bl_drewN | apply bl_drew))).mono C1'.out.le))).mono ?_; rintro e w2 ⟨x1, x2, x3, rfl, r1, g1⟩; have C2 := Lib.hid r1; have G2 := Lib.hid g1; clear r1 g1)
        | (go_at_call 70; refine (pick_any _ _ _ _ _ (by omega) (by omega) C2.out).mono ?_; rintro e w3 ⟨x4, hx4, rfl, r1, g1⟩; have C3 := Lib.hid r1; have G3 := Lib.hid g1; clear r1 g1; have hx5 : x4 < l1.length := (by omega); have O3 := Lib.hid (((O1'.out.past (show Below w1'.heap.size w1' _ from (by repeat (first | assumption | exact Below.refl _ _ | apply bl_gw | apply bl_alloc | apply bl_drewN | apply bl_drew))) (Nat.le_refl _)).drawn G2.out (by simp)).drawn G3.out (by simp)); obtain ⟨hb, hv, c0⟩ := blow_hour_at O3.out hx5; have k1 : (x4 : Int) < l1.length := (by omega); have k2 : (0 : Int) ≤ x4 := (by omega); have R3 := Lib.hid (((R1'.out.past (show Below w1'.heap.size w1' _ from (by repeat (first | assumption | exact Below.refl _ _ | apply bl_gw | apply bl_alloc | apply bl_drewN | apply bl_drew)))).grown G2.out (by simp)).grown G3.out (by simp)); have r0 : w3.cell? ⟨w.heap.size, 0, none⟩ = some (.int .i64 0) := R3.out.cell 0; have r1 : w3.cell? ⟨w.heap.size, 1, none⟩ = some (.int .i64 0) := R3.out.cell 1; have r2 : w3.cell? ⟨w.heap.size, 2, none⟩ = some (.int .i64 0) := R3.out.cell 2; have f0 := R3.out.frozen 0; have f1 := R3.out.frozen 1; have f2 := R3.out.frozen 2; have hl1 := R3.out.lt; have hbk := O3.out.row bk rfl; have hne1 : bk ≠ w.heap.size := (by omega); have hne2 : w.heap.size ≠ bk := (by omega)))
      all_goals
        have hne : Value.ownBlock (.slice (some ⟨bk, off, none⟩) l1.length cc1) ≠ some w.heap.size := fun h => by have := O3.out.row _ h; omega
        have B3 := Lib.hid ((B1'.out.trans ((show Below w1'.heap.size w1' w1'.drew from bl_drew (Below.refl _ _)).mono B1'.out.size)).trans (gb_toBelow (G2.out.trans G3.out) (by have := B1'.out.size; simp at this ⊢; omega) (by simp)))
        go_wp2
        refine bodyPost_ret (v := .tuple #[.slice (some ⟨bk, off, none⟩) l1.length cc1, .agg #[.int .i64 x1, .int .i64 x2, .int .i64 x3], .int .i64 hv]) (by simp [results, Try.results44, go_sem, r0, r1, r2]) rfl ?_
        exact ⟨_, _, _, _, _, _, rfl, hll1, ((((O3.out.afar hne _).afar hne _).afar hne _).lower (by omega)), B3.out.trans (by repeat (first | assumption | exact Below.refl _ _ | apply Below.drew | apply below_drewN | (refine Below.setCell ?_ (by dsimp only; omega) _)))⟩
    · go_wp2_with fail
      refine (lake_any _ _ _ _ (by omega) (C1'.out.below ((show Below (w1').heap.size (w1') _ from (by repeat (first | assumption | exact Below.refl _ _ | apply bl_gw | apply bl_alloc | apply bl_drewN | apply bl_drew))).mono C1'.out.le))).mono ?_
      rintro e w2 ⟨x1, x2, x3, rfl, r1, g1⟩
      have C2 := Lib.hid r1
      have B2 := Lib.hid (B1'.out.trans (((show Below (w1').heap.size (w1') _ from (by repeat (first | assumption | exact Below.refl _ _ | apply bl_gw | apply bl_alloc | apply bl_drewN | apply bl_drew))).mono B1'.out.size).trans (gb_toBelow g1 (by have := B1'.out.size; simp at this ⊢; try omega) (by simp))))
      have g1' := g1
      clear r1 g1
      have R2 := Lib.hid (R1'.out.grown g1' (by simp))
      have O2 := Lib.hid (O1'.out.drawn g1' (by simp))
      clear g1'
      go_wp2_with fail
      refine (among_any [0, 3, 9999, 10000, -1] 5 rfl _ _ _ _ 3 _ (by omega) (C2.out.below ((show Below (w2).heap.size (w2) _ from (by repeat (first | assumption | exact Below.refl _ _ | apply bl_gw | apply bl_alloc | apply bl_drewN | apply bl_drew))).mono C2.out.le)) (by have := C2.out.le; simp at this ⊢; try omega) (by first | exact Blk.new _ _ _ | exact Blk.new_ _ _ _ _ (by simp) | exact (Blk.new _ _ _).drewN _ | exact (Blk.new _ _ _).gw _) (by omega) (by omega)).mono ?_
      rintro e w3 ⟨y, hmy, rfl, r1, g1⟩
      have C3 := Lib.hid r1
      have B3 := Lib.hid (B2.out.trans (((show Below (w2).heap.size (w2) _ from (by repeat (first | assumption | exact Below.refl _ _ | apply bl_gw | apply bl_alloc | apply bl_drewN | apply bl_drew))).mono B2.out.size).trans (gb_toBelow g1 (by have := B2.out.size; simp at this ⊢; try omega) (by simp))))
      have g1' := g1
      clear r1 g1
      have R3 := Lib.hid ((R2.out.alloc _).grown g1' (by simp))
      have O3 := Lib.hid ((O2.out.past (bl_alloc (Below.refl _ _) _) (Nat.le_refl _)).drawn g1' (by simp))
      clear g1'
      have hne : Value.ownBlock (.slice A1 l1.length cc1) ≠ some w.heap.size := fun h => by have := O3.out.row _ h; omega
      have r0 : (w3).cell? ⟨w.heap.size, 0, none⟩ = some (.int .i64 0) := R3.out.cell 0
      have r1 : (w3).cell? ⟨w.heap.size, 1, none⟩ = some (.int .i64 0) := R3.out.cell 1
      have r2 : (w3).cell? ⟨w.heap.size, 2, none⟩ = some (.int .i64 0) := R3.out.cell 2
      have f0 := R3.out.frozen 0
      have f1 := R3.out.frozen 1
      have f2 := R3.out.frozen 2
      have hl1 := R3.out.lt
      go_wp2
      refine bodyPost_ret (v := .tuple #[.slice A1 l1.length cc1, .agg #[.int .i64 x1, .int .i64 x2, .int .i64 x3], .int .i64 y]) (by simp [results, Try.results44, go_sem, r0, r1, r2]) rfl ?_
      exact ⟨_, _, _, _, _, _, rfl, hll1, ((((O3.out.afar hne _).afar hne _).afar hne _).lower (by omega)), B3.out.trans (by repeat (first | assumption | exact Below.refl _ _ | apply Below.drew | apply below_drewN | (refine Below.setCell ?_ (by dsimp only; omega) _)))⟩
  · go_wp2_with fail
    refine (lake_any _ _ _ _ (by omega) (C1.out.below ((show Below (w1).heap.size (w1) _ from (by repeat (first | assumption | exact Below.refl _ _ | apply bl_gw | apply bl_alloc | apply bl_drewN | apply bl_drew))).mono C1.out.le))).mono ?_
    rintro e w2 ⟨x1, x2, x3, rfl, r1, g1⟩
    have C2 := Lib.hid r1
    have B2 := Lib.hid (B1.out.trans (((show Below (w1).heap.size (w1) _ from (by repeat (first | assumption | exact Below.refl _ _ | apply bl_gw | apply bl_alloc | apply bl_drewN | apply bl_drew))).mono B1.out.size).trans (gb_toBelow g1 (by have := B1.out.size; simp at this ⊢; try omega) (by simp))))
    have g1' := g1
    clear r1 g1
    have R2 := Lib.hid (R1.out.grown g1' (by simp))
    have O2 := Lib.hid (O1.out.drawn g1' (by simp))
    clear g1'
    go_wp2_with fail
    refine (among_any [0, 3, 9999, 10000, -1] 5 rfl _ _ _ _ 3 _ (by omega) (C2.out.below ((show Below (w2).heap.size (w2) _ from (by repeat (first | assumption | exact Below.refl _ _ | apply bl_gw | apply bl_alloc | apply bl_drewN | apply bl_drew))).mono C2.out.le)) (by have := C2.out.le; simp at this ⊢; try omega) (by first | exact Blk.new _ _ _ | exact Blk.new_ _ _ _ _ (by simp) | exact (Blk.new _ _ _).drewN _ | exact (Blk.new _ _ _).gw _) (by omega) (by omega)).mono ?_
    rintro e w3 ⟨y, hmy, rfl, r1, g1⟩
    have C3 := Lib.hid r1
    have B3 := Lib.hid (B2.out.trans (((show Below (w2).heap.size (w2) _ from (by repeat (first | assumption | exact Below.refl _ _ | apply bl_gw | apply bl_alloc | apply bl_drewN | apply bl_drew))).mono B2.out.size).trans (gb_toBelow g1 (by have := B2.out.size; simp at this ⊢; try omega) (by simp))))
    have g1' := g1
    clear r1 g1
    have R3 := Lib.hid ((R2.out.alloc _).grown g1' (by simp))
    have O3 := Lib.hid ((O2.out.past (bl_alloc (Below.refl _ _) _) (Nat.le_refl _)).drawn g1' (by simp))
    clear g1'
    have hne : Value.ownBlock (.slice A1 l1.length cc1) ≠ some w.heap.size := fun h => by have := O3.out.row _ h; omega
    have r0 : (w3).cell? ⟨w.heap.size, 0, none⟩ = some (.int .i64 0) := R3.out.cell 0
    have r1 : (w3).cell? ⟨w.heap.size, 1, none⟩ = some (.int .i64 0) := R3.out.cell 1
    have r2 : (w3).cell? ⟨w.heap.size, 2, none⟩ = some (.int .i64 0) := R3.out.cell 2
    have f0 := R3.out.frozen 0
    have f1 := R3.out.frozen 1
    have f2 := R3.out.frozen 2
    have hl1 := R3.out.lt
    go_wp2
    refine bodyPost_ret (v := .tuple #[.slice A1 l1.length cc1, .agg #[.int .i64 x1, .int .i64 x2, .int .i64 x3], .int .i64 y]) (by simp [results, Try.results44, go_sem, r0, r1, r2]) rfl ?_
    exact ⟨_, _, _, _, _, _, rfl, hll1, ((((O3.out.afar hne _).afar hne _).afar hne _).lower (by omega)), B3.out.trans (by repeat (first | assumption | exact Below.refl _ _ | apply Below.drew | apply below_drewN | (refine Below.setCell ?_ (by dsimp only; omega) _)))⟩
end Go.Proofs.Ytopdbacgceoddaa
