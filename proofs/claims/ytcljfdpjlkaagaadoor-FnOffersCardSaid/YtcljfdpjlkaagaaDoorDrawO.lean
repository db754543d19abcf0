/- The draws of the law on offers: a list and a day; a list, a contract's id and tons; one contract. -/
import Derived.Test.YtcljfdpjlkaagaaDoorDrawR
import Derived.Deep.Cut
import Derived.Deep.RegionHeld3
namespace Go.Proofs.YtcljfdpjlkaagaaDoor
open Go.RowKit
set_option maxRecDepth 4000 in
set_option maxHeartbeats 4000000 in
/-- 'among' of the first n of a block's numbers. -/
theorem among_cut (xs : List Int) (n cap : Nat) (hn : n ≤ xs.length) (B p k b : Nat) (t : TypeId) (w : World) (hk : k ≤ 1000000) (h : Cur w B p k) (hB : B ≤ b) (hx : Blk w b t (xs.map (Value.int .i64)).toArray) (h0 : 0 < n) (h1 : n ≤ 100) :
    Calls Tryd.prog 25 #[.pointer (some ⟨p, 0, none⟩), .slice (some ⟨b, 0, none⟩) n cap] w fun e w' => ∃ x, x ∈ xs ∧ e = .returned (.int .i64 x) ∧ Cur w' B p (k + 2) ∧ w.grownBy w' (some p) := by
  have HC := Lib.hid h
  have HX := Lib.hid hx
  have hpB := h.lt
  clear h hx
  go_enter Tryd.func25, Tryd.ntmps25
  go_wp2_with fail
  refine (pick_any B p k n _ hk (by omega) HC.out).mono ?_
  rintro e w1 ⟨r, hr, rfl, r1, g1⟩
  have hr' : r < n := by omega
  obtain ⟨x, hxx⟩ : ∃ x, xs[r]? = some x := ⟨xs[r]'(by omega), List.getElem?_eq_getElem _⟩
  have hcell : w1.cell? ⟨b, r, none⟩ = some (.int .i64 x) := by
    have e1 := HX.out.cell r
    have e2 := g1.block b HX.out.lt (by intro e; injection e with e; omega)
    rw [World.cell?_of_block (a := ⟨b, r, none⟩) e2, e1]
    simp [hxx]
  have HM := Lib.hid (List.mem_of_getElem? hxx)
  have hbw : b < w1.heap.size := Nat.lt_of_lt_of_le HX.out.lt g1.size
  have R1 := Lib.hid r1
  have G1 := Lib.hid g1
  have k1 : (r : Int) < n := by omega
  have k2 : (0 : Int) ≤ r := by omega
  clear r1 g1 hxx hr
  go_wp2
  go_ret
  exact ⟨x, HM.out, rfl, R1.out, G1.out⟩
set_option maxRecDepth 4000 in
set_option maxHeartbeats 4000000 in
theorem drawOpenOn_any (A : Option Addr) (n c : Nat) (w : World) (hc : Bytes w A n) :
    Calls Tryd.prog 9 #[.slice A n c] w fun e w' => ∃ v l, ∃ d : Int, e = .returned (.tuple #[v, .int .i64 d]) ∧ List.length l ≤ 11 ∧ Own encContract w' w.heap.size 26 v l ∧ Below w.heap.size w w' := by
  have HC := Lib.hid (Cur.new hc c 51)
  have HB := Lib.hid (show Below w.heap.size w (w.alloc (.cells #[.slice A n c, .int .i64 0, .int .u64 0] 51)) from (by repeat (first | assumption | exact Below.refl _ _ | apply bl_gw | apply bl_alloc | apply bl_drewN | apply bl_drew)))
  have HY := Lib.hid hc
  clear hc
  go_enter Tryd.func9, Tryd.ntmps9
  go_wp2_with fail
  refine (contracts_any _ _ _ _ (by omega) (HC.out.below ((show Below ((w.alloc (.cells #[.slice A n c, .int .i64 0, .int .u64 0] 51))).heap.size ((w.alloc (.cells #[.slice A n c, .int .i64 0, .int .u64 0] 51))) _ from (by repeat (first | assumption | exact Below.refl _ _ | apply bl_gw | apply bl_alloc | apply bl_drewN | apply bl_drew))).mono HC.out.le))).mono ?_
  rintro e w1 ⟨v1, l1, rfl, hll1, o1, r1, g1⟩
  have O1 := Lib.hid (o1.lower (Nat.le_trans HC.out.le (by simp)))
  clear o1
  have C1 := Lib.hid r1
  have B1 := Lib.hid (HB.out.trans (((show Below ((w.alloc (.cells #[.slice A n c, .int .i64 0, .int .u64 0] 51))).heap.size ((w.alloc (.cells #[.slice A n c, .int .i64 0, .int .u64 0] 51))) _ from (by repeat (first | assumption | exact Below.refl _ _ | apply bl_gw | apply bl_alloc | apply bl_drewN | apply bl_drew))).mono HB.out.size).trans (gb_toBelow g1 (by have := HB.out.size; simp at this ⊢; try omega) (by simp))))
  have g1' := g1
  clear r1 g1
  clear g1'
  go_wp2_with fail
  refine (pick_any _ _ _ 24 _ (by omega) (by omega) (C1.out.below ((show Below (w1).heap.size (w1) _ from (by repeat (first | assumption | exact Below.refl _ _ | apply bl_gw | apply bl_alloc | apply bl_drewN | apply bl_drew))).mono C1.out.le))).mono ?_
  rintro e w2 ⟨x2, hmx2, rfl, r1, g1⟩
  have C2 := Lib.hid r1
  have B2 := Lib.hid (B1.out.trans (((show Below (w1).heap.size (w1) _ from (by repeat (first | assumption | exact Below.refl _ _ | apply bl_gw | apply bl_alloc | apply bl_drewN | apply bl_drew))).mono B1.out.size).trans (gb_toBelow g1 (by have := B1.out.size; simp at this ⊢; try omega) (by simp))))
  have g1' := g1
  clear r1 g1
  have O2 := Lib.hid ((O1.out.past (bl_alloc (Below.refl w1.heap.size w1) _) (Nat.le_refl _)).drawn g1' (by omega))
  have K2 := Lib.hid ((Blk.new w1 3 #[.int .i64 0, .int .i64 5, .int .i64 10, .int .i64 20, .int .i64 21, .int .i64 4000, .int .i64 (-1), .int .i64 4001]).grown g1' (by have := C1.out.le; omega))
  have hsz1 := B1.out.size
  clear g1' O1
  obtain ⟨q, hq⟩ : ∃ q, x2 / 11 = q := ⟨_, rfl⟩
  have hq2 : q ≤ 2 := by omega
  have e1 : (x2 : Int).tdiv 11 = (q : Int) := by rw [Int.tdiv_eq_ediv_of_nonneg (by omega)]; omega
  have e2 : wrap64 (q : Int) = (q : Int) := by unfold wrap64; omega
  have e3 : IntKind.i64.wrap (6 + (q : Int)) = 6 + (q : Int) := IntWalk.i64_in _ (by omega)
  clear hq hmx2
  go_wp2_with fail
  refine (among_cut [0, 5, 10, 20, 21, 4000, -1, 4001] (6 + q) 8 (by simp; omega) _ _ _ _ 3 _ (by omega) C2.out (by have := C1.out.le; omega) K2.out (by omega) (by omega)).mono ?_
  rintro e w3 ⟨d, _, rfl, r1, g1⟩
  have C3 := Lib.hid r1
  have B3 := Lib.hid (B2.out.trans (((show Below (w2).heap.size (w2) _ from (by repeat (first | assumption | exact Below.refl _ _ | apply bl_gw | apply bl_alloc | apply bl_drewN | apply bl_drew))).mono B2.out.size).trans (gb_toBelow g1 (by have := B2.out.size; simp at this ⊢; try omega) (by simp))))
  have g1' := g1
  clear r1 g1
  have O3 := Lib.hid (O2.out.drawn g1' (by omega))
  clear g1'
  go_wp2
  go_ret2
  exact ⟨_, _, _, rfl, hll1, O3.out.lower (by omega), B3.out⟩
set_option maxRecDepth 4000 in
set_option maxHeartbeats 8000000 in
theorem drawSplit_any (A : Option Addr) (n c : Nat) (w : World) (hc : Bytes w A n) :
    Calls Tryd.prog 13 #[.slice A n c] w fun e w' => ∃ v l, ∃ id t : Int, e = .returned (.tuple #[v, .int .i64 id, .int .i64 t]) ∧ List.length l ≤ 11 ∧ Own encContract w' w.heap.size 26 v l ∧ Below w.heap.size w w' := by
  have HC := Lib.hid (Cur.new hc c 51)
  have HB := Lib.hid (show Below w.heap.size w (w.alloc (.cells #[.slice A n c, .int .i64 0, .int .u64 0] 51)) from (by repeat (first | assumption | exact Below.refl _ _ | apply bl_gw | apply bl_alloc | apply bl_drewN | apply bl_drew)))
  have HY := Lib.hid hc
  clear hc
  go_enter Tryd.func13, Tryd.ntmps13
  go_wp2_with fail
  refine (contracts_any _ _ _ _ (by omega) (HC.out.below ((show Below ((w.alloc (.cells #[.slice A n c, .int .i64 0, .int .u64 0] 51))).heap.size ((w.alloc (.cells #[.slice A n c, .int .i64 0, .int .u64 0] 51))) _ from (by repeat (first | assumption | exact Below.refl _ _ | apply bl_gw | apply bl_alloc | apply bl_drewN | apply bl_drew))).mono HC.out.le))).mono ?_
  rintro e w1 ⟨v1, l1, rfl, hll1, o1, r1, g1⟩
  have O1 := Lib.hid (o1.lower (Nat.le_trans HC.out.le (by simp)))
  clear o1
  have C1 := Lib.hid r1
  have B1 := Lib.hid (HB.out.trans (((show Below ((w.alloc (.cells #[.slice A n c, .int .i64 0, .int .u64 0] 51))).heap.size ((w.alloc (.cells #[.slice A n c, .int .i64 0, .int .u64 0] 51))) _ from (by repeat (first | assumption | exact Below.refl _ _ | apply bl_gw | apply bl_alloc | apply bl_drewN | apply bl_drew))).mono HB.out.size).trans (gb_toBelow g1 (by have := HB.out.size; simp at this ⊢; try omega) (by simp))))
  have g1' := g1
  clear r1 g1
  clear g1'
  obtain ⟨Av, cv, rfl, hcv, _, _⟩ := O1.out.slice
  obtain ⟨n1, hn1⟩ : ∃ m, l1.length = m := ⟨_, rfl⟩
  rw [hn1] at hll1 hcv O1 ⊢
  have HN := Lib.hid hn1
  clear hn1
  by_cases h0 : n1 = 0
  · subst h0
    go_wp2_with fail
    refine (among_any [0, 1, 50] 3 rfl _ _ _ _ 3 _ (by omega) (C1.out.below ((show Below (w1).heap.size (w1) _ from (by repeat (first | assumption | exact Below.refl _ _ | apply bl_gw | apply bl_alloc | apply bl_drewN | apply bl_drew))).mono C1.out.le)) (by have := C1.out.le; simp at this ⊢; try omega) (by first | exact Blk.new _ _ _ | exact Blk.new_ _ _ _ _ (by simp) | exact (Blk.new _ _ _).drewN _ | exact (Blk.new _ _ _).gw _) (by omega) (by omega)).mono ?_
    rintro e w2 ⟨x2, hmx2, rfl, r1, g1⟩
    have C2 := Lib.hid r1
    have B2 := Lib.hid (B1.out.trans (((show Below (w1).heap.size (w1) _ from (by repeat (first | assumption | exact Below.refl _ _ | apply bl_gw | apply bl_alloc | apply bl_drewN | apply bl_drew))).mono B1.out.size).trans (gb_toBelow g1 (by have := B1.out.size; simp at this ⊢; try omega) (by simp))))
    have g1' := g1
    clear r1 g1
    have O2 := Lib.hid ((O1.out.past (bl_alloc (Below.refl w1.heap.size w1) _) (Nat.le_refl _)).drawn g1' (by omega))
    clear g1'
    go_wp2
    go_ret3
    exact ⟨_, _, _, _, rfl, by have := HN.out; omega, O2.out.lower (by omega), B2.out⟩
  · have h1 : (0 : Int) < n1 := by omega
    go_wp2_with fail
    refine (one_any _ _ _ 8 _ (by omega) (by omega) (C1.out.below ((show Below (w1).heap.size (w1) _ from (by repeat (first | assumption | exact Below.refl _ _ | apply bl_gw | apply bl_alloc | apply bl_drewN | apply bl_drew))).mono C1.out.le))).mono ?_
    rintro e w2 ⟨q, rfl, r1, g1⟩
    have C2 := Lib.hid r1
    have B2 := Lib.hid (B1.out.trans (((show Below (w1).heap.size (w1) _ from (by repeat (first | assumption | exact Below.refl _ _ | apply bl_gw | apply bl_alloc | apply bl_drewN | apply bl_drew))).mono B1.out.size).trans (gb_toBelow g1 (by have := B1.out.size; simp at this ⊢; try omega) (by simp))))
    have g1' := g1
    clear r1 g1
    have O2 := Lib.hid (O1.out.drawn g1' (by omega))
    clear g1' O1
    cases q
    case' true =>
      go_wp2_with fail
      refine (among_any [0, 1, 50] 3 rfl _ _ _ _ 3 _ (by omega) (C2.out.below ((show Below (w2).heap.size (w2) _ from (by repeat (first | assumption | exact Below.refl _ _ | apply bl_gw | apply bl_alloc | apply bl_drewN | apply bl_drew))).mono C2.out.le)) (by have := C2.out.le; simp at this ⊢; try omega) (by first | exact Blk.new _ _ _ | exact Blk.new_ _ _ _ _ (by simp) | exact (Blk.new _ _ _).drewN _ | exact (Blk.new _ _ _).gw _) (by omega) (by omega)).mono ?_
      rintro e w3 ⟨x2, hmx2, rfl, r1, g1⟩
      have C3 := Lib.hid r1
      have B3 := Lib.hid (B2.out.trans (((show Below (w2).heap.size (w2) _ from (by repeat (first | assumption | exact Below.refl _ _ | apply bl_gw | apply bl_alloc | apply bl_drewN | apply bl_drew))).mono B2.out.size).trans (gb_toBelow g1 (by have := B2.out.size; simp at this ⊢; try omega) (by simp))))
      have g1' := g1
      clear r1 g1
      have O3 := Lib.hid ((O2.out.past (bl_alloc (Below.refl w2.heap.size w2) _) (Nat.le_refl _)).drawn g1' (by omega))
      clear g1'
      go_wp2
      go_ret3
      exact ⟨_, _, _, _, rfl, by have := HN.out; omega, O3.out.lower (by omega), B3.out⟩
    case' false =>
      go_wp2_with fail
      refine (pick_any _ _ _ n1 _ (by omega) (by omega) (C2.out.below ((show Below (w2).heap.size (w2) _ from (by repeat (first | assumption | exact Below.refl _ _ | apply bl_gw | apply bl_alloc | apply bl_drewN | apply bl_drew))).mono C2.out.le))).mono ?_
      rintro e w3 ⟨r, hmr, rfl, r1, g1⟩
      have C3 := Lib.hid r1
      have B3 := Lib.hid (B2.out.trans (((show Below (w2).heap.size (w2) _ from (by repeat (first | assumption | exact Below.refl _ _ | apply bl_gw | apply bl_alloc | apply bl_drewN | apply bl_drew))).mono B2.out.size).trans (gb_toBelow g1 (by have := B2.out.size; simp at this ⊢; try omega) (by simp))))
      have g1' := g1
      clear r1 g1
      have O3 := Lib.hid (O2.out.drawn g1' (by omega))
      clear g1' O2
      have hr : r < n1 := by omega
      obtain ⟨bk, off, rfl, hb, hcs⟩ := O3.out.rd.contract (by rw [HN.out]; omega)
      have hx : l1[r]? = some (l1[r]'(by rw [HN.out]; exact hr)) := List.getElem?_eq_getElem _
      generalize l1[r]'(by rw [HN.out]; exact hr) = x at hx
      obtain ⟨c0, c1, c2, c3, c4, c5, c6⟩ := hcs r x hx
      clear hcs hx hmr
      obtain ⟨x0, x1, t, x3, x4, x5, x6⟩ := x
      dsimp only at c0 c1 c2 c3 c4 c5 c6
      have k1 : (r : Int) < n1 := by omega
      have k2 : (0 : Int) ≤ r := by omega
      go_upto_region 6 with (fail)
      refine wp_name (fun W0 hW0 => ?_)
      have hB0 := Lib.hid (show Below w3.heap.size w3 W0 by rw [hW0]; exact (by repeat (first | assumption | exact Below.refl _ _ | apply bl_gw | apply bl_alloc | apply bl_drewN | apply bl_drew)))
      have hK0 := Lib.hid (show Blk W0 w3.heap.size 26 #[.int .i64 x0, .int .i64 x1, .int .i64 t, .int .i64 x3, .int .i64 x4, .int .i64 x5, .int .i64 x6] by rw [hW0]; exact (by first | exact Blk.new _ _ _ | exact Blk.new_ _ _ _ _ (by simp) | exact (Blk.new _ _ _).drewN _ | exact (Blk.new _ _ _).gw _))
      clear hW0
      have m0 : W0.cell? ⟨w3.heap.size, 0, none⟩ = some (.int .i64 x0) := hK0.out.cell 0
      have m2 : W0.cell? ⟨w3.heap.size, 2, none⟩ = some (.int .i64 t) := hK0.out.cell 2
      have hlt0 := hK0.out.lt
      have C0 := Lib.hid (C3.out.below (hB0.out.mono C3.out.le))
      have hle0 := C0.out.le
      have G0 := Lib.hid (B3.out.trans (hB0.out.mono B3.out.size))
      have O0 := Lib.hid (O3.out.past hB0.out (Nat.le_refl _))
      have HK := Lib.hid (fun (W : World) (hW : W0.grownBy W (some w.heap.size)) => (show W.cell? ⟨w3.heap.size, 0, none⟩ = some (.int .i64 x0) ∧ W.cell? ⟨w3.heap.size, 2, none⟩ = some (.int .i64 t) from by
        have hk := hK0.out.grown hW (by have := C3.out.le; omega)
        exact ⟨hk.cell 0, hk.cell 2⟩))
      clear c0 c1 c2 c3 c4 c5 c6 O3 C3 B3 hb k1 k2
      go_region_held3 (fun w' => w'.cell? ⟨w3.heap.size, 0, none⟩ = some (.int .i64 x0) ∧ w'.cell? ⟨w3.heap.size, 2, none⟩ = some (.int .i64 t)) (go_keep)
        (first | (go_at_call 25; refine (among_any [1, IntKind.i64.wrap (t.tdiv 2), IntKind.i64.wrap (t - 1), t, 0] 5 rfl _ _ _ _ 3 _ (by omega) (C0.out.below ((show Below W0.heap.size W0 _ from (by repeat (first | assumption | exact Below.refl _ _ | apply bl_gw | apply bl_alloc | apply bl_drewN | apply bl_drew))).mono C0.out.le)) hle0 (by first | exact Blk.new _ _ _ | exact Blk.new_ _ _ _ _ (by simp) | exact (Blk.new _ _ _).drewN _ | exact (Blk.new _ _ _).gw _) (by omega) (by omega)).mono ?_; rintro e u2 ⟨z, _, rfl, r1, g1⟩; have GG := Lib.hid ((gb_below (World.grownBy.refl W0 (some w.heap.size)) (show Below W0.heap.size W0 _ from (by repeat (first | assumption | exact Below.refl _ _ | apply bl_gw | apply bl_alloc | apply bl_drewN | apply bl_drew)))).trans g1); obtain ⟨M0, M2⟩ := HK.out u2 GG.out; have hlu : w3.heap.size < u2.heap.size := (Nat.lt_of_lt_of_le hlt0 GG.out.size); clear r1 g1))
      have O4 := Lib.hid (O0.out.drawn GG.out (by omega))
      have B4 := Lib.hid (G0.out.trans (gb_toBelow GG.out (by omega) (by omega)))
      go_wp2
      go_ret3
      exact ⟨_, _, _, _, rfl, by have := HN.out; omega, O4.out.lower (by omega), B4.out⟩
set_option maxRecDepth 4000 in
set_option maxHeartbeats 8000000 in
theorem drawContract_any (A : Option Addr) (n c : Nat) (w : World) (hc : Bytes w A n) :
    Calls Tryd.prog 39 #[.slice A n c] w fun e w' => ∃ a0 a1 a2 a3 a4 a5 a6 : Int, e = .returned (.agg #[.int .i64 a0, .int .i64 a1, .int .i64 a2, .int .i64 a3, .int .i64 a4, .int .i64 a5, .int .i64 a6]) ∧ Below w.heap.size w w' := by
  have hcn := Cur.new (hc.past (bl_alloc (Below.refl _ _) (.cells #[.int .i64 0, .int .i64 0, .int .i64 0, .int .i64 0, .int .i64 0, .int .i64 0, .int .i64 0] 26))) c 51
  rw [show (w.alloc (.cells #[.int .i64 0, .int .i64 0, .int .i64 0, .int .i64 0, .int .i64 0, .int .i64 0, .int .i64 0] 26)).heap.size = w.heap.size + 1 by simp] at hcn
  have HC := Lib.hid hcn
  clear hcn
  have HB := Lib.hid (show Below w.heap.size w ((w.alloc (.cells #[.int .i64 0, .int .i64 0, .int .i64 0, .int .i64 0, .int .i64 0, .int .i64 0, .int .i64 0] 26)).alloc (.cells #[.slice A n c, .int .i64 0, .int .u64 0] 51)) from (by repeat (first | assumption | exact Below.refl _ _ | apply bl_gw | apply bl_alloc | apply bl_drewN | apply bl_drew)))
  have HR := Lib.hid ((Blk.new w 26 #[.int .i64 0, .int .i64 0, .int .i64 0, .int .i64 0, .int .i64 0, .int .i64 0, .int .i64 0]).alloc (.cells #[.slice A n c, .int .i64 0, .int .u64 0] 51))
  clear hc
  go_enter Tryd.func39, Tryd.ntmps39
  go_wp2_with fail
  refine (among_any [1, 42, 99] 3 rfl _ _ _ _ 3 _ (by omega) (HC.out.below ((show Below ((w.alloc (.cells #[.int .i64 0, .int .i64 0, .int .i64 0, .int .i64 0, .int .i64 0, .int .i64 0, .int .i64 0] 26)).alloc (.cells #[.slice A n c, .int .i64 0, .int .u64 0] 51)).heap.size ((w.alloc (.cells #[.int .i64 0, .int .i64 0, .int .i64 0, .int .i64 0, .int .i64 0, .int .i64 0, .int .i64 0] 26)).alloc (.cells #[.slice A n c, .int .i64 0, .int .u64 0] 51)) _ from (by repeat (first | assumption | exact Below.refl _ _ | apply bl_gw | apply bl_alloc | apply bl_drewN | apply bl_drew))).mono HC.out.le)) (by have := HC.out.le; simp at this ⊢; try omega) (by first | exact Blk.new _ _ _ | exact Blk.new_ _ _ _ _ (by simp) | exact (Blk.new _ _ _).drewN _ | exact (Blk.new _ _ _).gw _) (by omega) (by omega)).mono ?_
  rintro e w1 ⟨x1, hmx1, rfl, r1, g1⟩
  have C1 := Lib.hid r1
  have B1 := Lib.hid (HB.out.trans (((show Below ((w.alloc (.cells #[.int .i64 0, .int .i64 0, .int .i64 0, .int .i64 0, .int .i64 0, .int .i64 0, .int .i64 0] 26)).alloc (.cells #[.slice A n c, .int .i64 0, .int .u64 0] 51)).heap.size ((w.alloc (.cells #[.int .i64 0, .int .i64 0, .int .i64 0, .int .i64 0, .int .i64 0, .int .i64 0, .int .i64 0] 26)).alloc (.cells #[.slice A n c, .int .i64 0, .int .u64 0] 51)) _ from (by repeat (first | assumption | exact Below.refl _ _ | apply bl_gw | apply bl_alloc | apply bl_drewN | apply bl_drew))).mono HB.out.size).trans (gb_toBelow g1 (by have := HB.out.size; simp at this ⊢; try omega) (by simp))))
  have g1' := g1
  clear r1 g1
  have K1 := Lib.hid ((HR.out.alloc _).grown g1' (by simp))
  clear g1' hmx1
  go_wp2_with fail
  refine (contract_any _ _ _ _ _ (by omega) (C1.out.below ((show Below w1.heap.size w1 _ from (by repeat (first | assumption | exact Below.refl _ _ | apply bl_gw | apply bl_alloc | apply bl_drewN | apply bl_drew))).mono C1.out.le))).mono ?_
  rintro e w2 ⟨a0, a1, a2, a3, a4, a5, a6, rfl, r1, g1⟩
  have C2 := Lib.hid r1
  have B2 := Lib.hid (B1.out.trans (((show Below (w1).heap.size (w1) _ from (by repeat (first | assumption | exact Below.refl _ _ | apply bl_gw | apply bl_alloc | apply bl_drewN | apply bl_drew))).mono B1.out.size).trans (gb_toBelow g1 (by have := B1.out.size; simp at this ⊢; try omega) (by simp))))
  have g1' := g1
  clear r1 g1
  have K2 := Lib.hid (K1.out.grown g1' (by simp))
  clear g1' K1 HR HC HB C1 B1
  have r0 : w2.cell? ⟨w.heap.size, 0, none⟩ = some (.int .i64 0) := K2.out.cell 0
  have r1 : w2.cell? ⟨w.heap.size, 1, none⟩ = some (.int .i64 0) := K2.out.cell 1
  have r2 : w2.cell? ⟨w.heap.size, 2, none⟩ = some (.int .i64 0) := K2.out.cell 2
  have r3 : w2.cell? ⟨w.heap.size, 3, none⟩ = some (.int .i64 0) := K2.out.cell 3
  have r4 : w2.cell? ⟨w.heap.size, 4, none⟩ = some (.int .i64 0) := K2.out.cell 4
  have r5 : w2.cell? ⟨w.heap.size, 5, none⟩ = some (.int .i64 0) := K2.out.cell 5
  have r6 : w2.cell? ⟨w.heap.size, 6, none⟩ = some (.int .i64 0) := K2.out.cell 6
  have f0 := K2.out.frozen 0
  have f1 := K2.out.frozen 1
  have f2 := K2.out.frozen 2
  have f3 := K2.out.frozen 3
  have f4 := K2.out.frozen 4
  have f5 := K2.out.frozen 5
  have f6 := K2.out.frozen 6
  have hl1' := K2.out.lt
  go_wp2
  have KE := Lib.hid (show Blk ((((((((w2).setCell ⟨w.heap.size, 0, none⟩ (.int .i64 a0)).setCell ⟨w.heap.size, 1, none⟩ (.int .i64 a1)).setCell ⟨w.heap.size, 2, none⟩ (.int .i64 a2)).setCell ⟨w.heap.size, 3, none⟩ (.int .i64 a3)).setCell ⟨w.heap.size, 4, none⟩ (.int .i64 a4)).setCell ⟨w.heap.size, 5, none⟩ (.int .i64 a5)).setCell ⟨w.heap.size, 6, none⟩ (.int .i64 a6)) w.heap.size 26 #[.int .i64 a0, .int .i64 a1, .int .i64 a2, .int .i64 a3, .int .i64 a4, .int .i64 a5, .int .i64 a6] from (((((((K2.out).set_ 0 (.int .i64 a0)).set_ 1 (.int .i64 a1)).set_ 2 (.int .i64 a2)).set_ 3 (.int .i64 a3)).set_ 4 (.int .i64 a4)).set_ 5 (.int .i64 a5)).set_ 6 (.int .i64 a6))
  have BE := Lib.hid (show Below w.heap.size w2 ((((((((w2).setCell ⟨w.heap.size, 0, none⟩ (.int .i64 a0)).setCell ⟨w.heap.size, 1, none⟩ (.int .i64 a1)).setCell ⟨w.heap.size, 2, none⟩ (.int .i64 a2)).setCell ⟨w.heap.size, 3, none⟩ (.int .i64 a3)).setCell ⟨w.heap.size, 4, none⟩ (.int .i64 a4)).setCell ⟨w.heap.size, 5, none⟩ (.int .i64 a5)).setCell ⟨w.heap.size, 6, none⟩ (.int .i64 a6)) from (((((((Below.refl w.heap.size w2).setCell (p := ⟨w.heap.size, 0, none⟩) (Nat.le_refl _) (.int .i64 a0)).setCell (p := ⟨w.heap.size, 1, none⟩) (Nat.le_refl _) (.int .i64 a1)).setCell (p := ⟨w.heap.size, 2, none⟩) (Nat.le_refl _) (.int .i64 a2)).setCell (p := ⟨w.heap.size, 3, none⟩) (Nat.le_refl _) (.int .i64 a3)).setCell (p := ⟨w.heap.size, 4, none⟩) (Nat.le_refl _) (.int .i64 a4)).setCell (p := ⟨w.heap.size, 5, none⟩) (Nat.le_refl _) (.int .i64 a5)).setCell (p := ⟨w.heap.size, 6, none⟩) (Nat.le_refl _) (.int .i64 a6))
  clear r0 r1 r2 r3 r4 r5 r6 f0 f1 f2 f3 f4 f5 f6
  generalize ((((((((w2).setCell ⟨w.heap.size, 0, none⟩ (.int .i64 a0)).setCell ⟨w.heap.size, 1, none⟩ (.int .i64 a1)).setCell ⟨w.heap.size, 2, none⟩ (.int .i64 a2)).setCell ⟨w.heap.size, 3, none⟩ (.int .i64 a3)).setCell ⟨w.heap.size, 4, none⟩ (.int .i64 a4)).setCell ⟨w.heap.size, 5, none⟩ (.int .i64 a5)).setCell ⟨w.heap.size, 6, none⟩ (.int .i64 a6)) = wE at KE BE ⊢
  have r0 : wE.cell? ⟨w.heap.size, 0, none⟩ = some (.int .i64 a0) := KE.out.cell 0
  have r1 : wE.cell? ⟨w.heap.size, 1, none⟩ = some (.int .i64 a1) := KE.out.cell 1
  have r2 : wE.cell? ⟨w.heap.size, 2, none⟩ = some (.int .i64 a2) := KE.out.cell 2
  have r3 : wE.cell? ⟨w.heap.size, 3, none⟩ = some (.int .i64 a3) := KE.out.cell 3
  have r4 : wE.cell? ⟨w.heap.size, 4, none⟩ = some (.int .i64 a4) := KE.out.cell 4
  have r5 : wE.cell? ⟨w.heap.size, 5, none⟩ = some (.int .i64 a5) := KE.out.cell 5
  have r6 : wE.cell? ⟨w.heap.size, 6, none⟩ = some (.int .i64 a6) := KE.out.cell 6
  refine bodyPost_ret (v := .agg #[.int .i64 a0, .int .i64 a1, .int .i64 a2, .int .i64 a3, .int .i64 a4, .int .i64 a5, .int .i64 a6]) (by simp [results, Tryd.results39, go_sem, r0, r1, r2, r3, r4, r5, r6]) rfl ?_
  exact ⟨_, _, _, _, _, _, _, rfl, B2.out.trans BE.out⟩
end Go.Proofs.YtcljfdpjlkaagaaDoor
