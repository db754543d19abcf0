/- The draws of the law on the quay. -/
import Derived.Test.YtggdcjajiaeklaaDoorDrawQ
import Derived.Deep.Cut
namespace Go.Proofs.YtggdcjajiaeklaaDoor
open Go.RowKit
set_option maxRecDepth 4000 in
set_option maxHeartbeats 4000000 in
/-- 'among' of the first n of a block's numbers. -/
theorem among_cut (xs : List Int) (n cap : Nat) (hn : n ≤ xs.length) (B p k b : Nat) (t : TypeId) (w : World) (hk : k ≤ 1000000) (h : Cur w B p k) (hB : B ≤ b) (hx : Blk w b t (xs.map (Value.int .i64)).toArray) (h0 : 0 < n) (h1 : n ≤ 100) :
    Calls Tryd.prog 40 #[.pointer (some ⟨p, 0, none⟩), .slice (some ⟨b, 0, none⟩) n cap] w fun e w' => ∃ x, x ∈ xs ∧ e = .returned (.int .i64 x) ∧ Cur w' B p (k + 2) ∧ w.grownBy w' (some p) := by
  have HC := Lib.hid h
  have HX := Lib.hid hx
  have hpB := h.lt
  clear h hx
  go_enter Tryd.func40, Tryd.ntmps40
  go_wp2_with fail
  refine (pick_any B p k n _ hk (by omega) HC.out).mono ?_
  rintro e w1 ⟨r, hr, rfl, r1, g1⟩
  have hr' : r < n := by omega
  obtain ⟨x, hxx⟩ : ∃ x, xs[r]? = some x := ⟨xs[r]'(by omega), List.getElem?_eq_getElem _⟩
  have hcell : w1.cell? ⟨b, r, none⟩ = some (.int .i64 x) := by
    have e1 := HX.out.cell r
    have e2 := g1.block b HX.out.lt (by intro e; injection e with e; omega)
    rw [World.cell?_of_block (a := ⟨b, r, none⟩) e2, e1]
    simp [hxx]
  have HM := Lib.hid (List.mem_of_getElem? hxx)
  have hbw : b < w1.heap.size := Nat.lt_of_lt_of_le HX.out.lt g1.size
  have R1 := Lib.hid r1
  have G1 := Lib.hid g1
  have k1 : (r : Int) < n := by omega
  have k2 : (0 : Int) ≤ r := by omega
  clear r1 g1 hxx hr
  go_wp2
  go_ret
  exact ⟨x, HM.out, rfl, R1.out, G1.out⟩
theorem cut_q {x : Nat} (h : x < 24) : x / 11 ≤ 2 ∧ (x : Int).tdiv 11 = ((x / 11 : Nat) : Int) ∧ wrap64 ((x / 11 : Nat) : Int) = ((x / 11 : Nat) : Int) ∧ IntKind.i64.wrap (6 + ((x / 11 : Nat) : Int)) = 6 + ((x / 11 : Nat) : Int) := by
  have h1 : x / 11 ≤ 2 := by omega
  refine ⟨h1, by rw [Int.tdiv_eq_ediv_of_nonneg (by omega)]; omega, ?_, ?_⟩
  · generalize x / 11 = q at h1
    unfold wrap64; omega
  · generalize x / 11 = q at h1
    exact IntWalk.i64_in _ (by omega)
theorem sl_draw {α : Type} {E : Enc α} {w wr : World} {B p : Nat} {A : Option Addr} {l : List α} (h : Sl E w B A l) (hne : ∀ a, A = some a → a.block ≠ p) (hB : B ≤ w.heap.size) (hg : w.grownBy wr (some p)) : Sl E wr B A l := fun hn => by
  obtain ⟨b, off, e, hb, hc⟩ := h hn
  have hbp : b ≠ p := hne _ e
  exact ⟨b, off, e, hb, fun i x hx j z hz => (World.cell?_of_block (a := ⟨b, _, none⟩) (hg.block b (by omega) (fun h => by injection h with h; exact hbp h))).trans (hc i x hx j z hz)⟩
set_option maxRecDepth 4000 in
set_option maxHeartbeats 4000000 in
theorem shipId_any (l : List Ship) (n : Nat) (hn : l.length = n) (A : Option Addr) (cap B p k : Nat) (w : World) (hk : k ≤ 10000) (hn11 : n ≤ 11) (hA : ∀ a, A = some a → a.block ≠ p) (hc : Sl encShip w w.heap.size A l) (h : Cur w B p k) :
    Calls Tryd.prog 39 #[.pointer (some ⟨p, 0, none⟩), .slice A n cap] w fun e w' => ∃ z : Int, e = .returned (.int .i64 z) ∧ Cur w' B p (k + 4) ∧ w.grownBy w' (some p) := by
  have HC := Lib.hid h
  have HS := Lib.hid hc
  have HN := Lib.hid hn
  have HA := Lib.hid hA
  have HG := Lib.hid (World.grownBy.refl w (some p))
  have hpB := h.lt
  have hle := h.le
  clear h hc hn hA
  go_enter Tryd.func39, Tryd.ntmps39
  by_cases h0 : n = 0
  · subst h0
    go_wp2_with fail
    refine (among_any [0, 1, 50] 3 rfl _ _ _ _ 3 _ (by omega) (HC.out.below ((show Below (w).heap.size (w) _ from (by repeat (first | assumption | exact Below.refl _ _ | apply bl_gw | apply bl_alloc | apply bl_drewN | apply bl_drew))).mono HC.out.le)) (by have := HC.out.le; simp; omega) (by first | exact Blk.new _ _ _ | exact Blk.new_ _ _ _ _ (by simp) | exact (Blk.new _ _ _).drewN _ | exact (Blk.new _ _ _).gw _) (by omega) (by omega)).mono ?_
    rintro e w1 ⟨x1, hmx1, rfl, r1, g1⟩
    have C1 := Lib.hid r1
    have G1 := Lib.hid ((gb_below HG.out ((show Below (w).heap.size (w) _ from (by repeat (first | assumption | exact Below.refl _ _ | apply bl_gw | apply bl_alloc | apply bl_drewN | apply bl_drew))).mono HG.out.size)).trans g1)
    have g1' := g1
    clear r1 g1
    clear g1'
    go_wp2
    go_ret
    exact ⟨_, rfl, C1.out.mono (by omega), G1.out⟩
  · have hb0 : ((n : Int) == 0) = false := beq_eq_false_iff_ne.2 (by omega)
    have hb1 : ¬ (n : Int) = 0 := by omega
    go_wp2_with fail
    refine (one_any _ _ _ 10 _ (by omega) (by omega) (HC.out.below ((show Below (w).heap.size (w) _ from (by repeat (first | assumption | exact Below.refl _ _ | apply bl_gw | apply bl_alloc | apply bl_drewN | apply bl_drew))).mono HC.out.le))).mono ?_
    rintro e w1 ⟨q, rfl, r1, g1⟩
    have C1 := Lib.hid r1
    have G1 := Lib.hid ((gb_below HG.out ((show Below (w).heap.size (w) _ from (by repeat (first | assumption | exact Below.refl _ _ | apply bl_gw | apply bl_alloc | apply bl_drewN | apply bl_drew))).mono HG.out.size)).trans g1)
    have g1' := g1
    clear r1 g1
    clear g1'
    cases q
    case' true =>
      go_wp2_with fail
      refine (among_any [0, 1, 50] 3 rfl _ _ _ _ 3 _ (by omega) (C1.out.below ((show Below (w1).heap.size (w1) _ from (by repeat (first | assumption | exact Below.refl _ _ | apply bl_gw | apply bl_alloc | apply bl_drewN | apply bl_drew))).mono C1.out.le)) (by have := C1.out.le; simp; omega) (by first | exact Blk.new _ _ _ | exact Blk.new_ _ _ _ _ (by simp) | exact (Blk.new _ _ _).drewN _ | exact (Blk.new _ _ _).gw _) (by omega) (by omega)).mono ?_
      rintro e w2 ⟨x1, hmx1, rfl, r1, g1⟩
      have C2 := Lib.hid r1
      have G2 := Lib.hid ((gb_below G1.out ((show Below (w1).heap.size (w1) _ from (by repeat (first | assumption | exact Below.refl _ _ | apply bl_gw | apply bl_alloc | apply bl_drewN | apply bl_drew))).mono G1.out.size)).trans g1)
      have g1' := g1
      clear r1 g1
      clear g1'
      go_wp2
      go_ret
      exact ⟨_, rfl, C2.out.mono (by omega), G2.out⟩
    case' false =>
      go_wp2_with fail
      refine (pick_any _ _ _ n _ (by omega) (by omega) (C1.out.below ((show Below (w1).heap.size (w1) _ from (by repeat (first | assumption | exact Below.refl _ _ | apply bl_gw | apply bl_alloc | apply bl_drewN | apply bl_drew))).mono C1.out.le))).mono ?_
      rintro e w2 ⟨r, hmr, rfl, r1, g1⟩
      have C2 := Lib.hid r1
      have G2 := Lib.hid ((gb_below G1.out ((show Below (w1).heap.size (w1) _ from (by repeat (first | assumption | exact Below.refl _ _ | apply bl_gw | apply bl_alloc | apply bl_drewN | apply bl_drew))).mono G1.out.size)).trans g1)
      have g1' := g1
      clear r1 g1
      clear g1'
      have hr : r < n := by omega
      obtain ⟨bk, off, rfl, hb, hcs⟩ := (sl_draw HS.out HA.out (Nat.le_refl _) G2.out).ship (by rw [HN.out]; omega)
      have hx : l[r]? = some (l[r]'(by rw [HN.out]; exact hr)) := List.getElem?_eq_getElem _
      generalize l[r]'(by rw [HN.out]; exact hr) = x at hx
      obtain ⟨c0, _⟩ := hcs r x hx
      have hsz := G2.out.size
      have hbw : bk < w2.heap.size := by omega
      have k1 : (r : Int) < n := by omega
      have k2 : (0 : Int) ≤ r := by omega
      clear hcs hx hmr
      go_wp2
      go_ret
      exact ⟨_, rfl, C2.out.mono (by omega), G2.out⟩
set_option maxRecDepth 4000 in
set_option maxHeartbeats 4000000 in
theorem drawAreShips_any (A : Option Addr) (n c : Nat) (w : World) (hc : Bytes w A n) :
    Calls Tryd.prog 30 #[.slice A n c] w fun e w' => ∃ v l, e = .returned v ∧ List.length l ≤ 11 ∧ Own encShip w' w.heap.size 26 v l ∧ Below w.heap.size w w' := by
  have HC := Lib.hid (Cur.new hc c 61)
  have HB := Lib.hid (show Below w.heap.size w (w.alloc (.cells #[.slice A n c, .int .i64 0, .int .u64 0] 61)) from (by repeat (first | assumption | exact Below.refl _ _ | apply bl_gw | apply bl_alloc | apply bl_drewN | apply bl_drew)))
  have HY := Lib.hid hc
  clear hc
  go_enter Tryd.func30, Tryd.ntmps30
  go_wp2_with fail
  refine (ships_any _ _ _ _ (by omega) (HC.out.below ((show Below ((w.alloc (.cells #[.slice A n c, .int .i64 0, .int .u64 0] 61))).heap.size ((w.alloc (.cells #[.slice A n c, .int .i64 0, .int .u64 0] 61))) _ from (by repeat (first | assumption | exact Below.refl _ _ | apply bl_gw | apply bl_alloc | apply bl_drewN | apply bl_drew))).mono HC.out.le))).mono ?_
  rintro e w1 ⟨v1, l1, rfl, hll1, o1, r1, g1⟩
  have O1 := Lib.hid (o1.lower (Nat.le_trans HC.out.le (by simp)))
  clear o1
  have C1 := Lib.hid r1
  have B1 := Lib.hid (HB.out.trans (((show Below ((w.alloc (.cells #[.slice A n c, .int .i64 0, .int .u64 0] 61))).heap.size ((w.alloc (.cells #[.slice A n c, .int .i64 0, .int .u64 0] 61))) _ from (by repeat (first | assumption | exact Below.refl _ _ | apply bl_gw | apply bl_alloc | apply bl_drewN | apply bl_drew))).mono HB.out.size).trans (gb_toBelow g1 (by have := HB.out.size; simp at this ⊢; try omega) (by simp))))
  have g1' := g1
  clear r1 g1
  clear g1'
  go_wp2
  go_ret
  exact ⟨_, _, rfl, hll1, O1.out.lower (by omega), B1.out⟩
set_option maxHeartbeats 4000000 in
theorem drawNeededWater_any (A : Option Addr) (n c : Nat) (w : World) (hc : Bytes w A n) :
    Calls Tryd.prog 9 #[.slice A n c] w fun e w' => ∃ v l, e = .returned v ∧ List.length l ≤ 11 ∧ Own encShip w' w.heap.size 26 v l ∧ Below w.heap.size w w' := by
  have HC := Lib.hid hc
  clear hc
  go_enter Tryd.func9, Tryd.ntmps9
  go_wp2_with fail
  refine (drawAreShips_any A n c _ HC.out).mono ?_
  rintro e w1 ⟨v, l, rfl, hl, o, b⟩
  have O1 := Lib.hid o
  have B1 := Lib.hid b
  clear o b
  go_wp2
  go_ret
  exact ⟨_, _, rfl, hl, O1.out, B1.out⟩
set_option maxRecDepth 4000 in
set_option maxHeartbeats 4000000 in
theorem drawSendShip_any (A : Option Addr) (n c : Nat) (w : World) (hc : Bytes w A n) :
    Calls Tryd.prog 17 #[.slice A n c] w fun e w' => ∃ v l, ∃ z : Int, e = .returned (.tuple #[v, .int .i64 z]) ∧ List.length l ≤ 11 ∧ Own encShip w' w.heap.size 26 v l ∧ Below w.heap.size w w' := by
  have HC := Lib.hid (Cur.new hc c 61)
  have HB := Lib.hid (show Below w.heap.size w (w.alloc (.cells #[.slice A n c, .int .i64 0, .int .u64 0] 61)) from (by repeat (first | assumption | exact Below.refl _ _ | apply bl_gw | apply bl_alloc | apply bl_drewN | apply bl_drew)))
  have HY := Lib.hid hc
  clear hc
  go_enter Tryd.func17, Tryd.ntmps17
  go_wp2_with fail
  refine (ships_any _ _ _ _ (by omega) (HC.out.below ((show Below ((w.alloc (.cells #[.slice A n c, .int .i64 0, .int .u64 0] 61))).heap.size ((w.alloc (.cells #[.slice A n c, .int .i64 0, .int .u64 0] 61))) _ from (by repeat (first | assumption | exact Below.refl _ _ | apply bl_gw | apply bl_alloc | apply bl_drewN | apply bl_drew))).mono HC.out.le))).mono ?_
  rintro e w1 ⟨v1, l1, rfl, hll1, o1, r1, g1⟩
  have O1 := Lib.hid (o1.lower (Nat.le_trans HC.out.le (by simp)))
  clear o1
  have C1 := Lib.hid r1
  have B1 := Lib.hid (HB.out.trans (((show Below ((w.alloc (.cells #[.slice A n c, .int .i64 0, .int .u64 0] 61))).heap.size ((w.alloc (.cells #[.slice A n c, .int .i64 0, .int .u64 0] 61))) _ from (by repeat (first | assumption | exact Below.refl _ _ | apply bl_gw | apply bl_alloc | apply bl_drewN | apply bl_drew))).mono HB.out.size).trans (gb_toBelow g1 (by have := HB.out.size; simp at this ⊢; try omega) (by simp))))
  have g1' := g1
  clear r1 g1
  clear g1'
  obtain ⟨A1, c1, rfl, hc1, _, _⟩ := O1.out.slice
  have HA1 := Lib.hid (show ∀ a, A1 = some a → a.block ≠ w.heap.size from fun a ha e => by have := O1.out.lo a ha; omega)
  obtain ⟨n1, hn1⟩ : ∃ m, l1.length = m := ⟨_, rfl⟩
  rw [hn1] at hll1 hc1 O1 ⊢
  have HN1 := Lib.hid hn1
  clear hn1
  go_wp2_with fail
  refine (shipId_any l1 n1 HN1.out _ _ _ _ _ _ (by omega) (by omega) HA1.out O1.out.rd C1.out).mono ?_
  rintro e w2 ⟨z, rfl, r1, g1⟩
  have C2 := Lib.hid r1
  have B2 := Lib.hid (B1.out.trans (((show Below (w1).heap.size (w1) _ from (by repeat (first | assumption | exact Below.refl _ _ | apply bl_gw | apply bl_alloc | apply bl_drewN | apply bl_drew))).mono B1.out.size).trans (gb_toBelow g1 (by have := B1.out.size; simp at this ⊢; try omega) (by simp))))
  have g1' := g1
  clear r1 g1
  have O2 := Lib.hid (O1.out.drawn g1' (by omega))
  clear g1'
  go_wp2
  go_ret2
  exact ⟨_, _, _, rfl, by have := HN1.out; omega, O2.out.lower (by omega), B2.out⟩
set_option maxRecDepth 4000 in
set_option maxHeartbeats 4000000 in
theorem drawDaysAtQuay_any (A : Option Addr) (n c : Nat) (w : World) (hc : Bytes w A n) :
    Calls Tryd.prog 21 #[.slice A n c] w fun e w' => ∃ v u l t, ∃ z : Int, e = .returned (.tuple #[v, u, .int .i64 z]) ∧ List.length l ≤ 11 ∧ List.length t ≤ 402 ∧ Own encShip w' w.heap.size 26 v l ∧ Own encInt w' w.heap.size 3 u t ∧ Below w.heap.size w w' := by
  have HC := Lib.hid (Cur.new hc c 61)
  have HB := Lib.hid (show Below w.heap.size w (w.alloc (.cells #[.slice A n c, .int .i64 0, .int .u64 0] 61)) from (by repeat (first | assumption | exact Below.refl _ _ | apply bl_gw | apply bl_alloc | apply bl_drewN | apply bl_drew)))
  have HY := Lib.hid hc
  clear hc
  go_enter Tryd.func21, Tryd.ntmps21
  go_wp2_with fail
  refine (ships_any _ _ _ _ (by omega) (HC.out.below ((show Below ((w.alloc (.cells #[.slice A n c, .int .i64 0, .int .u64 0] 61))).heap.size ((w.alloc (.cells #[.slice A n c, .int .i64 0, .int .u64 0] 61))) _ from (by repeat (first | assumption | exact Below.refl _ _ | apply bl_gw | apply bl_alloc | apply bl_drewN | apply bl_drew))).mono HC.out.le))).mono ?_
  rintro e w1 ⟨v1, l1, rfl, hll1, o1, r1, g1⟩
  have O1 := Lib.hid (o1.lower (Nat.le_trans HC.out.le (by simp)))
  clear o1
  have C1 := Lib.hid r1
  have B1 := Lib.hid (HB.out.trans (((show Below ((w.alloc (.cells #[.slice A n c, .int .i64 0, .int .u64 0] 61))).heap.size ((w.alloc (.cells #[.slice A n c, .int .i64 0, .int .u64 0] 61))) _ from (by repeat (first | assumption | exact Below.refl _ _ | apply bl_gw | apply bl_alloc | apply bl_drewN | apply bl_drew))).mono HB.out.size).trans (gb_toBelow g1 (by have := HB.out.size; simp at this ⊢; try omega) (by simp))))
  have g1' := g1
  clear r1 g1
  clear g1'
  obtain ⟨A1, c1, rfl, hc1, _, _⟩ := O1.out.slice
  have HA1 := Lib.hid (show ∀ a, A1 = some a → a.block ≠ w.heap.size from fun a ha e => by have := O1.out.lo a ha; omega)
  obtain ⟨n1, hn1⟩ : ∃ m, l1.length = m := ⟨_, rfl⟩
  rw [hn1] at hll1 hc1 O1 ⊢
  have HN1 := Lib.hid hn1
  clear hn1
  go_wp2_with fail
  refine (water17_any _ _ _ _ (by omega) (C1.out.below ((show Below (w1).heap.size (w1) _ from (by repeat (first | assumption | exact Below.refl _ _ | apply bl_gw | apply bl_alloc | apply bl_drewN | apply bl_drew))).mono C1.out.le))).mono ?_
  rintro e w2 ⟨v2, l2, rfl, hll2, o1, r1, g1⟩
  have OW := Lib.hid (o1.lower (Nat.le_trans C1.out.le (by simp)))
  clear o1
  have C2 := Lib.hid r1
  have B2 := Lib.hid (B1.out.trans (((show Below (w1).heap.size (w1) _ from (by repeat (first | assumption | exact Below.refl _ _ | apply bl_gw | apply bl_alloc | apply bl_drewN | apply bl_drew))).mono B1.out.size).trans (gb_toBelow g1 (by have := B1.out.size; simp at this ⊢; try omega) (by simp))))
  have g1' := g1
  clear r1 g1
  have O2 := Lib.hid (O1.out.drawn g1' (by omega))
  clear g1'
  go_wp2_with fail
  refine (shipId_any l1 n1 HN1.out _ _ _ _ _ _ (by omega) (by omega) HA1.out O2.out.rd C2.out).mono ?_
  rintro e w3 ⟨z, rfl, r1, g1⟩
  have C3 := Lib.hid r1
  have B3 := Lib.hid (B2.out.trans (((show Below (w2).heap.size (w2) _ from (by repeat (first | assumption | exact Below.refl _ _ | apply bl_gw | apply bl_alloc | apply bl_drewN | apply bl_drew))).mono B2.out.size).trans (gb_toBelow g1 (by have := B2.out.size; simp at this ⊢; try omega) (by simp))))
  have g1' := g1
  clear r1 g1
  have O3 := Lib.hid (O2.out.drawn g1' (by omega))
  have OW3 := Lib.hid (OW.out.drawn g1' (by omega))
  clear g1'
  go_wp2
  go_ret3
  exact ⟨_, _, _, _, _, rfl, by have := HN1.out; omega, hll2, O3.out.lower (by omega), OW3.out.lower (by omega), B3.out⟩
set_option maxRecDepth 4000 in
set_option maxHeartbeats 4000000 in
theorem drawLoadedBy_any (A : Option Addr) (n c : Nat) (w : World) (hc : Bytes w A n) :
    Calls Tryd.prog 14 #[.slice A n c] w fun e w' => ∃ v u l t, ∃ z d : Int, e = .returned (.tuple #[v, u, .int .i64 z, .int .i64 d]) ∧ -1 ≤ d ∧ d ≤ 4001 ∧ List.length l ≤ 11 ∧ List.length t ≤ 402 ∧ Own encShip w' w.heap.size 26 v l ∧ Own encInt w' w.heap.size 3 u t ∧ Below w.heap.size w w' := by
  have HC := Lib.hid (Cur.new hc c 61)
  have HB := Lib.hid (show Below w.heap.size w (w.alloc (.cells #[.slice A n c, .int .i64 0, .int .u64 0] 61)) from (by repeat (first | assumption | exact Below.refl _ _ | apply bl_gw | apply bl_alloc | apply bl_drewN | apply bl_drew)))
  have HY := Lib.hid hc
  clear hc
  go_enter Tryd.func14, Tryd.ntmps14
  go_wp2_with fail
  refine (ships_any _ _ _ _ (by omega) (HC.out.below ((show Below ((w.alloc (.cells #[.slice A n c, .int .i64 0, .int .u64 0] 61))).heap.size ((w.alloc (.cells #[.slice A n c, .int .i64 0, .int .u64 0] 61))) _ from (by repeat (first | assumption | exact Below.refl _ _ | apply bl_gw | apply bl_alloc | apply bl_drewN | apply bl_drew))).mono HC.out.le))).mono ?_
  rintro e w1 ⟨v1, l1, rfl, hll1, o1, r1, g1⟩
  have O1 := Lib.hid (o1.lower (Nat.le_trans HC.out.le (by simp)))
  clear o1
  have C1 := Lib.hid r1
  have B1 := Lib.hid (HB.out.trans (((show Below ((w.alloc (.cells #[.slice A n c, .int .i64 0, .int .u64 0] 61))).heap.size ((w.alloc (.cells #[.slice A n c, .int .i64 0, .int .u64 0] 61))) _ from (by repeat (first | assumption | exact Below.refl _ _ | apply bl_gw | apply bl_alloc | apply bl_drewN | apply bl_drew))).mono HB.out.size).trans (gb_toBelow g1 (by have := HB.out.size; simp at this ⊢; try omega) (by simp))))
  have g1' := g1
  clear r1 g1
  clear g1'
  obtain ⟨A1, c1, rfl, hc1, _, _⟩ := O1.out.slice
  have HA1 := Lib.hid (show ∀ a, A1 = some a → a.block ≠ w.heap.size from fun a ha e => by have := O1.out.lo a ha; omega)
  obtain ⟨n1, hn1⟩ : ∃ m, l1.length = m := ⟨_, rfl⟩
  rw [hn1] at hll1 hc1 O1 ⊢
  have HN1 := Lib.hid hn1
  clear hn1
  go_wp2_with fail
  refine (water17_any _ _ _ _ (by omega) (C1.out.below ((show Below (w1).heap.size (w1) _ from (by repeat (first | assumption | exact Below.refl _ _ | apply bl_gw | apply bl_alloc | apply bl_drewN | apply bl_drew))).mono C1.out.le))).mono ?_
  rintro e w2 ⟨v2, l2, rfl, hll2, o1, r1, g1⟩
  have OW := Lib.hid (o1.lower (Nat.le_trans C1.out.le (by simp)))
  clear o1
  have C2 := Lib.hid r1
  have B2 := Lib.hid (B1.out.trans (((show Below (w1).heap.size (w1) _ from (by repeat (first | assumption | exact Below.refl _ _ | apply bl_gw | apply bl_alloc | apply bl_drewN | apply bl_drew))).mono B1.out.size).trans (gb_toBelow g1 (by have := B1.out.size; simp at this ⊢; try omega) (by simp))))
  have g1' := g1
  clear r1 g1
  have O2 := Lib.hid (O1.out.drawn g1' (by omega))
  clear g1'
  go_wp2_with fail
  refine (shipId_any l1 n1 HN1.out _ _ _ _ _ _ (by omega) (by omega) HA1.out O2.out.rd C2.out).mono ?_
  rintro e w3 ⟨z, rfl, r1, g1⟩
  have C3 := Lib.hid r1
  have B3 := Lib.hid (B2.out.trans (((show Below (w2).heap.size (w2) _ from (by repeat (first | assumption | exact Below.refl _ _ | apply bl_gw | apply bl_alloc | apply bl_drewN | apply bl_drew))).mono B2.out.size).trans (gb_toBelow g1 (by have := B2.out.size; simp at this ⊢; try omega) (by simp))))
  have g1' := g1
  clear r1 g1
  have O3 := Lib.hid (O2.out.drawn g1' (by omega))
  have OW3 := Lib.hid (OW.out.drawn g1' (by omega))
  clear g1'
  go_wp2_with fail
  refine (pick_any _ _ _ 24 _ (by omega) (by omega) (C3.out.below ((show Below (w3).heap.size (w3) _ from (by repeat (first | assumption | exact Below.refl _ _ | apply bl_gw | apply bl_alloc | apply bl_drewN | apply bl_drew))).mono C3.out.le))).mono ?_
  rintro e w4 ⟨x2, hmx2, rfl, r1, g1⟩
  have C4 := Lib.hid r1
  have B4 := Lib.hid (B3.out.trans (((show Below (w3).heap.size (w3) _ from (by repeat (first | assumption | exact Below.refl _ _ | apply bl_gw | apply bl_alloc | apply bl_drewN | apply bl_drew))).mono B3.out.size).trans (gb_toBelow g1 (by have := B3.out.size; simp at this ⊢; try omega) (by simp))))
  have g1' := g1
  clear r1 g1
  have O4 := Lib.hid ((O3.out.past (bl_alloc (Below.refl w3.heap.size w3) _) (Nat.le_refl _)).drawn g1' (by omega))
  have OW4 := Lib.hid ((OW3.out.past (bl_alloc (Below.refl w3.heap.size w3) _) (Nat.le_refl _)).drawn g1' (by omega))
  have K4 := Lib.hid ((Blk.new w3 3 #[.int .i64 0, .int .i64 1, .int .i64 2, .int .i64 6, .int .i64 15, .int .i64 4000, .int .i64 (-1), .int .i64 4001]).grown g1' (by have := C3.out.le; omega))
  have hsz3 := B3.out.size
  clear g1' O3 OW3
  obtain ⟨hq2, e1, e2, e3⟩ := cut_q (x := x2) (by omega)
  obtain ⟨q, hq⟩ : ∃ q, x2 / 11 = q := ⟨_, rfl⟩
  rw [hq] at hq2 e1 e2 e3
  clear hq hmx2
  go_wp2_with fail
  refine (among_cut [0, 1, 2, 6, 15, 4000, -1, 4001] (6 + q) 8 (by simp; omega) _ _ _ _ 3 _ (by omega) C4.out (by have := C3.out.le; omega) K4.out (by omega) (by omega)).mono ?_
  rintro e w5 ⟨d, hd, rfl, r1, g1⟩
  have hd' : -1 ≤ d ∧ d ≤ 4001 := by simp at hd; omega
  have C5 := Lib.hid r1
  have B5 := Lib.hid (B4.out.trans (((show Below (w4).heap.size (w4) _ from (by repeat (first | assumption | exact Below.refl _ _ | apply bl_gw | apply bl_alloc | apply bl_drewN | apply bl_drew))).mono B4.out.size).trans (gb_toBelow g1 (by have := B4.out.size; simp at this ⊢; try omega) (by simp))))
  have g1' := g1
  clear r1 g1
  have O5 := Lib.hid (O4.out.drawn g1' (by omega))
  have OW5 := Lib.hid (OW4.out.drawn g1' (by omega))
  clear g1' hd
  go_wp2
  refine bodyPost_ret (v := .tuple #[.slice A1 n1 c1, v2, .int .i64 z, .int .i64 d]) (by simp [results, Tryd.results14, go_sem]) rfl ?_
  exact ⟨_, _, _, _, _, _, rfl, hd'.1, hd'.2, by have := HN1.out; omega, hll2, O5.out.lower (by omega), OW5.out.lower (by omega), B5.out⟩
set_option maxRecDepth 4000 in
set_option maxHeartbeats 8000000 in
theorem drawIsShip_any (A : Option Addr) (n c : Nat) (w : World) (hc : Bytes w A n) :
    Calls Tryd.prog 51 #[.slice A n c] w fun e w' => ∃ a0 a1 a2 a3 a4 a5 : Int, e = .returned (.agg #[.int .i64 a0, .int .i64 a1, .int .i64 a2, .int .i64 a3, .int .i64 a4, .int .i64 a5]) ∧ Below w.heap.size w w' := by
  have hcn := Cur.new (hc.past (bl_alloc (Below.refl _ _) (.cells #[.int .i64 0, .int .i64 0, .int .i64 0, .int .i64 0, .int .i64 0, .int .i64 0] 26))) c 61
  rw [show (w.alloc (.cells #[.int .i64 0, .int .i64 0, .int .i64 0, .int .i64 0, .int .i64 0, .int .i64 0] 26)).heap.size = w.heap.size + 1 by simp] at hcn
  have HC := Lib.hid hcn
  clear hcn
  have HB := Lib.hid (show Below w.heap.size w ((w.alloc (.cells #[.int .i64 0, .int .i64 0, .int .i64 0, .int .i64 0, .int .i64 0, .int .i64 0] 26)).alloc (.cells #[.slice A n c, .int .i64 0, .int .u64 0] 61)) from (by repeat (first | assumption | exact Below.refl _ _ | apply bl_gw | apply bl_alloc | apply bl_drewN | apply bl_drew)))
  have HR := Lib.hid ((Blk.new w 26 #[.int .i64 0, .int .i64 0, .int .i64 0, .int .i64 0, .int .i64 0, .int .i64 0]).alloc (.cells #[.slice A n c, .int .i64 0, .int .u64 0] 61))
  clear hc
  go_enter Tryd.func51, Tryd.ntmps51
  go_wp2_with fail
  refine (among_any [1, 42, 99] 3 rfl _ _ _ _ 3 _ (by omega) (HC.out.below ((show Below ((w.alloc (.cells #[.int .i64 0, .int .i64 0, .int .i64 0, .int .i64 0, .int .i64 0, .int .i64 0] 26)).alloc (.cells #[.slice A n c, .int .i64 0, .int .u64 0] 61)).heap.size ((w.alloc (.cells #[.int .i64 0, .int .i64 0, .int .i64 0, .int .i64 0, .int .i64 0, .int .i64 0] 26)).alloc (.cells #[.slice A n c, .int .i64 0, .int .u64 0] 61)) _ from (by repeat (first | assumption | exact Below.refl _ _ | apply bl_gw | apply bl_alloc | apply bl_drewN | apply bl_drew))).mono HC.out.le)) (by have := HC.out.le; simp at this ⊢; try omega) (by first | exact Blk.new _ _ _ | exact Blk.new_ _ _ _ _ (by simp) | exact (Blk.new _ _ _).drewN _ | exact (Blk.new _ _ _).gw _) (by omega) (by omega)).mono ?_
  rintro e w0 ⟨x0, hmx0, rfl, r1, g1⟩
  have C0 := Lib.hid r1
  have B0 := Lib.hid (HB.out.trans (((show Below ((w.alloc (.cells #[.int .i64 0, .int .i64 0, .int .i64 0, .int .i64 0, .int .i64 0, .int .i64 0] 26)).alloc (.cells #[.slice A n c, .int .i64 0, .int .u64 0] 61)).heap.size ((w.alloc (.cells #[.int .i64 0, .int .i64 0, .int .i64 0, .int .i64 0, .int .i64 0, .int .i64 0] 26)).alloc (.cells #[.slice A n c, .int .i64 0, .int .u64 0] 61)) _ from (by repeat (first | assumption | exact Below.refl _ _ | apply bl_gw | apply bl_alloc | apply bl_drewN | apply bl_drew))).mono HB.out.size).trans (gb_toBelow g1 (by have := HB.out.size; simp at this ⊢; try omega) (by simp))))
  have g1' := g1
  clear r1 g1
  have K0 := Lib.hid ((HR.out.alloc _).grown g1' (by simp))
  clear g1' hmx0
  go_wp2_with fail
  refine (among_any [0, 90, 3970] 3 rfl _ _ _ _ 3 _ (by omega) (C0.out.below ((show Below (w0).heap.size (w0) _ from (by repeat (first | assumption | exact Below.refl _ _ | apply bl_gw | apply bl_alloc | apply bl_drewN | apply bl_drew))).mono C0.out.le)) (by have := C0.out.le; simp at this ⊢; try omega) (by first | exact Blk.new _ _ _ | exact Blk.new_ _ _ _ _ (by simp) | exact (Blk.new _ _ _).drewN _ | exact (Blk.new _ _ _).gw _) (by omega) (by omega)).mono ?_
  rintro e w1 ⟨x1, hmx1, rfl, r1, g1⟩
  have C1 := Lib.hid r1
  have B1 := Lib.hid (B0.out.trans (((show Below (w0).heap.size (w0) _ from (by repeat (first | assumption | exact Below.refl _ _ | apply bl_gw | apply bl_alloc | apply bl_drewN | apply bl_drew))).mono B0.out.size).trans (gb_toBelow g1 (by have := B0.out.size; simp at this ⊢; try omega) (by simp))))
  have g1' := g1
  clear r1 g1
  have K1 := Lib.hid ((K0.out.alloc _).grown g1' (by simp))
  clear g1' hmx1
  go_wp2_with fail
  refine (ship_any _ _ _ _ _ _ (by omega) (C1.out.below ((show Below w1.heap.size w1 _ from (by repeat (first | assumption | exact Below.refl _ _ | apply bl_gw | apply bl_alloc | apply bl_drewN | apply bl_drew))).mono C1.out.le))).mono ?_
  rintro e w2 ⟨a0, a1, a2, a3, a4, a5, rfl, r1, g1⟩
  have C2 := Lib.hid r1
  have B2 := Lib.hid (B1.out.trans (((show Below (w1).heap.size (w1) _ from (by repeat (first | assumption | exact Below.refl _ _ | apply bl_gw | apply bl_alloc | apply bl_drewN | apply bl_drew))).mono B1.out.size).trans (gb_toBelow g1 (by have := B1.out.size; simp at this ⊢; try omega) (by simp))))
  have g1' := g1
  clear r1 g1
  have K2 := Lib.hid (K1.out.grown g1' (by simp))
  clear g1' K1 HR HC HB C1 B1 K0 C0 B0
  have r0 : w2.cell? ⟨w.heap.size, 0, none⟩ = some (.int .i64 0) := K2.out.cell 0
  have r1 : w2.cell? ⟨w.heap.size, 1, none⟩ = some (.int .i64 0) := K2.out.cell 1
  have r2 : w2.cell? ⟨w.heap.size, 2, none⟩ = some (.int .i64 0) := K2.out.cell 2
  have r3 : w2.cell? ⟨w.heap.size, 3, none⟩ = some (.int .i64 0) := K2.out.cell 3
  have r4 : w2.cell? ⟨w.heap.size, 4, none⟩ = some (.int .i64 0) := K2.out.cell 4
  have r5 : w2.cell? ⟨w.heap.size, 5, none⟩ = some (.int .i64 0) := K2.out.cell 5
  have f0 := K2.out.frozen 0
  have f1 := K2.out.frozen 1
  have f2 := K2.out.frozen 2
  have f3 := K2.out.frozen 3
  have f4 := K2.out.frozen 4
  have f5 := K2.out.frozen 5
  have hl1' := K2.out.lt
  go_wp2
  have KE := Lib.hid (show Blk (((((((w2).setCell ⟨w.heap.size, 0, none⟩ (.int .i64 a0)).setCell ⟨w.heap.size, 1, none⟩ (.int .i64 a1)).setCell ⟨w.heap.size, 2, none⟩ (.int .i64 a2)).setCell ⟨w.heap.size, 3, none⟩ (.int .i64 a3)).setCell ⟨w.heap.size, 4, none⟩ (.int .i64 a4)).setCell ⟨w.heap.size, 5, none⟩ (.int .i64 a5)) w.heap.size 26 #[.int .i64 a0, .int .i64 a1, .int .i64 a2, .int .i64 a3, .int .i64 a4, .int .i64 a5] from ((((((K2.out).set_ 0 (.int .i64 a0)).set_ 1 (.int .i64 a1)).set_ 2 (.int .i64 a2)).set_ 3 (.int .i64 a3)).set_ 4 (.int .i64 a4)).set_ 5 (.int .i64 a5))
  have BE := Lib.hid (show Below w.heap.size w2 (((((((w2).setCell ⟨w.heap.size, 0, none⟩ (.int .i64 a0)).setCell ⟨w.heap.size, 1, none⟩ (.int .i64 a1)).setCell ⟨w.heap.size, 2, none⟩ (.int .i64 a2)).setCell ⟨w.heap.size, 3, none⟩ (.int .i64 a3)).setCell ⟨w.heap.size, 4, none⟩ (.int .i64 a4)).setCell ⟨w.heap.size, 5, none⟩ (.int .i64 a5)) from ((((((Below.refl w.heap.size w2).setCell (p := ⟨w.heap.size, 0, none⟩) (Nat.le_refl _) (.int .i64 a0)).setCell (p := ⟨w.heap.size, 1, none⟩) (Nat.le_refl _) (.int .i64 a1)).setCell (p := ⟨w.heap.size, 2, none⟩) (Nat.le_refl _) (.int .i64 a2)).setCell (p := ⟨w.heap.size, 3, none⟩) (Nat.le_refl _) (.int .i64 a3)).setCell (p := ⟨w.heap.size, 4, none⟩) (Nat.le_refl _) (.int .i64 a4)).setCell (p := ⟨w.heap.size, 5, none⟩) (Nat.le_refl _) (.int .i64 a5))
  clear r0 r1 r2 r3 r4 r5 f0 f1 f2 f3 f4 f5
  generalize ((((((w2).setCell ⟨w.heap.size, 0, none⟩ (.int .i64 a0)).setCell ⟨w.heap.size, 1, none⟩ (.int .i64 a1)).setCell ⟨w.heap.size, 2, none⟩ (.int .i64 a2)).setCell ⟨w.heap.size, 3, none⟩ (.int .i64 a3)).setCell ⟨w.heap.size, 4, none⟩ (.int .i64 a4)).setCell ⟨w.heap.size, 5, none⟩ (.int .i64 a5) = wE at KE BE ⊢
  have r0 : wE.cell? ⟨w.heap.size, 0, none⟩ = some (.int .i64 a0) := KE.out.cell 0
  have r1 : wE.cell? ⟨w.heap.size, 1, none⟩ = some (.int .i64 a1) := KE.out.cell 1
  have r2 : wE.cell? ⟨w.heap.size, 2, none⟩ = some (.int .i64 a2) := KE.out.cell 2
  have r3 : wE.cell? ⟨w.heap.size, 3, none⟩ = some (.int .i64 a3) := KE.out.cell 3
  have r4 : wE.cell? ⟨w.heap.size, 4, none⟩ = some (.int .i64 a4) := KE.out.cell 4
  have r5 : wE.cell? ⟨w.heap.size, 5, none⟩ = some (.int .i64 a5) := KE.out.cell 5
  refine bodyPost_ret (v := .agg #[.int .i64 a0, .int .i64 a1, .int .i64 a2, .int .i64 a3, .int .i64 a4, .int .i64 a5]) (by simp [results, Tryd.results51, go_sem, r0, r1, r2, r3, r4, r5]) rfl ?_
  exact ⟨_, _, _, _, _, _, rfl, B2.out.trans BE.out⟩
set_option maxRecDepth 4000 in
set_option maxHeartbeats 4000000 in
theorem drawShipText_any (A : Option Addr) (n c : Nat) (w : World) (hc : Bytes w A n) :
    Calls Tryd.prog 23 #[.slice A n c] w fun e w' => ∃ a0 a1 a2 a3 a4 a5 : Int, e = .returned (.agg #[.int .i64 a0, .int .i64 a1, .int .i64 a2, .int .i64 a3, .int .i64 a4, .int .i64 a5]) ∧ Below w.heap.size w w' := by
  have HC := Lib.hid hc
  clear hc
  have K0 := Lib.hid (Blk.new w 26 #[.int .i64 0, .int .i64 0, .int .i64 0, .int .i64 0, .int .i64 0, .int .i64 0])
  go_enter Tryd.func23, Tryd.ntmps23
  go_wp2_with fail
  refine (drawIsShip_any A n c _ (HC.out.past (bl_alloc (Below.refl _ _) _))).mono ?_
  rintro e w2 ⟨a0, a1, a2, a3, a4, a5, rfl, bb⟩
  have K2 := Lib.hid (K0.out.past bb)
  have B2 := Lib.hid (below_step (bl_alloc (Below.refl w.heap.size w) _) bb)
  clear bb K0
  have r0 : w2.cell? ⟨w.heap.size, 0, none⟩ = some (.int .i64 0) := K2.out.cell 0
  have r1 : w2.cell? ⟨w.heap.size, 1, none⟩ = some (.int .i64 0) := K2.out.cell 1
  have r2 : w2.cell? ⟨w.heap.size, 2, none⟩ = some (.int .i64 0) := K2.out.cell 2
  have r3 : w2.cell? ⟨w.heap.size, 3, none⟩ = some (.int .i64 0) := K2.out.cell 3
  have r4 : w2.cell? ⟨w.heap.size, 4, none⟩ = some (.int .i64 0) := K2.out.cell 4
  have r5 : w2.cell? ⟨w.heap.size, 5, none⟩ = some (.int .i64 0) := K2.out.cell 5
  have f0 := K2.out.frozen 0
  have f1 := K2.out.frozen 1
  have f2 := K2.out.frozen 2
  have f3 := K2.out.frozen 3
  have f4 := K2.out.frozen 4
  have f5 := K2.out.frozen 5
  have hl1' := K2.out.lt
  go_wp2
  have KE := Lib.hid (show Blk (((((((w2).setCell ⟨w.heap.size, 0, none⟩ (.int .i64 a0)).setCell ⟨w.heap.size, 1, none⟩ (.int .i64 a1)).setCell ⟨w.heap.size, 2, none⟩ (.int .i64 a2)).setCell ⟨w.heap.size, 3, none⟩ (.int .i64 a3)).setCell ⟨w.heap.size, 4, none⟩ (.int .i64 a4)).setCell ⟨w.heap.size, 5, none⟩ (.int .i64 a5)) w.heap.size 26 #[.int .i64 a0, .int .i64 a1, .int .i64 a2, .int .i64 a3, .int .i64 a4, .int .i64 a5] from ((((((K2.out).set_ 0 (.int .i64 a0)).set_ 1 (.int .i64 a1)).set_ 2 (.int .i64 a2)).set_ 3 (.int .i64 a3)).set_ 4 (.int .i64 a4)).set_ 5 (.int .i64 a5))
  have BE := Lib.hid (show Below w.heap.size w2 (((((((w2).setCell ⟨w.heap.size, 0, none⟩ (.int .i64 a0)).setCell ⟨w.heap.size, 1, none⟩ (.int .i64 a1)).setCell ⟨w.heap.size, 2, none⟩ (.int .i64 a2)).setCell ⟨w.heap.size, 3, none⟩ (.int .i64 a3)).setCell ⟨w.heap.size, 4, none⟩ (.int .i64 a4)).setCell ⟨w.heap.size, 5, none⟩ (.int .i64 a5)) from ((((((Below.refl w.heap.size w2).setCell (p := ⟨w.heap.size, 0, none⟩) (Nat.le_refl _) (.int .i64 a0)).setCell (p := ⟨w.heap.size, 1, none⟩) (Nat.le_refl _) (.int .i64 a1)).setCell (p := ⟨w.heap.size, 2, none⟩) (Nat.le_refl _) (.int .i64 a2)).setCell (p := ⟨w.heap.size, 3, none⟩) (Nat.le_refl _) (.int .i64 a3)).setCell (p := ⟨w.heap.size, 4, none⟩) (Nat.le_refl _) (.int .i64 a4)).setCell (p := ⟨w.heap.size, 5, none⟩) (Nat.le_refl _) (.int .i64 a5))
  clear r0 r1 r2 r3 r4 r5 f0 f1 f2 f3 f4 f5
  generalize ((((((w2).setCell ⟨w.heap.size, 0, none⟩ (.int .i64 a0)).setCell ⟨w.heap.size, 1, none⟩ (.int .i64 a1)).setCell ⟨w.heap.size, 2, none⟩ (.int .i64 a2)).setCell ⟨w.heap.size, 3, none⟩ (.int .i64 a3)).setCell ⟨w.heap.size, 4, none⟩ (.int .i64 a4)).setCell ⟨w.heap.size, 5, none⟩ (.int .i64 a5) = wE at KE BE ⊢
  have r0 : wE.cell? ⟨w.heap.size, 0, none⟩ = some (.int .i64 a0) := KE.out.cell 0
  have r1 : wE.cell? ⟨w.heap.size, 1, none⟩ = some (.int .i64 a1) := KE.out.cell 1
  have r2 : wE.cell? ⟨w.heap.size, 2, none⟩ = some (.int .i64 a2) := KE.out.cell 2
  have r3 : wE.cell? ⟨w.heap.size, 3, none⟩ = some (.int .i64 a3) := KE.out.cell 3
  have r4 : wE.cell? ⟨w.heap.size, 4, none⟩ = some (.int .i64 a4) := KE.out.cell 4
  have r5 : wE.cell? ⟨w.heap.size, 5, none⟩ = some (.int .i64 a5) := KE.out.cell 5
  refine bodyPost_ret (v := .agg #[.int .i64 a0, .int .i64 a1, .int .i64 a2, .int .i64 a3, .int .i64 a4, .int .i64 a5]) (by simp [results, Tryd.results23, go_sem, r0, r1, r2, r3, r4, r5]) rfl ?_
  exact ⟨_, _, _, _, _, _, rfl, B2.out.trans BE.out⟩
end Go.Proofs.YtggdcjajiaeklaaDoor
