/- The draws of ships, of water, of a ship's id. -/
import Derived.Test.YtggdcjajiaeklaaDoorDrawA
import Derived.Test.YtggdcjajiaeklaaDoorInts
import Derived.Test.YtggdcjajiaeklaaDoorApp1
import Derived.Test.YtggdcjajiaeklaaDoorSet
namespace Go.Proofs.YtggdcjajiaeklaaDoor
open Go.RowKit
set_option maxRecDepth 4000 in
set_option maxHeartbeats 8000000 in
theorem ships_any (B p k : Nat) (w : World) (hk : k ≤ 300) (h : Cur w B p k) :
    Calls Tryd.prog 37 #[.pointer (some ⟨p, 0, none⟩)] w fun e w' => ∃ v l, e = .returned v ∧ List.length l ≤ 11 ∧ Own encShip w' w.heap.size 26 v l ∧ Cur w' B p (k + 300) ∧ w.grownBy w' (some p) := by
  have HC := Lib.hid h
  have hpB := h.lt
  have hle := h.le
  clear h
  have hpw : p < w.heap.size := by omega
  obtain ⟨i0, hinf, hz0, hz1, hz2⟩ := info_parts info_Ship
  have HB0 := Lib.hid (show Below w.heap.size w (w.alloc (.cells #[] 26)) from (by repeat (first | assumption | exact Below.refl _ _ | apply bl_gw | apply bl_alloc | apply bl_drewN | apply bl_drew)))
  have O0 := Lib.hid (show Own encShip (w.alloc (.cells #[] 26)) w.heap.size 26 (.slice (some ⟨w.heap.size, 0, none⟩) 0 0) [] from Own.nil_ (Nat.le_refl w.heap.size) 26)
  have C0 := Lib.hid (HC.out.below (HB0.out.mono hle))
  have G0 := Lib.hid (gb_below (World.grownBy.refl w (some p)) HB0.out)
  go_enter Tryd.func37, Tryd.ntmps37
  go_wp2_with fail
  refine (among_any [0, 0, 3, 370] 4 rfl _ _ _ _ 3 _ (by omega) (C0.out.below ((show Below (w.alloc (.cells #[] 26)).heap.size (w.alloc (.cells #[] 26)) _ from (by repeat (first | assumption | exact Below.refl _ _ | apply bl_gw | apply bl_alloc | apply bl_drewN | apply bl_drew))).mono C0.out.le)) (by have := C0.out.le; simp; omega) (by first | exact Blk.new _ _ _ | exact Blk.new_ _ _ _ _ (by simp) | exact (Blk.new _ _ _).drewN _ | exact (Blk.new _ _ _).gw _) (by omega) (by omega)).mono ?_
  rintro e w0 ⟨x0, hmx0, rfl, r1, g1⟩
  have Ca := Lib.hid r1
  have Ga := Lib.hid ((gb_below G0.out ((show Below (w.alloc (.cells #[] 26)).heap.size (w.alloc (.cells #[] 26)) _ from (by repeat (first | assumption | exact Below.refl _ _ | apply bl_gw | apply bl_alloc | apply bl_drewN | apply bl_drew))).mono G0.out.size)).trans g1)
  have g1' := g1
  clear r1 g1
  have Oa := Lib.hid ((O0.out.past (bl_alloc (Below.refl (w.alloc (.cells #[] 26)).heap.size _) _) (by simp)).drawn g1' hpw)
  clear g1' hmx0
  go_wp2_with fail
  refine (pick_any _ _ _ 7 _ (by omega) (by omega) (Ca.out.below ((show Below (w0).heap.size (w0) _ from (by repeat (first | assumption | exact Below.refl _ _ | apply bl_gw | apply bl_alloc | apply bl_drewN | apply bl_drew))).mono Ca.out.le))).mono ?_
  rintro e w1 ⟨x1, hmx1, rfl, r1, g1⟩
  have C1 := Lib.hid r1
  have G1 := Lib.hid ((gb_below Ga.out ((show Below (w0).heap.size (w0) _ from (by repeat (first | assumption | exact Below.refl _ _ | apply bl_gw | apply bl_alloc | apply bl_drewN | apply bl_drew))).mono Ga.out.size)).trans g1)
  have g1' := g1
  clear r1 g1
  have O1 := Lib.hid (Oa.out.drawn g1' hpw)
  clear g1' O0 C0 G0 HB0 HC Oa Ca Ga
  go_wp2
  go_loopw [3, 4, 5] (fun u hv mv wr => ∃ (vw : Value) (l : List Ship) (h : Int) (m : Nat), l.length + m ≤ 6 ∧ hv = .int .i64 h ∧ mv = .int .i64 m ∧ vw = u ∧ Own encShip wr w.heap.size 26 vw l ∧ Cur wr B p (k + 6 + 34 * l.length) ∧ w.grownBy wr (some p)) (fun _ _ mv _ => (intOf mv).toNat)
  case atStart => exact ⟨_, [], x0, x1, by simp; omega, rfl, rfl, rfl, O1.out, C1.out.mono (by simp), G1.out⟩
  case round =>
    clear O1 C1 G1
    obtain ⟨vw, l, h, m, hlm, rfl, rfl, rfl, ho, hc, hg⟩ := hrel
    have HO := Lib.hid ho
    have C3 := Lib.hid hc
    have G3 := Lib.hid hg
    clear ho hc hg
    by_cases hm : 0 < m
    · have m1 : (0 : Int) < m := by omega
      obtain ⟨Av, cv, rfl, _, _, _⟩ := HO.out.slice
      go_wp2_with fail
      refine (pick_any _ _ _ 90 _ (by omega) (by omega) (C3.out.below ((show Below (wr).heap.size (wr) _ from (by repeat (first | assumption | exact Below.refl _ _ | apply bl_gw | apply bl_alloc | apply bl_drewN | apply bl_drew))).mono C3.out.le))).mono ?_
      rintro e w3 ⟨x4, hmx4, rfl, r1, g1⟩
      have C4 := Lib.hid r1
      have G4 := Lib.hid ((gb_below G3.out ((show Below (wr).heap.size (wr) _ from (by repeat (first | assumption | exact Below.refl _ _ | apply bl_gw | apply bl_alloc | apply bl_drewN | apply bl_drew))).mono G3.out.size)).trans g1)
      have g1' := g1
      clear r1 g1
      have O4 := Lib.hid (HO.out.drawn g1' hpw)
      clear g1'
      go_wp2_with fail
      refine (ship_any _ _ B p _ _ (by omega) (C4.out.below ((show Below w3.heap.size w3 _ from (by repeat (first | assumption | exact Below.refl _ _ | apply bl_gw | apply bl_alloc | apply bl_drewN | apply bl_drew))).mono C4.out.le))).mono ?_
      rintro e w6 ⟨a0, a1, a2, a3, a4, a5, rfl, r1, g1⟩
      have C6 := Lib.hid r1
      have G6 := Lib.hid ((gb_below G4.out ((show Below w3.heap.size w3 _ from (by repeat (first | assumption | exact Below.refl _ _ | apply bl_gw | apply bl_alloc | apply bl_drewN | apply bl_drew))).mono G4.out.size)).trans g1)
      have O6 := Lib.hid (((O4.out).past (show Below w3.heap.size w3 _ from (by repeat (first | assumption | exact Below.refl _ _ | apply bl_gw | apply bl_alloc | apply bl_drewN | apply bl_drew))) (Nat.le_refl _)).drawn g1 hpw)
      clear r1 g1
      go_wp2_with (at_builtin; refine halt ?_)
      unfold Halt
      refine wpList_app2 (E := encShip) rfl (.tmp 17) (.tmp 32) 31 rfl w.heap.size 26 i0 _ 48 Tryd.underlying31 hinf hz0 hz1 hz2 rfl (by decide) _ _ rfl O6.out ⟨a0, a1, a2, a3, a4, a5⟩ _ rfl (by first | rfl | (rw [alloc_size]; rfl)) (by unfold maxLen; omega) (by omega) (by have := G6.out.size; simp; omega) ?_
      intro v5 w5 ho5 hb5
      have O5 := Lib.hid ho5
      have C5 := Lib.hid (C6.out.below (hb5 B hle))
      have G5 := Lib.hid (gb_below G6.out (hb5 _ (Nat.le_refl _)))
      clear ho5 hb5
      go_wp2_with fail
      refine (among_any [0, 1, 2, 4] 4 rfl _ _ _ _ 3 _ (by omega) (C5.out.below ((show Below (w5).heap.size (w5) _ from (by repeat (first | assumption | exact Below.refl _ _ | apply bl_gw | apply bl_alloc | apply bl_drewN | apply bl_drew))).mono C5.out.le)) (by have := C5.out.le; simp; omega) (by first | exact Blk.new _ _ _ | exact Blk.new_ _ _ _ _ (by simp) | exact (Blk.new _ _ _).drewN _ | exact (Blk.new _ _ _).gw _) (by omega) (by omega)).mono ?_
      rintro e w7 ⟨x7, hmx7, rfl, r1, g1⟩
      have C7 := Lib.hid r1
      have G7 := Lib.hid ((gb_below G5.out ((show Below (w5).heap.size (w5) _ from (by repeat (first | assumption | exact Below.refl _ _ | apply bl_gw | apply bl_alloc | apply bl_drewN | apply bl_drew))).mono G5.out.size)).trans g1)
      have g1' := g1
      clear r1 g1
      have O7 := Lib.hid ((O5.out.past (bl_alloc (Below.refl w5.heap.size w5) _) (Nat.le_refl _)).drawn g1' hpw)
      clear g1' hmx7
      go_wp2_with fail
      refine (pick_any _ _ _ 60 _ (by omega) (by omega) (C7.out.below ((show Below (w7).heap.size (w7) _ from (by repeat (first | assumption | exact Below.refl _ _ | apply bl_gw | apply bl_alloc | apply bl_drewN | apply bl_drew))).mono C7.out.le))).mono ?_
      rintro e w8 ⟨x8, hmx8, rfl, r1, g1⟩
      have C8 := Lib.hid r1
      have G8 := Lib.hid ((gb_below G7.out ((show Below (w7).heap.size (w7) _ from (by repeat (first | assumption | exact Below.refl _ _ | apply bl_gw | apply bl_alloc | apply bl_drewN | apply bl_drew))).mono G7.out.size)).trans g1)
      have g1' := g1
      clear r1 g1
      have O8 := Lib.hid (O7.out.drawn g1' hpw)
      clear g1'
      obtain ⟨m', rfl⟩ : ∃ m', m = m' + 1 := ⟨m - 1, by omega⟩
      have m2 : IntKind.i64.wrap (((m' + 1 : Nat) : Int) - 1) = m' := by rw [IntWalk.i64_in _ (by omega)]; omega
      go_wp2
      go_roundw
      case rel => exact ⟨_, _, _, m', by simp; omega, rfl, rfl, rfl, O8.out, C8.out.mono (by simp; omega), G8.out⟩
      case measure => simp [intOf]
    · obtain rfl : m = 0 := by omega
      have hl7 : l.length ≤ 6 := by omega
      have C3' := Lib.hid (C3.out.mono (show k + 6 + 34 * l.length ≤ k + 212 by omega))
      clear C3
      go_wp2_with fail
      refine (one_any _ _ _ 24 _ (by omega) (by omega) (C3'.out.below ((show Below (wr).heap.size (wr) _ from (by repeat (first | assumption | exact Below.refl _ _ | apply bl_gw | apply bl_alloc | apply bl_drewN | apply bl_drew))).mono C3'.out.le))).mono ?_
      rintro e w7 ⟨q, rfl, r1, g1⟩
      have C7 := Lib.hid r1
      have G7 := Lib.hid ((gb_below G3.out ((show Below (wr).heap.size (wr) _ from (by repeat (first | assumption | exact Below.refl _ _ | apply bl_gw | apply bl_alloc | apply bl_drewN | apply bl_drew))).mono G3.out.size)).trans g1)
      have g1' := g1
      clear r1 g1
      have O7 := Lib.hid (HO.out.drawn g1' hpw)
      clear g1'
      cases q
      · go_wp2
        go_ret
        exact ⟨_, _, rfl, by omega, O7.out, C7.out.mono (by omega), G7.out⟩
      · have HB8 := Lib.hid (show Below w7.heap.size w7 (w7.alloc (.cells #[] 26)) from (by repeat (first | assumption | exact Below.refl _ _ | apply bl_gw | apply bl_alloc | apply bl_drewN | apply bl_drew)))
        have O8 := Lib.hid (show Own encShip (w7.alloc (.cells #[] 26)) w.heap.size 26 (.slice (some ⟨w7.heap.size, 0, none⟩) 0 0) [] from Own.nil_ G7.out.size 26)
        have C8 := Lib.hid (C7.out.below (HB8.out.mono C7.out.le))
        have G8 := Lib.hid (gb_below G7.out (HB8.out.mono G7.out.size))
        clear O7 C7 G7 HO
        go_wp2
        go_loopw [3, 6] (fun u nv wr => ∃ (vw : Value) (l : List Ship) (m : Nat), l.length = m ∧ m ≤ 11 ∧ nv = .int .i64 m ∧ vw = u ∧ Own encShip wr w.heap.size 26 vw l ∧ Cur wr B p (k + 220 + 2 * m) ∧ w.grownBy wr (some p)) (fun _ nv _ => 12 - (intOf nv).toNat)
        case atStart => exact ⟨_, [], 0, rfl, by omega, rfl, rfl, O8.out, C8.out.mono (by omega), G8.out⟩
        case round =>
          clear O8 C8 G8 HB8
          obtain ⟨vw, l', m, hlm', hm11, rfl, rfl, ho, hc, hg⟩ := hrel
          have HLM := Lib.hid hlm'
          have hl11 : l'.length ≤ 11 := by omega
          have HO' := Lib.hid ho
          have C9 := Lib.hid hc
          have G9 := Lib.hid hg
          clear ho hc hg hlm'
          go_wp2_with fail
          refine (pick_any _ _ _ 2 _ (by omega) (by omega) (C9.out.below ((show Below (wr).heap.size (wr) _ from (by repeat (first | assumption | exact Below.refl _ _ | apply bl_gw | apply bl_alloc | apply bl_drewN | apply bl_drew))).mono C9.out.le))).mono ?_
          rintro e w9 ⟨x9, hmx9, rfl, r1, g1⟩
          have C10 := Lib.hid r1
          have G10 := Lib.hid ((gb_below G9.out ((show Below (wr).heap.size (wr) _ from (by repeat (first | assumption | exact Below.refl _ _ | apply bl_gw | apply bl_alloc | apply bl_drewN | apply bl_drew))).mono G9.out.size)).trans g1)
          have g1' := g1
          clear r1 g1
          have O9 := Lib.hid (HO'.out.drawn g1' hpw)
          clear g1'
          have k9 : IntKind.i64.wrap (8 + (x9 : Int)) = 8 + (x9 : Int) := IntWalk.i64_in _ (by omega)
          by_cases hlt : (m : Int) < 8 + (x9 : Int)
          · go_wp2_with (at_builtin; refine halt ?_)
            unfold Halt
            refine wpList_app2 (E := encShip) rfl (.tmp 54) (.tmp 61) 31 rfl w.heap.size 26 i0 _ 48 Tryd.underlying31 hinf hz0 hz1 hz2 rfl (by decide) _ _ rfl O9.out ⟨_, _, _, _, _, _⟩ _ rfl (by first | rfl | (rw [alloc_size]; rfl)) (by unfold maxLen; omega) (by omega) (by have := G10.out.size; simp; omega) ?_
            intro v5 w5 ho5 hb5
            have O5 := Lib.hid ho5
            have C5 := Lib.hid (C10.out.below (hb5 B hle))
            have G5 := Lib.hid (gb_below G10.out (hb5 _ (Nat.le_refl _)))
            clear ho5 hb5
            go_wp2
            go_roundw
            case rel => exact ⟨_, _, m + 1, by simp [HLM.out], by omega, by go_num, rfl, O5.out, C5.out.mono (by omega), G5.out⟩
            case measure => simp [intOf]; omega
          · go_wp2
            go_ret
            exact ⟨_, _, rfl, hl11, O9.out, C10.out.mono (by omega), G10.out⟩

set_option maxRecDepth 4000 in
set_option maxHeartbeats 8000000 in
theorem water17_any (B p k : Nat) (w : World) (hk : k ≤ 10000) (h : Cur w B p k) :
    Calls Tryd.prog 38 #[.pointer (some ⟨p, 0, none⟩)] w fun e w' => ∃ v l, e = .returned v ∧ List.length l ≤ 402 ∧ Own encInt w' w.heap.size 3 v l ∧ Cur w' B p (k + 1000) ∧ w.grownBy w' (some p) := by
  have HC := Lib.hid h
  have hpB := h.lt
  have hle := h.le
  clear h
  have hpw : p < w.heap.size := by omega
  obtain ⟨i0, hinf, hz0, hz1, hz2⟩ := info_parts info_Int
  have HB0 := Lib.hid (show Below w.heap.size w (w.alloc (.cells #[] 3)) from (by repeat (first | assumption | exact Below.refl _ _ | apply bl_gw | apply bl_alloc | apply bl_drewN | apply bl_drew)))
  have O0 := Lib.hid (show Own encInt (w.alloc (.cells #[] 3)) w.heap.size 3 (.slice (some ⟨w.heap.size, 0, none⟩) 0 0) [] from Own.nil_ (Nat.le_refl w.heap.size) 3)
  have C0 := Lib.hid (HC.out.below (HB0.out.mono hle))
  have G0 := Lib.hid (gb_below (World.grownBy.refl w (some p)) HB0.out)
  go_enter Tryd.func38, Tryd.ntmps38
  go_wp2_with fail
  refine (among_any [0, 3, 10, 20, 40] 5 rfl _ _ _ _ 3 _ (by omega) (C0.out.below ((show Below (w.alloc (.cells #[] 3)).heap.size (w.alloc (.cells #[] 3)) _ from (by repeat (first | assumption | exact Below.refl _ _ | apply bl_gw | apply bl_alloc | apply bl_drewN | apply bl_drew))).mono C0.out.le)) (by have := C0.out.le; simp; omega) (by first | exact Blk.new _ _ _ | exact Blk.new_ _ _ _ _ (by simp) | exact (Blk.new _ _ _).drewN _ | exact (Blk.new _ _ _).gw _) (by omega) (by omega)).mono ?_
  rintro e w1 ⟨x1, hmx1, rfl, r1, g1⟩
  have C1 := Lib.hid r1
  have G1 := Lib.hid ((gb_below G0.out ((show Below (w.alloc (.cells #[] 3)).heap.size (w.alloc (.cells #[] 3)) _ from (by repeat (first | assumption | exact Below.refl _ _ | apply bl_gw | apply bl_alloc | apply bl_drewN | apply bl_drew))).mono G0.out.size)).trans g1)
  have g1' := g1
  clear r1 g1
  have O1 := Lib.hid ((O0.out.past (bl_alloc (Below.refl (w.alloc (.cells #[] 3)).heap.size _) _) (by simp)).drawn g1' hpw)
  have hb1 : 0 ≤ x1 ∧ x1 ≤ 40 := by simp at hmx1; omega
  clear g1' hmx1 O0 C0 G0 HB0 HC
  go_wp2
  go_loopw [3] (fun u wr => ∃ (A : Option Addr) (cv : Nat) (l : List Int), l.length ≤ 40 ∧ u = .slice A l.length cv ∧ Own encInt wr w.heap.size 3 (.slice A l.length cv) l ∧ Cur wr B p (k + 2 + 2 * l.length) ∧ w.grownBy wr (some p)) (fun u _ => 41 - sliceLen u)
  case atStart => exact ⟨_, _, [], by simp, rfl, O1.out, C1.out.mono (by simp), G1.out⟩
  case round =>
    clear O1 C1 G1
    obtain ⟨A, cv, l, hl40, rfl, ho, hc, hg⟩ := hrel
    have HO := Lib.hid ho
    have C3 := Lib.hid hc
    have G3 := Lib.hid hg
    clear ho hc hg
    by_cases hm : (l.length : Int) < x1
    · have hm' : l.length < 40 := by omega
      go_wp2_with fail
      refine (among_any [0, 29, 30, 50, 60, 100] 6 rfl _ _ _ _ 3 _ (by omega) (C3.out.below ((show Below (wr).heap.size (wr) _ from (by repeat (first | assumption | exact Below.refl _ _ | apply bl_gw | apply bl_alloc | apply bl_drewN | apply bl_drew))).mono C3.out.le)) (by have := C3.out.le; simp; omega) (by first | exact Blk.new _ _ _ | exact Blk.new_ _ _ _ _ (by simp) | exact (Blk.new _ _ _).drewN _ | exact (Blk.new _ _ _).gw _) (by omega) (by omega)).mono ?_
      rintro e w3 ⟨x4, hmx4, rfl, r1, g1⟩
      have C4 := Lib.hid r1
      have G4 := Lib.hid ((gb_below G3.out ((show Below (wr).heap.size (wr) _ from (by repeat (first | assumption | exact Below.refl _ _ | apply bl_gw | apply bl_alloc | apply bl_drewN | apply bl_drew))).mono G3.out.size)).trans g1)
      have g1' := g1
      clear r1 g1
      have O4 := Lib.hid ((HO.out.past (bl_alloc (Below.refl wr.heap.size wr) _) (Nat.le_refl _)).drawn g1' hpw)
      clear g1' hmx4
      go_wp2_with (at_builtin; refine halt ?_)
      unfold Halt
      refine wpList_app2 (E := encInt) rfl (.tmp 13) (.tmp 17) 33 rfl w.heap.size 3 i0 _ 8 Tryd.underlying33 hinf hz0 hz1 hz2 rfl (by decide) _ _ rfl O4.out x4 _ rfl (by first | rfl | (rw [alloc_size]; rfl)) (by unfold maxLen; omega) (by omega) (by have := G4.out.size; simp; omega) ?_
      intro v5 w5 ho5 hb5
      have O5 := Lib.hid ho5
      have C5 := Lib.hid (C4.out.below (hb5 B hle))
      have G5 := Lib.hid (gb_below G4.out (hb5 _ (Nat.le_refl _)))
      clear ho5 hb5
      obtain ⟨A5, c5, hv5, _, _, _⟩ := O5.out.slice
      rw [List.length_append] at hv5
      subst hv5
      go_wp2
      go_roundw
      case rel => exact ⟨A5, c5, l ++ [x4], by simp; omega, by simp, by rw [List.length_append]; exact O5.out, C5.out.mono (by simp; omega), G5.out⟩
      case measure => simp [sliceLen]; omega
    · have C3' := Lib.hid (C3.out.mono (show k + 2 + 2 * l.length ≤ k + 82 by omega))
      clear C3
      go_wp2_with fail
      refine (pick_any _ _ _ 40 _ (by omega) (by omega) (C3'.out.below ((show Below (wr).heap.size (wr) _ from (by repeat (first | assumption | exact Below.refl _ _ | apply bl_gw | apply bl_alloc | apply bl_drewN | apply bl_drew))).mono C3'.out.le))).mono ?_
      rintro e w2 ⟨x2, hmx2, rfl, r1, g1⟩
      have C2 := Lib.hid r1
      have G2 := Lib.hid ((gb_below G3.out ((show Below (wr).heap.size (wr) _ from (by repeat (first | assumption | exact Below.refl _ _ | apply bl_gw | apply bl_alloc | apply bl_drewN | apply bl_drew))).mono G3.out.size)).trans g1)
      have g1' := g1
      clear r1 g1
      have O2 := Lib.hid (HO.out.drawn g1' hpw)
      clear g1' HO
      rcases (show x2 = 0 ∨ x2 = 1 ∨ 1 < x2 by omega) with h | h | h
      · have f0 : (x2 : Int) = 0 := by omega
        rw [f0]
        go_wp2_with fail
        refine (among_any [-1, 101] 2 rfl _ _ _ _ 3 _ (by omega) (C2.out.below ((show Below (w2).heap.size (w2) _ from (by repeat (first | assumption | exact Below.refl _ _ | apply bl_gw | apply bl_alloc | apply bl_drewN | apply bl_drew))).mono C2.out.le)) (by have := C2.out.le; simp; omega) (by first | exact Blk.new _ _ _ | exact Blk.new_ _ _ _ _ (by simp) | exact (Blk.new _ _ _).drewN _ | exact (Blk.new _ _ _).gw _) (by omega) (by omega)).mono ?_
        rintro e w3 ⟨x4, hmx4, rfl, r1, g1⟩
        have C4 := Lib.hid r1
        have G4 := Lib.hid ((gb_below G2.out ((show Below (w2).heap.size (w2) _ from (by repeat (first | assumption | exact Below.refl _ _ | apply bl_gw | apply bl_alloc | apply bl_drewN | apply bl_drew))).mono G2.out.size)).trans g1)
        have g1' := g1
        clear r1 g1
        have O4 := Lib.hid ((O2.out.past (bl_alloc (Below.refl w2.heap.size w2) _) (Nat.le_refl _)).drawn g1' hpw)
        clear g1' hmx4
        go_wp2_with (at_builtin; refine halt ?_)
        unfold Halt
        refine wpList_app2 (E := encInt) rfl (.tmp 23) (.tmp 27) 33 rfl w.heap.size 3 i0 _ 8 Tryd.underlying33 hinf hz0 hz1 hz2 rfl (by decide) _ _ rfl O4.out x4 _ rfl (by first | rfl | (rw [alloc_size]; rfl)) (by unfold maxLen; omega) (by omega) (by have := G4.out.size; simp; omega) ?_
        intro v5 w5 ho5 hb5
        have O5 := Lib.hid ho5
        have C5 := Lib.hid (C4.out.below (hb5 B hle))
        have G5 := Lib.hid (gb_below G4.out (hb5 _ (Nat.le_refl _)))
        clear ho5 hb5
        go_wp2
        go_ret
        exact ⟨_, _, rfl, by simp; omega, O5.out, C5.out.mono (by omega), G5.out⟩
      · have f0 : (x2 : Int) = 1 := by omega
        rw [f0]
        go_wp2
        go_loopw [3] (fun u wr => ∃ (A : Option Addr) (cv : Nat) (l : List Int), l.length ≤ 402 ∧ u = .slice A l.length cv ∧ Own encInt wr w.heap.size 3 (.slice A l.length cv) l ∧ Cur wr B p (k + 100 + 2 * l.length) ∧ w.grownBy wr (some p)) (fun u _ => 403 - sliceLen u)
        case atStart => exact ⟨_, _, l, by omega, rfl, O2.out, C2.out.mono (by omega), G2.out⟩
        case round =>
          clear O2 C2 G2 G3
          obtain ⟨A, cv, l', hl402, rfl, ho, hc, hg⟩ := hrel
          have HO := Lib.hid ho
          have C3 := Lib.hid hc
          have G3 := Lib.hid hg
          clear ho hc hg
          go_wp2_with fail
          refine (pick_any _ _ _ 2 _ (by omega) (by omega) (C3.out.below ((show Below (wr).heap.size (wr) _ from (by repeat (first | assumption | exact Below.refl _ _ | apply bl_gw | apply bl_alloc | apply bl_drewN | apply bl_drew))).mono C3.out.le))).mono ?_
          rintro e w3 ⟨x4, hmx4, rfl, r1, g1⟩
          have C4 := Lib.hid r1
          have G4 := Lib.hid ((gb_below G3.out ((show Below (wr).heap.size (wr) _ from (by repeat (first | assumption | exact Below.refl _ _ | apply bl_gw | apply bl_alloc | apply bl_drewN | apply bl_drew))).mono G3.out.size)).trans g1)
          have g1' := g1
          clear r1 g1
          have O4 := Lib.hid (HO.out.drawn g1' hpw)
          clear g1'
          have e4 : IntKind.i64.wrap (400 + (x4 : Int)) = 400 + (x4 : Int) := IntWalk.i64_in _ (by omega)
          by_cases hm2 : (l'.length : Int) < 400 + (x4 : Int)
          · have hm' : l'.length < 402 := by omega
            go_wp2_with (at_builtin; refine halt ?_)
            unfold Halt
            refine wpList_app2 (E := encInt) rfl (.tmp 37) (.tmp 38) 33 rfl w.heap.size 3 i0 _ 8 Tryd.underlying33 hinf hz0 hz1 hz2 rfl (by decide) _ _ rfl O4.out 55 _ rfl (by first | rfl | (rw [alloc_size]; rfl)) (by unfold maxLen; omega) (by omega) (by have := G4.out.size; simp; omega) ?_
            intro v5 w5 ho5 hb5
            have O5 := Lib.hid ho5
            have C5 := Lib.hid (C4.out.below (hb5 B hle))
            have G5 := Lib.hid (gb_below G4.out (hb5 _ (Nat.le_refl _)))
            clear ho5 hb5
            obtain ⟨A5, c5, hv5, _, _, _⟩ := O5.out.slice
            rw [List.length_append] at hv5
            subst hv5
            go_wp2
            go_roundw
            case rel => exact ⟨A5, c5, l' ++ [55], by simp; omega, by simp, by rw [List.length_append]; exact O5.out, C5.out.mono (by simp; omega), G5.out⟩
            case measure => simp [sliceLen]; omega
          · go_wp2
            go_ret
            exact ⟨_, _, rfl, hl402, O4.out, C4.out.mono (by omega), G4.out⟩
      · have f0 : ((x2 : Int) == 0) = false := beq_eq_false_iff_ne.2 (by omega)
        have f1 : ((x2 : Int) == 1) = false := beq_eq_false_iff_ne.2 (by omega)
        have f2 : ¬ (x2 : Int) = 0 := by omega
        have f3 : ¬ (x2 : Int) = 1 := by omega
        go_wp2
        go_ret
        exact ⟨_, _, rfl, by omega, O2.out, C2.out.mono (by omega), G2.out⟩
end Go.Proofs.YtggdcjajiaeklaaDoor
