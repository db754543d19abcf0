/- The draws of casks of bittern and of orders (plain seat). -/
import Derived.Test.YtcajgadgdjopdaaDraw
import Derived.Test.YtcajgadgdjopdaaApp1
import Derived.Test.YtcajgadgdjopdaaSet
import Derived.Test.YtcajgadgdjopdaaBitternA
import Derived.Test.YtcajgadgdjopdaaMostS
namespace Go.Proofs.Ytcajgadgdjopdaa
open Go.RowKit
def lenV : Value → Nat | .slice _ n _ => n | _ => 0
set_option maxRecDepth 4000 in
set_option maxHeartbeats 8000000 in
theorem bitterns_any (B p k : Nat) (w : World) (hk : k ≤ 300) (h : Cur w B p k) :
    Calls Try.prog 38 #[.pointer (some ⟨p, 0, none⟩)] w fun e w' => ∃ v l, e = .returned v ∧ List.length l ≤ 9 ∧ Own encBittern w' w.heap.size 69 v l ∧ Cur w' B p (k + 300) ∧ w.grownBy w' (some p) := by
  have HC := Lib.hid h
  have hpB := h.lt
  have hle := h.le
  clear h
  have hpw : p < w.heap.size := by omega
  obtain ⟨i0, hinf, hz0, hz1, hz2⟩ := info_parts info_Bittern
  have HB0 := Lib.hid (show Below w.heap.size w (w.alloc (.cells #[] 69)) from (by repeat (first | assumption | exact Below.refl _ _ | apply bl_gw | apply bl_alloc | apply bl_drewN | apply bl_drew)))
  have O0 := Lib.hid (show Own encBittern (w.alloc (.cells #[] 69)) w.heap.size 69 (.slice (some ⟨w.heap.size, 0, none⟩) 0 0) [] from Own.nil_ (Nat.le_refl w.heap.size) 69)
  have C0 := Lib.hid (HC.out.below (HB0.out.mono hle))
  have G0 := Lib.hid (gb_below (World.grownBy.refl w (some p)) HB0.out)
  go_enter Try.func38, Try.ntmps38
  go_wp2
  go_loopw [3, 4] (fun u mv wr => ∃ (vw : Value) (l : List Bittern) (m : Nat), l.length + 1 ≤ m ∧ m ≤ 7 ∧ mv = .int .i64 m ∧ vw = u ∧ Own encBittern wr w.heap.size 69 vw l ∧ Cur wr B p (k + 6 * m) ∧ w.grownBy wr (some p)) (fun _ mv _ => 7 - (intOf mv).toNat)
  case atStart => exact ⟨_, [], 1, by simp, by omega, rfl, rfl, O0.out, C0.out.mono (by omega), G0.out⟩
  case round =>
    clear O0 C0 G0 HB0
    obtain ⟨vw, l, m, hlm, hm7, rfl, rfl, ho, hc, hg⟩ := hrel
    have HO := Lib.hid ho
    have C3 := Lib.hid hc
    have G3 := Lib.hid hg
    clear ho hc hg
    obtain ⟨Av, cv, rfl, _, _, _⟩ := HO.out.slice
    by_cases hm : m < 7
    · have m1 : (m : Int) < 7 := by omega
      go_wp2_with fail
      refine (one_any _ _ _ 3 _ (by omega) (by omega) (C3.out.below ((show Below (wr).heap.size (wr) _ from (by repeat (first | assumption | exact Below.refl _ _ | apply bl_gw | apply bl_alloc | apply bl_drewN | apply bl_drew))).mono C3.out.le))).mono ?_
      rintro e w3 ⟨q, rfl, r1, g1⟩
      have C4 := Lib.hid r1
      have G4 := Lib.hid ((gb_below G3.out ((show Below (wr).heap.size (wr) _ from (by repeat (first | assumption | exact Below.refl _ _ | apply bl_gw | apply bl_alloc | apply bl_drewN | apply bl_drew))).mono G3.out.size)).trans g1)
      have g1' := g1
      clear r1 g1
      have O4 := Lib.hid (HO.out.drawn g1' hpw)
      clear g1'
      cases q
      · go_wp2_with fail
        refine (among_any [0, 1, 10, 50, 100, 10000] 6 rfl _ _ _ _ 3 _ (by omega) (C4.out.below ((show Below (w3).heap.size (w3) _ from (by repeat (first | assumption | exact Below.refl _ _ | apply bl_gw | apply bl_alloc | apply bl_drewN | apply bl_drew))).mono C4.out.le)) (by have := C4.out.le; simp; omega) (by first | exact Blk.new _ _ _ | exact Blk.new_ _ _ _ _ (by simp) | exact (Blk.new _ _ _).drewN _ | exact (Blk.new _ _ _).gw _) (by omega) (by omega)).mono ?_
        rintro e w4 ⟨x0, hmx0, rfl, r1, g1⟩
        have Ca := Lib.hid r1
        have Ga := Lib.hid ((gb_below G4.out ((show Below (w3).heap.size (w3) _ from (by repeat (first | assumption | exact Below.refl _ _ | apply bl_gw | apply bl_alloc | apply bl_drewN | apply bl_drew))).mono G4.out.size)).trans g1)
        have g1' := g1
        clear r1 g1
        have Oa := Lib.hid ((O4.out.past (bl_alloc (Below.refl w3.heap.size _) _) (Nat.le_refl _)).drawn g1' hpw)
        clear g1' hmx0
        go_wp2_with fail
        refine (among_any [0, 100, 250, 300, 500, 1000] 6 rfl _ _ _ _ 3 _ (by omega) (Ca.out.below ((show Below (w4).heap.size (w4) _ from (by repeat (first | assumption | exact Below.refl _ _ | apply bl_gw | apply bl_alloc | apply bl_drewN | apply bl_drew))).mono Ca.out.le)) (by have := Ca.out.le; simp; omega) (by first | exact Blk.new _ _ _ | exact Blk.new_ _ _ _ _ (by simp) | exact (Blk.new _ _ _).drewN _ | exact (Blk.new _ _ _).gw _) (by omega) (by omega)).mono ?_
        rintro e w6 ⟨x1, hmx1, rfl, r1, g1⟩
        have C6 := Lib.hid r1
        have G6 := Lib.hid ((gb_below Ga.out ((show Below (w4).heap.size (w4) _ from (by repeat (first | assumption | exact Below.refl _ _ | apply bl_gw | apply bl_alloc | apply bl_drewN | apply bl_drew))).mono Ga.out.size)).trans g1)
        have g1' := g1
        clear r1 g1
        have O6 := Lib.hid ((Oa.out.past (bl_alloc (Below.refl w4.heap.size _) _) (Nat.le_refl _)).drawn g1' hpw)
        clear g1' hmx1 O4 Oa HO
        go_wp2_with (at_builtin; refine halt ?_)
        unfold Halt
        refine wpList_app2 (E := encBittern) rfl (.tmp 12) (.tmp 22) 24 rfl w.heap.size 69 i0 _ 24 Try.underlying24 hinf hz0 hz1 hz2 rfl (by decide) _ _ rfl O6.out ⟨_, _, _⟩ _ rfl (by first | rfl | (rw [alloc_size]; rfl)) (by unfold maxLen; omega) (by omega) (by have := G6.out.size; simp; omega) ?_
        intro v5 w5 ho5 hb5
        have O5 := Lib.hid ho5
        have C5 := Lib.hid (C6.out.below (hb5 B hle))
        have G5 := Lib.hid (gb_below G6.out (hb5 _ (Nat.le_refl _)))
        clear ho5 hb5
        go_wp2
        go_roundw
        case rel => exact ⟨_, _, m + 1, by simp; omega, by omega, by go_num, rfl, O5.out, C5.out.mono (by omega), G5.out⟩
        case measure => simp [intOf]; omega
      · go_wp2
        go_roundw
        case rel => exact ⟨_, _, m + 1, by omega, by omega, by go_num, rfl, O4.out, C4.out.mono (by omega), G4.out⟩
        case measure => simp [intOf]; omega
    · obtain rfl : m = 7 := by omega
      have hl6 : l.length ≤ 6 := by omega
      go_wp2_with fail
      refine (pick_any _ _ _ 32 _ (by omega) (by omega) (C3.out.below ((show Below (wr).heap.size (wr) _ from (by repeat (first | assumption | exact Below.refl _ _ | apply bl_gw | apply bl_alloc | apply bl_drewN | apply bl_drew))).mono C3.out.le))).mono ?_
      rintro e w3 ⟨r, hmr, rfl, r1, g1⟩
      have C4 := Lib.hid r1
      have G4 := Lib.hid ((gb_below G3.out ((show Below (wr).heap.size (wr) _ from (by repeat (first | assumption | exact Below.refl _ _ | apply bl_gw | apply bl_alloc | apply bl_drewN | apply bl_drew))).mono G3.out.size)).trans g1)
      have g1' := g1
      clear r1 g1
      have O4 := Lib.hid (HO.out.drawn g1' hpw)
      clear g1' C3 G3 HO
      by_cases h0 : r = 0
      · subst h0
        go_wp2_with fail
        refine (among_any [0, 9, 99, 100] 4 rfl _ _ _ _ 3 _ (by omega) (C4.out.below ((show Below (w3).heap.size (w3) _ from (by repeat (first | assumption | exact Below.refl _ _ | apply bl_gw | apply bl_alloc | apply bl_drewN | apply bl_drew))).mono C4.out.le)) (by have := C4.out.le; simp; omega) (by first | exact Blk.new _ _ _ | exact Blk.new_ _ _ _ _ (by simp) | exact (Blk.new _ _ _).drewN _ | exact (Blk.new _ _ _).gw _) (by omega) (by omega)).mono ?_
        rintro e w4 ⟨x0, hmx0, rfl, r1, g1⟩
        have Ca := Lib.hid r1
        have Ga := Lib.hid ((gb_below G4.out ((show Below (w3).heap.size (w3) _ from (by repeat (first | assumption | exact Below.refl _ _ | apply bl_gw | apply bl_alloc | apply bl_drewN | apply bl_drew))).mono G4.out.size)).trans g1)
        have g1' := g1
        clear r1 g1
        have Oa := Lib.hid ((O4.out.past (bl_alloc (Below.refl w3.heap.size _) _) (Nat.le_refl _)).drawn g1' hpw)
        clear g1' hmx0
        go_wp2_with fail
        refine (among_any [-1, 5, 10001] 3 rfl _ _ _ _ 3 _ (by omega) (Ca.out.below ((show Below (w4).heap.size (w4) _ from (by repeat (first | assumption | exact Below.refl _ _ | apply bl_gw | apply bl_alloc | apply bl_drewN | apply bl_drew))).mono Ca.out.le)) (by have := Ca.out.le; simp; omega) (by first | exact Blk.new _ _ _ | exact Blk.new_ _ _ _ _ (by simp) | exact (Blk.new _ _ _).drewN _ | exact (Blk.new _ _ _).gw _) (by omega) (by omega)).mono ?_
        rintro e w6 ⟨x1, hmx1, rfl, r1, g1⟩
        have Cb := Lib.hid r1
        have Gb := Lib.hid ((gb_below Ga.out ((show Below (w4).heap.size (w4) _ from (by repeat (first | assumption | exact Below.refl _ _ | apply bl_gw | apply bl_alloc | apply bl_drewN | apply bl_drew))).mono Ga.out.size)).trans g1)
        have g1' := g1
        clear r1 g1
        have Ob := Lib.hid ((Oa.out.past (bl_alloc (Below.refl w4.heap.size _) _) (Nat.le_refl _)).drawn g1' hpw)
        clear g1' hmx1 O4 Oa
        go_wp2_with fail
        refine (among_any [-1, 5, 1001] 3 rfl _ _ _ _ 3 _ (by omega) (Cb.out.below ((show Below (w6).heap.size (w6) _ from (by repeat (first | assumption | exact Below.refl _ _ | apply bl_gw | apply bl_alloc | apply bl_drewN | apply bl_drew))).mono Cb.out.le)) (by have := Cb.out.le; simp; omega) (by first | exact Blk.new _ _ _ | exact Blk.new_ _ _ _ _ (by simp) | exact (Blk.new _ _ _).drewN _ | exact (Blk.new _ _ _).gw _) (by omega) (by omega)).mono ?_
        rintro e w7 ⟨x2, hmx2, rfl, r1, g1⟩
        have C6 := Lib.hid r1
        have G6 := Lib.hid ((gb_below Gb.out ((show Below (w6).heap.size (w6) _ from (by repeat (first | assumption | exact Below.refl _ _ | apply bl_gw | apply bl_alloc | apply bl_drewN | apply bl_drew))).mono Gb.out.size)).trans g1)
        have g1' := g1
        clear r1 g1
        have O6 := Lib.hid ((Ob.out.past (bl_alloc (Below.refl w6.heap.size _) _) (Nat.le_refl _)).drawn g1' hpw)
        clear g1' hmx2 Ob
        go_wp2_with (at_builtin; refine halt ?_)
        unfold Halt
        refine wpList_app2 (E := encBittern) rfl (.tmp 28) (.tmp 39) 24 rfl w.heap.size 69 i0 _ 24 Try.underlying24 hinf hz0 hz1 hz2 rfl (by decide) _ _ rfl O6.out ⟨_, _, _⟩ _ rfl (by first | rfl | (rw [alloc_size]; rfl)) (by unfold maxLen; omega) (by omega) (by have := G6.out.size; simp; omega) ?_
        intro v5 w5 ho5 hb5
        have O5 := Lib.hid ho5
        have C5 := Lib.hid (C6.out.below (hb5 B hle))
        have G5 := Lib.hid (gb_below G6.out (hb5 _ (Nat.le_refl _)))
        clear ho5 hb5
        go_wp2
        go_ret
        exact ⟨_, _, rfl, by simp; omega, O5.out, C5.out.mono (by omega), G5.out⟩
      · have r0 : ((r : Int) == 0) = false := beq_eq_false_iff_ne.2 (by omega)
        have r0' : ¬ (r : Int) = 0 := by omega
        by_cases h1 : r = 1
        · subst h1
          go_wp2
          go_loopw [3] (fun u wr => ∃ (l : List Bittern) (m : Nat), l.length = m ∧ m ≤ 9 ∧ Own encBittern wr w.heap.size 69 u l ∧ Cur wr B p (k + 60 + 2 * m) ∧ w.grownBy wr (some p)) (fun u _ => 12 - lenV u)
          case atStart => exact ⟨l, _, rfl, by omega, O4.out, C4.out.mono (by omega), G4.out⟩
          case round =>
            clear O4 C4 G4 hlm hl6
            obtain ⟨l', m, hlm', hm9, ho, hc, hg⟩ := hrel
            have HLM := Lib.hid hlm'
            have hl9 : l'.length ≤ 9 := by omega
            have HO' := Lib.hid ho
            have C9 := Lib.hid hc
            have G9 := Lib.hid hg
            clear ho hc hg hlm'
            obtain ⟨A9, c9, rfl, _, _, _⟩ := HO'.out.slice
            rw [HLM.out] at HO' ⊢
            go_wp2_with fail
            refine (pick_any _ _ _ 2 _ (by omega) (by omega) (C9.out.below ((show Below (wr).heap.size (wr) _ from (by repeat (first | assumption | exact Below.refl _ _ | apply bl_gw | apply bl_alloc | apply bl_drewN | apply bl_drew))).mono C9.out.le))).mono ?_
            rintro e w9 ⟨x9, hmx9, rfl, r1, g1⟩
            have C10 := Lib.hid r1
            have G10 := Lib.hid ((gb_below G9.out ((show Below (wr).heap.size (wr) _ from (by repeat (first | assumption | exact Below.refl _ _ | apply bl_gw | apply bl_alloc | apply bl_drewN | apply bl_drew))).mono G9.out.size)).trans g1)
            have g1' := g1
            clear r1 g1
            have O9 := Lib.hid (HO'.out.drawn g1' hpw)
            clear g1'
            have k9 : IntKind.i64.wrap (8 + (x9 : Int)) = 8 + (x9 : Int) := IntWalk.i64_in _ (by omega)
            by_cases hlt : (m : Int) < 8 + (x9 : Int)
            · go_wp2_with (at_builtin; refine halt ?_)
              unfold Halt
              refine wpList_app2 (E := encBittern) rfl (.tmp 49) (.tmp 54) 24 rfl w.heap.size 69 i0 _ 24 Try.underlying24 hinf hz0 hz1 hz2 rfl (by decide) _ _ rfl O9.out ⟨_, _, _⟩ _ rfl (by first | rfl | (rw [alloc_size]; rfl)) (by unfold maxLen; omega) (by omega) (by have := G10.out.size; simp; omega) ?_
              intro v5 w5 ho5 hb5
              have O5 := Lib.hid ho5
              have C5 := Lib.hid (C10.out.below (hb5 B hle))
              have G5 := Lib.hid (gb_below G10.out (hb5 _ (Nat.le_refl _)))
              clear ho5 hb5
              obtain ⟨A5, c5, rfl, _, _, _⟩ := O5.out.slice
              go_wp2
              go_roundw
              case rel => exact ⟨l' ++ [⟨80 + (m : Int), 5, 10⟩], m + 1, by simp [HLM.out], by omega, by simpa using O5.out, C5.out.mono (by omega), G5.out⟩
              case measure => simp [lenV, HLM.out]; omega
            · go_wp2
              go_ret
              exact ⟨_, _, rfl, hl9, O9.out, C10.out.mono (by omega), G10.out⟩
        · have r1 : ((r : Int) == 1) = false := beq_eq_false_iff_ne.2 (by omega)
          have r1' : ¬ (r : Int) = 1 := by omega
          go_wp2
          go_ret
          exact ⟨_, _, rfl, by omega, O4.out, C4.out.mono (by omega), G4.out⟩
set_option maxRecDepth 4000 in
set_option maxHeartbeats 4000000 in
theorem bitter_any (B p k : Nat) (w : World) (hk : k ≤ 10000) (h : Cur w B p k) :
    Calls Try.prog 39 #[.pointer (some ⟨p, 0, none⟩)] w fun e w' => ∃ z : Int, e = .returned (.int .i64 z) ∧ Cur w' B p (k + 4) ∧ w.grownBy w' (some p) := by
  have HC := Lib.hid h
  have HG := Lib.hid (World.grownBy.refl w (some p))
  have hpB := h.lt
  have hle := h.le
  clear h
  go_enter Try.func39, Try.ntmps39
  go_wp2_with fail
  refine (among_any [0, 1, 100, 200, 250, 275, 300, 400, 500, 1000, 1001, -1] 12 rfl _ _ _ _ 3 _ (by omega) (HC.out.below ((show Below (w).heap.size (w) _ from (by repeat (first | assumption | exact Below.refl _ _ | apply bl_gw | apply bl_alloc | apply bl_drewN | apply bl_drew))).mono HC.out.le)) (by have := HC.out.le; simp; omega) (by first | exact Blk.new _ _ _ | exact Blk.new_ _ _ _ _ (by simp) | exact (Blk.new _ _ _).drewN _ | exact (Blk.new _ _ _).gw _) (by omega) (by omega)).mono ?_
  rintro e w1 ⟨x1, hmx1, rfl, r1, g1⟩
  have C1 := Lib.hid r1
  have G1 := Lib.hid ((gb_below HG.out ((show Below (w).heap.size (w) _ from (by repeat (first | assumption | exact Below.refl _ _ | apply bl_gw | apply bl_alloc | apply bl_drewN | apply bl_drew))).mono HG.out.size)).trans g1)
  have g1' := g1
  clear r1 g1
  clear g1'
  go_wp2
  go_ret
  exact ⟨_, rfl, C1.out.mono (by omega), G1.out⟩
set_option maxRecDepth 4000 in
set_option maxHeartbeats 4000000 in
theorem drawMostWith_any (A : Option Addr) (n c : Nat) (w : World) (hc : Bytes w A n) :
    Calls Try.prog 22 #[.slice A n c] w fun e w' => ∃ v l, ∃ z : Int, e = .returned (.tuple #[v, .int .i64 z]) ∧ List.length l ≤ 9 ∧ Own encBittern w' w.heap.size 69 v l ∧ Below w.heap.size w w' := by
  have HC := Lib.hid (Cur.new hc c 59)
  have HB := Lib.hid (show Below w.heap.size w (w.alloc (.cells #[.slice A n c, .int .i64 0, .int .u64 0] 59)) from (by repeat (first | assumption | exact Below.refl _ _ | apply bl_gw | apply bl_alloc | apply bl_drewN | apply bl_drew)))
  have HY := Lib.hid hc
  clear hc
  go_enter Try.func22, Try.ntmps22
  go_wp2_with fail
  refine (bitterns_any _ _ _ _ (by omega) (HC.out.below ((show Below ((w.alloc (.cells #[.slice A n c, .int .i64 0, .int .u64 0] 59))).heap.size ((w.alloc (.cells #[.slice A n c, .int .i64 0, .int .u64 0] 59))) _ from (by repeat (first | assumption | exact Below.refl _ _ | apply bl_gw | apply bl_alloc | apply bl_drewN | apply bl_drew))).mono HC.out.le))).mono ?_
  rintro e w1 ⟨v1, l1, rfl, hll1, o1, r1, g1⟩
  have O1 := Lib.hid (o1.lower (Nat.le_trans HC.out.le (by simp)))
  clear o1
  have C1 := Lib.hid r1
  have B1 := Lib.hid (HB.out.trans (((show Below ((w.alloc (.cells #[.slice A n c, .int .i64 0, .int .u64 0] 59))).heap.size ((w.alloc (.cells #[.slice A n c, .int .i64 0, .int .u64 0] 59))) _ from (by repeat (first | assumption | exact Below.refl _ _ | apply bl_gw | apply bl_alloc | apply bl_drewN | apply bl_drew))).mono HB.out.size).trans (gb_toBelow g1 (by have := HB.out.size; simp at this ⊢; try omega) (by simp))))
  have g1' := g1
  clear r1 g1
  clear g1'
  obtain ⟨A1, c1, rfl, hc1, _, _⟩ := O1.out.slice
  have HA1 := Lib.hid (show ∀ a, A1 = some a → a.block ≠ w.heap.size from fun a ha e => by have := O1.out.lo a ha; omega)
  obtain ⟨n1, hn1⟩ : ∃ m, l1.length = m := ⟨_, rfl⟩
  rw [hn1] at hll1 hc1 O1 ⊢
  have HN1 := Lib.hid hn1
  clear hn1
  go_wp2_with fail
  refine (bitter_any _ _ _ _ (by omega) C1.out).mono ?_
  rintro e w2 ⟨z, rfl, r1, g1⟩
  have C2 := Lib.hid r1
  have B2 := Lib.hid (B1.out.trans (((show Below (w1).heap.size (w1) _ from (by repeat (first | assumption | exact Below.refl _ _ | apply bl_gw | apply bl_alloc | apply bl_drewN | apply bl_drew))).mono B1.out.size).trans (gb_toBelow g1 (by have := B1.out.size; simp at this ⊢; try omega) (by simp))))
  have g1' := g1
  clear r1 g1
  have O2 := Lib.hid (O1.out.drawn g1' (by omega))
  clear g1'
  go_wp2
  go_ret2
  exact ⟨_, _, _, rfl, by have := HN1.out; omega, O2.out.lower (by omega), B2.out⟩
set_option maxRecDepth 4000 in
set_option maxHeartbeats 4000000 in
theorem drawFillOrder_any (A : Option Addr) (n c : Nat) (w : World) (hc : Bytes w A n) :
    Calls Try.prog 9 #[.slice A n c] w fun e w' => ∃ v l, ∃ k z : Int, e = .returned (.tuple #[v, .int .i64 k, .int .i64 z]) ∧ List.length l ≤ 9 ∧ Own encBittern w' w.heap.size 69 v l ∧ Below w.heap.size w w' := by
  have HC := Lib.hid (Cur.new hc c 59)
  have HB := Lib.hid (show Below w.heap.size w (w.alloc (.cells #[.slice A n c, .int .i64 0, .int .u64 0] 59)) from (by repeat (first | assumption | exact Below.refl _ _ | apply bl_gw | apply bl_alloc | apply bl_drewN | apply bl_drew)))
  have HY := Lib.hid hc
  clear hc
  go_enter Try.func9, Try.ntmps9
  go_wp2_with fail
  refine (bitterns_any _ _ _ _ (by omega) (HC.out.below ((show Below ((w.alloc (.cells #[.slice A n c, .int .i64 0, .int .u64 0] 59))).heap.size ((w.alloc (.cells #[.slice A n c, .int .i64 0, .int .u64 0] 59))) _ from (by repeat (first | assumption | exact Below.refl _ _ | apply bl_gw | apply bl_alloc | apply bl_drewN | apply bl_drew))).mono HC.out.le))).mono ?_
  rintro e w1 ⟨v1, l1, rfl, hll1, o1, r1, g1⟩
  have O1 := Lib.hid (o1.lower (Nat.le_trans HC.out.le (by simp)))
  clear o1
  have C1 := Lib.hid r1
  have B1 := Lib.hid (HB.out.trans (((show Below ((w.alloc (.cells #[.slice A n c, .int .i64 0, .int .u64 0] 59))).heap.size ((w.alloc (.cells #[.slice A n c, .int .i64 0, .int .u64 0] 59))) _ from (by repeat (first | assumption | exact Below.refl _ _ | apply bl_gw | apply bl_alloc | apply bl_drewN | apply bl_drew))).mono HB.out.size).trans (gb_toBelow g1 (by have := HB.out.size; simp at this ⊢; try omega) (by simp))))
  have g1' := g1
  clear r1 g1
  clear g1'
  obtain ⟨A1, c1, rfl, hc1, _, _⟩ := O1.out.slice
  have HA1 := Lib.hid (show ∀ a, A1 = some a → a.block ≠ w.heap.size from fun a ha e => by have := O1.out.lo a ha; omega)
  obtain ⟨n1, hn1⟩ : ∃ m, l1.length = m := ⟨_, rfl⟩
  rw [hn1] at hll1 hc1 O1 ⊢
  have HN1 := Lib.hid hn1
  clear hn1
  go_wp2_with fail
  refine (bitter_any _ _ _ _ (by omega) C1.out).mono ?_
  rintro e w2 ⟨z, rfl, r1, g1⟩
  have C2 := Lib.hid r1
  have B2 := Lib.hid (B1.out.trans (((show Below (w1).heap.size (w1) _ from (by repeat (first | assumption | exact Below.refl _ _ | apply bl_gw | apply bl_alloc | apply bl_drewN | apply bl_drew))).mono B1.out.size).trans (gb_toBelow g1 (by have := B1.out.size; simp at this ⊢; try omega) (by simp))))
  have g1' := g1
  clear r1 g1
  have O2 := Lib.hid (O1.out.drawn g1' (by omega))
  clear g1'
  go_wp2_with fail
  refine (spec_MostWith_any l1 n1 HN1.out _ _ _ _ (by omega) O2.out.rd).mono ?_
  rintro e w3 ⟨rfl, b3⟩
  have hz2 := B2.out.size
  have C3 := Lib.hid (C2.out.below (b3.mono C2.out.le))
  have O3 := Lib.hid (O2.out.past b3 (Nat.le_refl _))
  have B3 := Lib.hid (below_step B2.out b3)
  obtain ⟨r0, r1⟩ := most_rng l1 z
  obtain ⟨mo, hmo⟩ : ∃ m, mostP l1 z = m := ⟨_, rfl⟩
  rw [hmo] at r0 r1 ⊢
  clear hmo b3
  obtain ⟨m1, hm1⟩ : ∃ m, mo + 1 = m := ⟨_, rfl⟩
  have e1 : wrap64 (mo + 1) = m1 := by rw [hm1]; unfold wrap64; omega
  have e2 : IntKind.i64.wrap (mo + 1) = m1 := by rw [hm1]; exact IntWalk.i64_in _ (by omega)
  clear hm1 r0 r1
  go_wp2_with fail
  refine (among_any [1, 7, 60, mo, mo, m1, 100000, 0, 100001] 9 rfl _ _ _ _ 3 _ (by omega) (C3.out.below ((show Below (w3).heap.size (w3) _ from (by repeat (first | assumption | exact Below.refl _ _ | apply bl_gw | apply bl_alloc | apply bl_drewN | apply bl_drew))).mono C3.out.le)) (by have := C3.out.le; simp at this ⊢; try omega) (by first | exact Blk.new _ _ _ | exact Blk.new_ _ _ _ _ (by simp) | exact (Blk.new _ _ _).drewN _ | exact (Blk.new _ _ _).gw _) (by omega) (by omega)).mono ?_
  rintro e w4 ⟨kk, hmkk, rfl, r1, g1⟩
  have C4 := Lib.hid r1
  have B4 := Lib.hid (B3.out.trans (((show Below (w3).heap.size (w3) _ from (by repeat (first | assumption | exact Below.refl _ _ | apply bl_gw | apply bl_alloc | apply bl_drewN | apply bl_drew))).mono B3.out.size).trans (gb_toBelow g1 (by have := B3.out.size; simp at this ⊢; try omega) (by simp))))
  have g1' := g1
  clear r1 g1
  have O4 := Lib.hid ((O3.out.past (bl_alloc (Below.refl w3.heap.size _) _) (Nat.le_refl _)).drawn g1' (by omega))
  clear g1' e1 e2
  go_wp2
  go_ret3
  exact ⟨_, _, _, _, rfl, by have := HN1.out; omega, O4.out.lower (by omega), B4.out⟩
theorem drawAfterOrder_any (A : Option Addr) (n c : Nat) (w : World) (hc : Bytes w A n) :
    Calls Try.prog 19 #[.slice A n c] w fun e w' => ∃ v l, ∃ k z : Int, e = .returned (.tuple #[v, .int .i64 k, .int .i64 z]) ∧ List.length l ≤ 9 ∧ Own encBittern w' w.heap.size 69 v l ∧ Below w.heap.size w w' := by
  have HC := Lib.hid hc
  clear hc
  go_enter Try.func19, Try.ntmps19
  go_wp2_with fail
  refine (drawFillOrder_any A n c _ HC.out).mono ?_
  rintro e w1 ⟨v, l, k, z, rfl, hl, o, b⟩
  have O1 := Lib.hid o
  have B1 := Lib.hid b
  clear o b
  go_wp2
  go_ret3
  exact ⟨_, _, _, _, rfl, hl, O1.out, B1.out⟩
end Go.Proofs.Ytcajgadgdjopdaa
