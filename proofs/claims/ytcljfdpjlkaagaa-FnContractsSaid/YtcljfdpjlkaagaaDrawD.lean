/- The draw of a stock: some stock. -/
import Derived.Test.YtcljfdpjlkaagaaDraw
import Derived.Test.YtcljfdpjlkaagaaServe
import Derived.Test.YtcljfdpjlkaagaaRoom
namespace Go.Proofs.Ytcljfdpjlkaagaa
open Go.RowKit
set_option maxRecDepth 4000 in
set_option maxHeartbeats 8000000 in
theorem stock18_any (B p k : Nat) (w : World) (hk : k ≤ 1000) (h : Cur w B p k) :
    Calls Try.prog 74 #[.pointer (some ⟨p, 0, none⟩)] w fun e w' => ∃ v l, e = .returned v ∧ List.length l ≤ 4 ∧ Own encInt w' w.heap.size 3 v l ∧ Cur w' B p (k + 20) ∧ w.grownBy w' (some p) := by
  have HC := Lib.hid h
  have hpB := h.lt
  have hle := h.le
  clear h
  have hpw : p < w.heap.size := by omega
  obtain ⟨i0, hinf, hz0, hz1, hz2⟩ := info_parts info_Int
  have HB0 := Lib.hid (show Below w.heap.size w (w.alloc (.cells #[] 3)) from (by repeat (first | assumption | exact Below.refl _ _ | apply bl_gw | apply bl_alloc | apply bl_drewN | apply bl_drew)))
  have O0 := Lib.hid (show Own encInt (w.alloc (.cells #[] 3)) w.heap.size 3 (.slice (some ⟨w.heap.size, 0, none⟩) 0 0) [] from Own.nil_ (Nat.le_refl w.heap.size) 3)
  have C0 := Lib.hid (HC.out.below (HB0.out.mono hle))
  have G0 := Lib.hid (gb_below (World.grownBy.refl w (some p)) HB0.out)
  go_enter Try.func74, Try.ntmps74
  go_wp2
  go_loopw [3, 4] (fun u iv wr => ∃ (vw : Value) (l : List Int) (i : Nat), i ≤ 4 ∧ l.length = i ∧ iv = .int .i64 i ∧ vw = u ∧ Own encInt wr w.heap.size 3 vw l ∧ Cur wr B p (k + 2 * i) ∧ w.grownBy wr (some p)) (fun _ iv _ => 4 - (intOf iv).toNat)
  case atStart => exact ⟨_, [], 0, Nat.zero_le _, rfl, rfl, rfl, O0.out, C0.out.mono (by omega), G0.out⟩
  case round =>
    clear O0 C0 G0 HB0 HC
    obtain ⟨vw, l, i, hi, hli, rfl, rfl, ho, hc, hg⟩ := hrel
    have HLI := Lib.hid hli
    have hl4 : l.length ≤ 4 := by omega
    have O1 := Lib.hid ho
    have C1 := Lib.hid hc
    have G1 := Lib.hid hg
    have hsz := hg.size
    clear hli ho hc hg
    by_cases hlt : i < 4
    · have k1 : (i : Int) < 4 := by omega
      go_wp2_with fail
      refine (among_any [0, 0, 50, 120, 400, 50000] 6 rfl _ _ _ _ 3 _ (by omega) (C1.out.below ((show Below (wr).heap.size (wr) _ from (by repeat (first | assumption | exact Below.refl _ _ | apply bl_gw | apply bl_alloc | apply bl_drewN | apply bl_drew))).mono C1.out.le)) (by have := C1.out.le; simp; omega) (by first | exact Blk.new _ _ _ | exact Blk.new_ _ _ _ _ (by simp) | exact (Blk.new _ _ _).drewN _ | exact (Blk.new _ _ _).gw _) (by omega) (by omega)).mono ?_
      rintro e w2 ⟨x2, hmx2, rfl, r1, g1⟩
      have C2 := Lib.hid r1
      have G2 := Lib.hid ((gb_below G1.out ((show Below (wr).heap.size (wr) _ from (by repeat (first | assumption | exact Below.refl _ _ | apply bl_gw | apply bl_alloc | apply bl_drewN | apply bl_drew))).mono G1.out.size)).trans g1)
      have g1' := g1
      clear r1 g1
      have O2 := Lib.hid ((O1.out.past (bl_alloc (Below.refl _ _) _) (Nat.le_refl _)).drawn g1' hpw)
      clear g1' hmx2
      go_wp2_with (at_builtin; refine halt ?_)
      unfold Halt
      refine wpList_app2 (E := encInt) rfl (.tmp 10) (.tmp 14) 35 rfl w.heap.size 3 i0 _ 8 Try.underlying35 hinf hz0 hz1 hz2 rfl (by decide) _ _ rfl O2.out x2 _ rfl (by first | rfl | (rw [alloc_size]; rfl)) (by unfold maxLen; omega) (by omega) G2.out.size ?_
      intro v5 w5 ho5 hb5
      have O5 := Lib.hid ho5
      have C5 := Lib.hid (C2.out.below (hb5 B hle))
      have G5 := Lib.hid (gb_below G2.out (hb5 _ (Nat.le_refl _)))
      clear ho5 hb5
      go_wp2
      go_roundw
      case rel => exact ⟨_, _, i + 1, by omega, by simp [HLI.out], by go_num, rfl, O5.out, C5.out.mono (by omega), G5.out⟩
      case measure => simp [intOf]; omega
    · obtain rfl : i = 4 := by omega
      have C1' := Lib.hid (C1.out.mono (show k + 2 * 4 ≤ k + 8 by omega))
      clear C1
      go_wp2_with fail
      refine (pick_any _ _ _ 60 _ (by omega) (by omega) (C1'.out.below ((show Below (wr).heap.size (wr) _ from (by repeat (first | assumption | exact Below.refl _ _ | apply bl_gw | apply bl_alloc | apply bl_drewN | apply bl_drew))).mono C1'.out.le))).mono ?_
      rintro e w2 ⟨x2, hmx2, rfl, r1, g1⟩
      have C2 := Lib.hid r1
      have G2 := Lib.hid ((gb_below G1.out ((show Below (wr).heap.size (wr) _ from (by repeat (first | assumption | exact Below.refl _ _ | apply bl_gw | apply bl_alloc | apply bl_drewN | apply bl_drew))).mono G1.out.size)).trans g1)
      have g1' := g1
      clear r1 g1
      have O2 := Lib.hid (O1.out.drawn g1' hpw)
      clear g1'
      obtain ⟨Av, cv, rfl, hcv, _, _⟩ := O2.out.slice
      have hll := HLI.out
      have hcv4 : 4 ≤ cv := by omega
      obtain ⟨gg, rfl⟩ := O2.out.some_ (by omega)
      have O3 := Lib.hid (show Own encInt w2 w.heap.size 3 (.slice (some ⟨gg, 0, none⟩) 4 cv) l from by have := O2.out; rwa [hll] at this)
      rw [hll]
      clear hll hcv O2
      rcases (show x2 = 0 ∨ x2 = 1 ∨ 1 < x2 by omega) with h | h | h
      · have f0 : (x2 : Int) = 0 := by omega
        rw [f0]
        go_wp2
        go_ret
        exact ⟨_, _, rfl, by rw [List.length_take, HLI.out]; decide, O3.out.prefix_ (p := 3) (by decide), C2.out.mono (by omega), G2.out⟩
      · have f0 : (x2 : Int) = 1 := by omega
        rw [f0]
        go_wp2_with fail
        refine (pick_any _ _ _ 4 _ (by omega) (by omega) (C2.out.below ((show Below (w2).heap.size (w2) _ from (by repeat (first | assumption | exact Below.refl _ _ | apply bl_gw | apply bl_alloc | apply bl_drewN | apply bl_drew))).mono C2.out.le))).mono ?_
        rintro e w3 ⟨x3, hmx3, rfl, r1, g1⟩
        have C3 := Lib.hid r1
        have G3 := Lib.hid ((gb_below G2.out ((show Below (w2).heap.size (w2) _ from (by repeat (first | assumption | exact Below.refl _ _ | apply bl_gw | apply bl_alloc | apply bl_drewN | apply bl_drew))).mono G2.out.size)).trans g1)
        have g1' := g1
        clear r1 g1
        have O4 := Lib.hid (O3.out.drawn g1' hpw)
        clear g1'
        go_wp2_with fail
        refine (among_any [-1, 50001] 2 rfl _ _ _ _ 3 _ (by omega) (C3.out.below ((show Below (w3).heap.size (w3) _ from (by repeat (first | assumption | exact Below.refl _ _ | apply bl_gw | apply bl_alloc | apply bl_drewN | apply bl_drew))).mono C3.out.le)) (by have := C3.out.le; simp; omega) (by first | exact Blk.new _ _ _ | exact Blk.new_ _ _ _ _ (by simp) | exact (Blk.new _ _ _).drewN _ | exact (Blk.new _ _ _).gw _) (by omega) (by omega)).mono ?_
        rintro e w4 ⟨x4, hmx4, rfl, r1, g1⟩
        have C4 := Lib.hid r1
        have G4 := Lib.hid ((gb_below G3.out ((show Below (w3).heap.size (w3) _ from (by repeat (first | assumption | exact Below.refl _ _ | apply bl_gw | apply bl_alloc | apply bl_drewN | apply bl_drew))).mono G3.out.size)).trans g1)
        have g1' := g1
        clear r1 g1
        have O5 := Lib.hid ((O4.out.past (bl_alloc (Below.refl _ _) _) (Nat.le_refl _)).drawn g1' hpw)
        clear g1' hmx4
        have k3 : (x3 : Int) < 4 := by omega
        have k4 : (0 : Int) ≤ (x3 : Int) := by omega
        obtain ⟨y, hy⟩ : ∃ y, l[x3]? = some y := ⟨l[x3]'(by rw [HLI.out]; omega), List.getElem?_eq_getElem _⟩
        obtain ⟨hgw, d0⟩ := O5.out.int hy
        have t0 := O5.out.thaw x3
        have hlo : w.heap.size ≤ gg := O5.out.lo ⟨gg, 0, none⟩ rfl
        have O6 := Lib.hid (O5.out.setInt (i := x3) (by omega) x4)
        have B6 := Lib.hid ((Below.refl w.heap.size w4).setCell (p := ⟨gg, x3, none⟩) hlo (.int .i64 x4))
        have C6 := Lib.hid (C4.out.below (B6.out.mono hle))
        have G6 := Lib.hid (gb_below G4.out B6.out)
        clear hy
        go_wp2
        go_ret
        exact ⟨_, _, rfl, by rw [List.length_set, HLI.out]; decide, O6.out, C6.out.mono (by omega), G6.out⟩
      · have f0 : ((x2 : Int) == 0) = false := beq_eq_false_iff_ne.2 (by omega)
        have f1 : ((x2 : Int) == 1) = false := beq_eq_false_iff_ne.2 (by omega)
        have f4 : ¬ (x2 : Int) = 0 := by omega
        have f5 : ¬ (x2 : Int) = 1 := by omega
        go_wp2
        go_ret
        exact ⟨_, _, rfl, hl4, O3.out, C2.out.mono (by omega), G2.out⟩
end Go.Proofs.Ytcljfdpjlkaagaa
