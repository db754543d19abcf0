/- Walks of blows: the main direction, the reference. -/
import Derived.Test.YtopdbacgceoddaaWindH
namespace Go.Proofs.Ytopdbacgceoddaa
open Go.RowKit
set_option maxHeartbeats 4000000 in
theorem spec_MainDirection_any (l : List Blow) (m : Nat) (hn : l.length = m) (A : Option Addr) (cap : Nat) (w : World) (hl : m ≤ 1048576) (hc : Sl encBlow w w.heap.size A l) :
    Calls Try.prog 26 #[.slice A m cap] w fun e w' => e = .returned (.tuple #[.int .i64 (mainP l).1, .bool (mainP l).2]) ∧ Below w.heap.size w w' := by
  have HC := Lib.hid hc; clear hc
  have HN := Lib.hid hn; clear hn
  have HD := HC
  rcases sp1 (areBlows l) with t1 | t1
  · have hd : mainP l = (0, false) := by simp [mainP, t1]
    rw [hd]
    clear hd
    go_enter Try.func26, Try.ntmps26
    go_wp2_with (first | (go_at_call 56; refine (l19Good_any l m HN.out _ _ _ hl HC.out).mono ?_; rintro e w1 ⟨rfl, hb⟩; obtain ⟨p, rfl⟩ := below_gw hb; clear hb))
    go_ret2
    exact ⟨rfl, (by repeat (first | assumption | exact Below.refl _ _ | apply bl_gw | apply bl_alloc | apply bl_drewN | apply bl_drew))⟩
  · have HT1 := Lib.hid t1
    have hm20 : m ≤ 20 := by have := areBlows_len t1; rw [HN.out] at this; exact this
    have hmk : ∀ w, (Instr.makeSlice 75 (.int .i64 4) (.int .i64 4)).run Try.prog w = .ok (.slice (some ⟨w.heap.size, 0, none⟩) 4 4) (w.alloc (.cells #[.int .i64 0, .int .i64 0, .int .i64 0, .int .i64 0] 3)) := fun _ => by kernel_rfl
    go_enter Try.func26, Try.ntmps26
    go_wp2_with (first | (go_at_call 56; refine (l19Good_any l m HN.out _ _ _ hl HC.out).mono ?_; rintro e w1 ⟨rfl, hb1⟩; have hz1 := hb1.size))
    clear t1 hmk
    go_loopw [5] (fun i wr => ∃ (k : Nat) (s0 s1 s2 s3 : Int), k ≤ m ∧ i = .int .i64 k ∧ Sums l k s0 s1 s2 s3 ∧ Blk wr w1.heap.size 3 #[.int .i64 s0, .int .i64 s1, .int .i64 s2, .int .i64 s3] ∧ Below w.heap.size w wr) (fun i _ => m - (intOf i).toNat)
    case atStart => exact ⟨0, 0, 0, 0, 0, Nat.zero_le _, rfl, ⟨⟨rfl, rfl, rfl, rfl⟩, by omega, by omega, by omega, by omega⟩, Blk.new _ _ _, hb1.alloc hb1.size _⟩
    case round =>
      obtain ⟨k, s0, s1, s2, s3, hkm, rfl, hs, hblk, hbel⟩ := hrel
      have HB := Lib.hid hblk
      have hg := hblk.lt
      obtain ⟨e0, e1, e2, e3⟩ := cells4 hblk
      have f0 := hblk.frozen 0; have f1 := hblk.frozen 1; have f2 := hblk.frozen 2; have f3 := hblk.frozen 3
      clear hblk
      by_cases hlt : k < m
      · have hsz := hbel.size
        obtain ⟨bk, off, rfl, hb, hcs⟩ := HD.out.blow (by rw [HN.out]; omega)
        have hx : l[k]? = some (l[k]'(by rw [HN.out]; exact hlt)) := List.getElem?_eq_getElem _
        generalize l[k]'(by rw [HN.out]; exact hlt) = y at hx
        obtain ⟨c0, c1, c2⟩ := hcs k y hx
        clear hcs
        have HX := Lib.hid hx
        clear hx
        rw [← hbel.cell hb] at c0 c1 c2
        have hbw : bk < wr.heap.size := by omega
        have k1 : (k : Int) < m := by omega
        obtain ⟨⟨y1, y2⟩, ⟨y3, y4⟩, ⟨y5, y6⟩⟩ := areBlows_at HT1.out HX.out
        have st := hs.step HX.out y3 y4
        have ST := Lib.hid st
        have hs4 := hs.2
        have fr : y.frm = 0 ∨ y.frm = 1 ∨ y.frm = 2 ∨ y.frm = 3 := by omega
        obtain ⟨⟨_, _⟩, ⟨_, _⟩, ⟨_, _⟩, ⟨_, _⟩⟩ := hs4
        clear st hs y1 y2 y5 y6
        have k2 : (0 : Int) ≤ k := by omega
        rcases fr with fr | fr | fr | fr
        · rw [fr] at c2
          have FR := Lib.hid fr
          clear fr
          have w1' : IntKind.i64.wrap (s0 + y.speed) = s0 + y.speed := IntWalk.i64_in _ (by omega)
          go_wp2
          refine wp_region_tail 13 (by kernel_rfl) (by kernel_rfl) (fun W hW hWc hWf hWs => ?_)
          have HW := Lib.hid hW; clear hW
          simp only [List.take_succ_cons, List.take_zero, List.drop_succ_cons, List.drop_zero]
          repeat still_step
          refine wpStill_nil ?_
          go_wp2
          go_roundw
          case rel =>
            have hBW : Blk W w1.heap.size 3 #[.int .i64 s0, .int .i64 s1, .int .i64 s2, .int .i64 s3] := by rw [HW.out]; exact HB.out
            have hWB : Below w.heap.size w W := by rw [HW.out]; exact (by repeat (first | assumption | exact Below.refl _ _ | apply bl_gw | apply bl_alloc | apply bl_drewN | apply bl_drew))
            exact ⟨k + 1, _, _, _, _, by omega, by go_num, ST.out.1 FR.out, hBW.set_ 0 _, hWB.setCell (p := ⟨w1.heap.size, 0, none⟩) hb1.size _⟩
          case measure => simp [intOf]; omega
        · rw [fr] at c2
          have FR := Lib.hid fr
          clear fr
          have w1' : IntKind.i64.wrap (s1 + y.speed) = s1 + y.speed := IntWalk.i64_in _ (by omega)
          go_wp2
          refine wp_region_tail 13 (by kernel_rfl) (by kernel_rfl) (fun W hW hWc hWf hWs => ?_)
          have HW := Lib.hid hW; clear hW
          simp only [List.take_succ_cons, List.take_zero, List.drop_succ_cons, List.drop_zero]
          repeat still_step
          refine wpStill_nil ?_
          go_wp2
          go_roundw
          case rel =>
            have hBW : Blk W w1.heap.size 3 #[.int .i64 s0, .int .i64 s1, .int .i64 s2, .int .i64 s3] := by rw [HW.out]; exact HB.out
            have hWB : Below w.heap.size w W := by rw [HW.out]; exact (by repeat (first | assumption | exact Below.refl _ _ | apply bl_gw | apply bl_alloc | apply bl_drewN | apply bl_drew))
            exact ⟨k + 1, _, _, _, _, by omega, by go_num, ST.out.2.1 FR.out, hBW.set_ 1 _, hWB.setCell (p := ⟨w1.heap.size, 1, none⟩) hb1.size _⟩
          case measure => simp [intOf]; omega
        · rw [fr] at c2
          have FR := Lib.hid fr
          clear fr
          have w1' : IntKind.i64.wrap (s2 + y.speed) = s2 + y.speed := IntWalk.i64_in _ (by omega)
          go_wp2
          refine wp_region_tail 13 (by kernel_rfl) (by kernel_rfl) (fun W hW hWc hWf hWs => ?_)
          have HW := Lib.hid hW; clear hW
          simp only [List.take_succ_cons, List.take_zero, List.drop_succ_cons, List.drop_zero]
          repeat still_step
          refine wpStill_nil ?_
          go_wp2
          go_roundw
          case rel =>
            have hBW : Blk W w1.heap.size 3 #[.int .i64 s0, .int .i64 s1, .int .i64 s2, .int .i64 s3] := by rw [HW.out]; exact HB.out
            have hWB : Below w.heap.size w W := by rw [HW.out]; exact (by repeat (first | assumption | exact Below.refl _ _ | apply bl_gw | apply bl_alloc | apply bl_drewN | apply bl_drew))
            exact ⟨k + 1, _, _, _, _, by omega, by go_num, ST.out.2.2.1 FR.out, hBW.set_ 2 _, hWB.setCell (p := ⟨w1.heap.size, 2, none⟩) hb1.size _⟩
          case measure => simp [intOf]; omega
        · rw [fr] at c2
          have FR := Lib.hid fr
          clear fr
          have w1' : IntKind.i64.wrap (s3 + y.speed) = s3 + y.speed := IntWalk.i64_in _ (by omega)
          go_wp2
          refine wp_region_tail 13 (by kernel_rfl) (by kernel_rfl) (fun W hW hWc hWf hWs => ?_)
          have HW := Lib.hid hW; clear hW
          simp only [List.take_succ_cons, List.take_zero, List.drop_succ_cons, List.drop_zero]
          repeat still_step
          refine wpStill_nil ?_
          go_wp2
          go_roundw
          case rel =>
            have hBW : Blk W w1.heap.size 3 #[.int .i64 s0, .int .i64 s1, .int .i64 s2, .int .i64 s3] := by rw [HW.out]; exact HB.out
            have hWB : Below w.heap.size w W := by rw [HW.out]; exact (by repeat (first | assumption | exact Below.refl _ _ | apply bl_gw | apply bl_alloc | apply bl_drewN | apply bl_drew))
            exact ⟨k + 1, _, _, _, _, by omega, by go_num, ST.out.2.2.2 FR.out, hBW.set_ 3 _, hWB.setCell (p := ⟨w1.heap.size, 3, none⟩) hb1.size _⟩
          case measure => simp [intOf]; omega
      · go_wp2
        have he : mainP l = (((bestTo (sAt s0 s1 s2 s3) 4 : Nat) : Int), true) := main_end (by rw [HN.out]; obtain rfl : k = m := by omega
                                                                                               exact hs) HT1.out
        have HE := Lib.hid he
        clear he hs
        obtain ⟨wo, rfl⟩ : ∃ wo : World, wo = wr := ⟨_, rfl⟩
        go_loopw [7, 8] (fun b j w' => ∃ (i : Nat), 1 ≤ i ∧ i ≤ 4 ∧ j = .int .i64 i ∧ b = .int .i64 (bestTo (sAt s0 s1 s2 s3) i : Nat) ∧ Below wo.heap.size wo w') (fun _ j _ => 4 - (intOf j).toNat)
        case atStart => exact ⟨1, by omega, by omega, rfl, by simp [bestTo, loopTo], Below.refl _ _⟩
        case round =>
          obtain ⟨i, hi1, hi, rfl, rfl, hb2⟩ := hrel
          obtain ⟨q, hq⟩ : ∃ q, bestTo (sAt s0 s1 s2 s3) i = q := ⟨_, rfl⟩
          have hq4 : q < 4 := by rw [← hq]; exact bestTo_lt _ _ hi
          have hstep : bestTo (sAt s0 s1 s2 s3) (i + 1) = if sAt s0 s1 s2 s3 q < sAt s0 s1 s2 s3 i then i else q := by rw [← hq]; rfl
          have hcell : ∀ q, q < 4 → wr.cell? ⟨w1.heap.size, q, none⟩ = some (.int .i64 (sAt s0 s1 s2 s3 q)) := by
            intro q hq4
            rw [hb2.cell (p := ⟨w1.heap.size, q, none⟩) hg]
            match q, hq4 with
            | 0, _ => exact e0
            | 1, _ => exact e1
            | 2, _ => exact e2
            | 3, _ => exact e3
          have hc := hcell q hq4
          rw [hq]
          have HQ := Lib.hid hq
          have HS := Lib.hid hstep
          have HB2 := Lib.hid hb2
          have hgr : w1.heap.size < wr.heap.size := below_lt hg hb2
          clear hq hstep e0 e1 e2 e3 f0 f1 f2 f3
          by_cases h4 : i < 4
          · have hc' := hcell i h4
            clear hcell
            have q1 : (q : Int) < 4 := by omega
            have q2 : (0 : Int) ≤ q := by omega
            have q3 : (i : Int) < 4 := by omega
            have q4 : (0 : Int) ≤ i := by omega
            generalize sAt s0 s1 s2 s3 i = u at *
            generalize sAt s0 s1 s2 s3 q = v at *
            go_wp2
            refine wp_region_gw (by kernel_rfl) (by kernel_rfl) ?_
            repeat (first | go_big_quiet_step ((fail)) | quiet_step ((fail)))
            refine wpQuiet_nil ?_
            rintro _ ⟨pq, rfl⟩
            by_cases hcmp : v < u
            · go_wp2
              go_roundw
              case rel => exact ⟨i + 1, by omega, by omega, by go_num, by rw [HS.out, if_pos hcmp], (by repeat (first | assumption | exact Below.refl _ _ | apply bl_gw | apply bl_alloc | apply bl_drewN | apply bl_drew))⟩
              case measure => simp [intOf]; omega
            · go_wp2
              go_roundw
              case rel => exact ⟨i + 1, by omega, by omega, by go_num, by rw [HS.out, if_neg (by omega)], (by repeat (first | assumption | exact Below.refl _ _ | apply bl_gw | apply bl_alloc | apply bl_drewN | apply bl_drew))⟩
              case measure => simp [intOf]; omega
          · clear hcell
            go_wp2
            go_ret2
            obtain rfl : i = 4 := by omega
            exact ⟨by rw [HE.out, HQ.out]; rfl, hbel.trans (hb2.mono hbel.size)⟩
end Go.Proofs.Ytopdbacgceoddaa
