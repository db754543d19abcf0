/- Walks of blows: the main direction. -/
import Derived.Test.YtopdbacgceoddaaWindE
import Derived.Test.YtopdbacgceoddaaTail
namespace Go.Proofs.Ytopdbacgceoddaa
open Go.RowKit
def sumD (l : List Blow) (d : Int) (k : Nat) : Int := loopTo (fun i t => if l[i]!.frm == d then t + l[i]!.speed else t) 0 k
def bestTo (s : Nat → Int) (k : Nat) : Nat := loopTo (fun d b => if s b < s d then d else b) 0 k
def mainP (l : List Blow) : Int × Bool := if areBlows l then (((bestTo (fun d => sumD l d l.length) 4 : Nat) : Int), true) else (0, false)
theorem sumD_step {l : List Blow} {d : Int} {k : Nat} {y : Blow} (hx : l[k]? = some y) : sumD l d (k + 1) = if y.frm == d then sumD l d k + y.speed else sumD l d k := by
  have : sumD l d (k + 1) = if l[k]!.frm == d then sumD l d k + l[k]!.speed else sumD l d k := rfl
  rw [this, List.getElem!_of_getElem? hx]
def Sums (l : List Blow) (k : Nat) (s0 s1 s2 s3 : Int) : Prop :=
  (s0 = sumD l 0 k ∧ s1 = sumD l 1 k ∧ s2 = sumD l 2 k ∧ s3 = sumD l 3 k) ∧ (0 ≤ s0 ∧ s0 ≤ 60 * k) ∧ (0 ≤ s1 ∧ s1 ≤ 60 * k) ∧ (0 ≤ s2 ∧ s2 ≤ 60 * k) ∧ (0 ≤ s3 ∧ s3 ≤ 60 * k)
theorem Sums.step {l : List Blow} {k : Nat} {y : Blow} {s0 s1 s2 s3 : Int} (h : Sums l k s0 s1 s2 s3) (hx : l[k]? = some y) (h0 : 0 ≤ y.speed) (h1 : y.speed ≤ 60) :
    (y.frm = 0 → Sums l (k + 1) (s0 + y.speed) s1 s2 s3) ∧ (y.frm = 1 → Sums l (k + 1) s0 (s1 + y.speed) s2 s3) ∧ (y.frm = 2 → Sums l (k + 1) s0 s1 (s2 + y.speed) s3) ∧ (y.frm = 3 → Sums l (k + 1) s0 s1 s2 (s3 + y.speed)) := by
  obtain ⟨⟨a, b, c, d⟩, b0, b1, b2, b3⟩ := h
  refine ⟨fun e => ?_, fun e => ?_, fun e => ?_, fun e => ?_⟩
  all_goals
    refine ⟨⟨?_, ?_, ?_, ?_⟩, ⟨?_, ?_⟩, ⟨?_, ?_⟩, ⟨?_, ?_⟩, ⟨?_, ?_⟩⟩
    all_goals first
      | (rw [sumD_step hx, e, a]; rfl)
      | (rw [sumD_step hx, e, b]; rfl)
      | (rw [sumD_step hx, e, c]; rfl)
      | (rw [sumD_step hx, e, d]; rfl)
      | (push_cast; omega)
theorem cells4 {w : World} {g : Nat} {t : TypeId} {a b c d : Value} (h : Blk w g t #[a, b, c, d]) :
    w.cell? ⟨g, 0, none⟩ = some a ∧ w.cell? ⟨g, 1, none⟩ = some b ∧ w.cell? ⟨g, 2, none⟩ = some c ∧ w.cell? ⟨g, 3, none⟩ = some d := ⟨h.cell 0, h.cell 1, h.cell 2, h.cell 3⟩
def sAt (s0 s1 s2 s3 : Int) (d : Nat) : Int := if d = 0 then s0 else if d = 1 then s1 else if d = 2 then s2 else s3
theorem bestTo_lt (s : Nat → Int) : ∀ k, k ≤ 4 → bestTo s k < 4
  | 0, _ => by show 0 < 4; omega
  | k + 1, h => by
    show (if s (bestTo s k) < s k then k else bestTo s k) < 4
    split
    · omega
    · exact bestTo_lt s k (by omega)
theorem bestTo_congr {s s' : Nat → Int} (h : ∀ d, d < 4 → s d = s' d) : ∀ k, k ≤ 4 → bestTo s k = bestTo s' k
  | 0, _ => rfl
  | k + 1, hk => by
    show (if s (bestTo s k) < s k then k else bestTo s k) = (if s' (bestTo s' k) < s' k then k else bestTo s' k)
    have e := bestTo_congr h k (by omega)
    have hb := bestTo_lt s' k (by omega)
    rw [e, h _ hb, h k (by omega)]
theorem main_end {l : List Blow} {s0 s1 s2 s3 : Int} (h : Sums l l.length s0 s1 s2 s3) (ha : areBlows l = true) : mainP l = (((bestTo (sAt s0 s1 s2 s3) 4 : Nat) : Int), true) := by
  obtain ⟨⟨a, b, c, d⟩, _⟩ := h
  unfold mainP
  rw [if_pos ha, bestTo_congr (s' := sAt s0 s1 s2 s3) (fun i hi => ?_) 4 (Nat.le_refl _)]
  match i, hi with
  | 0, _ => exact a.symm
  | 1, _ => exact b.symm
  | 2, _ => exact c.symm
  | 3, _ => exact d.symm
set_option maxHeartbeats 4000000 in
theorem impl_MainDirection_any (l : List Blow) (m : Nat) (hn : l.length = m) (A : Option Addr) (cap : Nat) (w : World) (hl : m ≤ 1048576) (hc : Sl encBlow w w.heap.size A l) :
    Calls Try.prog 27 #[.slice A m cap] w fun e w' => e = .returned (.tuple #[.int .i64 (mainP l).1, .bool (mainP l).2]) ∧ Below w.heap.size w w' := by
  have HC := Lib.hid hc; clear hc
  have HN := Lib.hid hn; clear hn
  have HD := HC
  rcases sp1 (areBlows l) with t1 | t1
  · have hd : mainP l = (0, false) := by simp [mainP, t1]
    rw [hd]
    clear hd
    go_enter Try.func27, Try.ntmps27
    go_wp2_with (first | (go_at_call 24; refine (impl_AreBlows_any l m HN.out _ _ _ hl HC.out).mono ?_; rintro e w1 ⟨rfl, hb⟩; obtain ⟨p, rfl⟩ := below_gw hb; clear hb))
    go_ret2
    exact ⟨rfl, (by repeat (first | assumption | exact Below.refl _ _ | apply bl_gw | apply bl_alloc | apply bl_drewN | apply bl_drew))⟩
  · have HT1 := Lib.hid t1
    have hm20 : m ≤ 20 := by have := areBlows_len t1; rw [HN.out] at this; exact this
    go_enter Try.func27, Try.ntmps27
    go_wp2_with (first | (go_at_call 24; refine (impl_AreBlows_any l m HN.out _ _ _ hl HC.out).mono ?_; rintro e w1 ⟨rfl, hb1⟩; have hz1 := hb1.size))
    clear t1
    go_loopw [15] (fun i wr => ∃ (k : Nat) (s0 s1 s2 s3 : Int), k ≤ m ∧ i = .int .i64 k ∧ Sums l k s0 s1 s2 s3 ∧ Blk wr w1.heap.size 76 #[.int .i64 s0, .int .i64 s1, .int .i64 s2, .int .i64 s3] ∧ Below w.heap.size w wr) (fun i _ => m - (intOf i).toNat)
    case atStart => exact ⟨0, 0, 0, 0, 0, Nat.zero_le _, rfl, ⟨⟨rfl, rfl, rfl, rfl⟩, by omega, by omega, by omega, by omega⟩, Blk.new _ _ _, hb1.alloc hb1.size _⟩
    case round =>
      obtain ⟨k, s0, s1, s2, s3, hkm, rfl, hs, hblk, hbel⟩ := hrel
      have HB := Lib.hid hblk
      have hg := hblk.lt
      obtain ⟨e0, e1, e2, e3⟩ := cells4 hblk
      have f0 := hblk.frozen 0; have f1 := hblk.frozen 1; have f2 := hblk.frozen 2; have f3 := hblk.frozen 3
      clear hblk
      by_cases hlt : k < m
      · have hsz := hbel.size
        obtain ⟨bk, off, rfl, hb, hcs⟩ := HD.out.blow (by rw [HN.out]; omega)
        have hx : l[k]? = some (l[k]'(by rw [HN.out]; exact hlt)) := List.getElem?_eq_getElem _
        generalize l[k]'(by rw [HN.out]; exact hlt) = y at hx
        obtain ⟨c0, c1, c2⟩ := hcs k y hx
        clear hcs
        have HX := Lib.hid hx
        clear hx
        rw [← hbel.cell hb] at c0 c1 c2
        have hbw : bk < wr.heap.size := by omega
        have k1 : (k : Int) < m := by omega
        obtain ⟨⟨y1, y2⟩, ⟨y3, y4⟩, ⟨y5, y6⟩⟩ := areBlows_at HT1.out HX.out
        have st := hs.step HX.out y3 y4
        have ST := Lib.hid st
        have hs4 := hs.2
        have fr : y.frm = 0 ∨ y.frm = 1 ∨ y.frm = 2 ∨ y.frm = 3 := by omega
        obtain ⟨⟨_, _⟩, ⟨_, _⟩, ⟨_, _⟩, ⟨_, _⟩⟩ := hs4
        clear st hs y1 y2 y5 y6
        rcases fr with fr | fr | fr | fr
        · rw [fr] at c2
          have FR := Lib.hid fr
          clear fr
          have w1' : IntKind.i64.wrap (s0 + y.speed) = s0 + y.speed := IntWalk.i64_in _ (by omega)
          go_wp2
          refine wp_region_tail 8 (by kernel_rfl) (by kernel_rfl) (fun W hW hWc hWf hWs => ?_)
          have HW := Lib.hid hW; clear hW
          simp only [List.take_succ_cons, List.take_zero, List.drop_succ_cons, List.drop_zero]
          repeat still_step
          refine wpStill_nil ?_
          go_wp2
          go_roundw
          case rel =>
            have hBW : Blk W w1.heap.size 76 #[.int .i64 s0, .int .i64 s1, .int .i64 s2, .int .i64 s3] := by rw [HW.out]; exact HB.out.alloc _
            have hWB : Below w.heap.size w W := by rw [HW.out]; exact (by repeat (first | assumption | exact Below.refl _ _ | apply bl_gw | apply bl_alloc | apply bl_drewN | apply bl_drew))
            exact ⟨k + 1, _, _, _, _, by omega, by go_num, ST.out.1 FR.out, hBW.set_ 0 _, hWB.setCell (p := ⟨w1.heap.size, 0, none⟩) hb1.size _⟩
          case measure => simp [intOf]; omega
        · rw [fr] at c2
          have FR := Lib.hid fr
          clear fr
          have w1' : IntKind.i64.wrap (s1 + y.speed) = s1 + y.speed := IntWalk.i64_in _ (by omega)
          go_wp2
          refine wp_region_tail 8 (by kernel_rfl) (by kernel_rfl) (fun W hW hWc hWf hWs => ?_)
          have HW := Lib.hid hW; clear hW
          simp only [List.take_succ_cons, List.take_zero, List.drop_succ_cons, List.drop_zero]
          repeat still_step
          refine wpStill_nil ?_
          go_wp2
          go_roundw
          case rel =>
            have hBW : Blk W w1.heap.size 76 #[.int .i64 s0, .int .i64 s1, .int .i64 s2, .int .i64 s3] := by rw [HW.out]; exact HB.out.alloc _
            have hWB : Below w.heap.size w W := by rw [HW.out]; exact (by repeat (first | assumption | exact Below.refl _ _ | apply bl_gw | apply bl_alloc | apply bl_drewN | apply bl_drew))
            exact ⟨k + 1, _, _, _, _, by omega, by go_num, ST.out.2.1 FR.out, hBW.set_ 1 _, hWB.setCell (p := ⟨w1.heap.size, 1, none⟩) hb1.size _⟩
          case measure => simp [intOf]; omega
        · rw [fr] at c2
          have FR := Lib.hid fr
          clear fr
          have w1' : IntKind.i64.wrap (s2 + y.speed) = s2 + y.speed := IntWalk.i64_in _ (by omega)
          go_wp2
          refine wp_region_tail 8 (by kernel_rfl) (by kernel_rfl) (fun W hW hWc hWf hWs => ?_)
          have HW := Lib.hid hW; clear hW
          simp only [List.take_succ_cons, List.take_zero, List.drop_succ_cons, List.drop_zero]
          repeat still_step
          refine wpStill_nil ?_
          go_wp2
          go_roundw
          case rel =>
            have hBW : Blk W w1.heap.size 76 #[.int .i64 s0, .int .i64 s1, .int .i64 s2, .int .i64 s3] := by rw [HW.out]; exact HB.out.alloc _
            have hWB : Below w.heap.size w W := by rw [HW.out]; exact (by repeat (first | assumption | exact Below.refl _ _ | apply bl_gw | apply bl_alloc | apply bl_drewN | apply bl_drew))
            exact ⟨k + 1, _, _, _, _, by omega, by go_num, ST.out.2.2.1 FR.out, hBW.set_ 2 _, hWB.setCell (p := ⟨w1.heap.size, 2, none⟩) hb1.size _⟩
          case measure => simp [intOf]; omega
        · rw [fr] at c2
          have FR := Lib.hid fr
          clear fr
          have w1' : IntKind.i64.wrap (s3 + y.speed) = s3 + y.speed := IntWalk.i64_in _ (by omega)
          go_wp2
          refine wp_region_tail 8 (by kernel_rfl) (by kernel_rfl) (fun W hW hWc hWf hWs => ?_)
          have HW := Lib.hid hW; clear hW
          simp only [List.take_succ_cons, List.take_zero, List.drop_succ_cons, List.drop_zero]
          repeat still_step
          refine wpStill_nil ?_
          go_wp2
          go_roundw
          case rel =>
            have hBW : Blk W w1.heap.size 76 #[.int .i64 s0, .int .i64 s1, .int .i64 s2, .int .i64 s3] := by rw [HW.out]; exact HB.out.alloc _
            have hWB : Below w.heap.size w W := by rw [HW.out]; exact (by repeat (first | assumption | exact Below.refl _ _ | apply bl_gw | apply bl_alloc | apply bl_drewN | apply bl_drew))
            exact ⟨k + 1, _, _, _, _, by omega, by go_num, ST.out.2.2.2 FR.out, hBW.set_ 3 _, hWB.setCell (p := ⟨w1.heap.size, 3, none⟩) hb1.size _⟩
          case measure => simp [intOf]; omega
      · go_wp2
        have he : mainP l = (((bestTo (sAt s0 s1 s2 s3) 4 : Nat) : Int), true) := main_end (by rw [HN.out]; obtain rfl : k = m := by omega
                                                                                               exact hs) HT1.out
        have HE := Lib.hid he
        clear he hs
        go_loop [7, 29] (fun b j => ∃ (i : Nat), i ≤ 4 ∧ j = .int .i64 i ∧ b = .int .i64 (bestTo (sAt s0 s1 s2 s3) i : Nat)) (fun _ j => 4 - (intOf j).toNat)
        case atStart => exact ⟨0, by omega, rfl, rfl⟩
        case round =>
          obtain ⟨i, hi, rfl, rfl⟩ := hrel
          obtain ⟨q, hq⟩ : ∃ q, bestTo (sAt s0 s1 s2 s3) i = q := ⟨_, rfl⟩
          have hq4 : q < 4 := by rw [← hq]; exact bestTo_lt _ _ hi
          have hstep : bestTo (sAt s0 s1 s2 s3) (i + 1) = if sAt s0 s1 s2 s3 q < sAt s0 s1 s2 s3 i then i else q := by rw [← hq]; rfl
          have hc : wr.cell? ⟨w1.heap.size, q, none⟩ = some (.int .i64 (sAt s0 s1 s2 s3 q)) := by
            match q, hq4 with
            | 0, _ => exact e0
            | 1, _ => exact e1
            | 2, _ => exact e2
            | 3, _ => exact e3
          rw [hq]
          have HQ := Lib.hid hq
          have HS := Lib.hid hstep
          clear hq hstep
          by_cases h4 : i < 4
          · have hx : ∀ w, (Instr.index 76 (.agg #[.int .i64 s0, .int .i64 s1, .int .i64 s2, .int .i64 s3]) (.int .i64 i)).run Try.prog w = .ok (.int .i64 (sAt s0 s1 s2 s3 i)) w := by
              match i, h4 with
              | 0, _ => exact fun w => by kernel_rfl
              | 1, _ => exact fun w => by kernel_rfl
              | 2, _ => exact fun w => by kernel_rfl
              | 3, _ => exact fun w => by kernel_rfl
            generalize sAt s0 s1 s2 s3 i = u at *
            generalize sAt s0 s1 s2 s3 q = v at *
            by_cases hcmp : v < u
            · go_wp2
              go_round
              case rel => exact ⟨i + 1, by omega, by go_num, by rw [HS.out, if_pos hcmp]⟩
              case measure => simp [intOf]; omega
            · go_wp2
              go_round
              case rel => exact ⟨i + 1, by omega, by go_num, by rw [HS.out, if_neg (by omega)]⟩
              case measure => simp [intOf]; omega
          · go_wp2
            go_ret2
            obtain rfl : i = 4 := by omega
            exact ⟨by rw [HE.out, HQ.out]; rfl, hbel⟩
end Go.Proofs.Ytopdbacgceoddaa
