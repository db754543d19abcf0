/- Walks of contracts: the stock that is needed. -/
import Derived.Test.YtcljfdpjlkaagaaDoorContractB
import Derived.Test.YtcljfdpjlkaagaaDoorInts
import Derived.Test.YtcljfdpjlkaagaaDoorTail
import Derived.Test.YtcljfdpjlkaagaaDoorApp
namespace Go.Proofs.YtcljfdpjlkaagaaDoor
open Go.RowKit
theorem areContracts_len {l : List Contract} (h : areContracts l = true) : l.length ≤ 10 := by
  simp only [areContracts, Bool.and_eq_true, decide_eq_true_eq] at h; exact h.2
theorem contractOK_at {x : Contract} (h : contractOK x = true) : (1 ≤ x.id ∧ x.id ≤ 99) ∧ (1 ≤ x.grade ∧ x.grade ≤ 4) ∧ (1 ≤ x.tons ∧ x.tons ≤ 5000) ∧ (1 ≤ x.price ∧ x.price ≤ 500) ∧ (0 ≤ x.first ∧ x.first ≤ 4000) ∧ (0 ≤ x.last ∧ x.last ≤ 4000) ∧ (0 ≤ x.fine ∧ x.fine ≤ 1000) := by
  simp only [contractOK, Bool.and_eq_true] at h
  exact ⟨inB_true h.1, inB_true h.2.1, inB_true h.2.2.1, inB_true h.2.2.2.1, inB_true h.2.2.2.2.1.1, inB_true h.2.2.2.2.1.2.1, inB_true h.2.2.2.2.2⟩
theorem areContracts_ok {l : List Contract} (h : areContracts l = true) {k : Nat} {x : Contract} (hx : l[k]? = some x) : contractOK x = true := by
  simp only [areContracts, Bool.and_eq_true, Option.isNone_iff_eq_none] at h
  have := firstTo_none h.1 k (List.getElem?_eq_some_iff.1 hx).1
  simp only [badContract, List.getElem!_of_getElem? hx, Bool.not_eq_false', Bool.and_eq_true] at this
  exact this.1
def totG (l : List Contract) (g : Int) (k : Nat) : Int := loopTo (fun i t => if l[i]!.grade == g then t + l[i]!.tons else t) 0 k
def neededP (l : List Contract) : List Int := if areContracts l then [totG l 1 l.length, totG l 2 l.length, totG l 3 l.length, totG l 4 l.length] else []
theorem totG_step {l : List Contract} {d : Int} {k : Nat} {y : Contract} (hx : l[k]? = some y) : totG l d (k + 1) = if y.grade == d then totG l d k + y.tons else totG l d k := by
  have : totG l d (k + 1) = if l[k]!.grade == d then totG l d k + l[k]!.tons else totG l d k := rfl
  rw [this, List.getElem!_of_getElem? hx]
def Tots (l : List Contract) (k : Nat) (s0 s1 s2 s3 : Int) : Prop :=
  (s0 = totG l 1 k ∧ s1 = totG l 2 k ∧ s2 = totG l 3 k ∧ s3 = totG l 4 k) ∧ (0 ≤ s0 ∧ s0 ≤ 5000 * k) ∧ (0 ≤ s1 ∧ s1 ≤ 5000 * k) ∧ (0 ≤ s2 ∧ s2 ≤ 5000 * k) ∧ (0 ≤ s3 ∧ s3 ≤ 5000 * k)
theorem Tots.step {l : List Contract} {k : Nat} {y : Contract} {s0 s1 s2 s3 : Int} (h : Tots l k s0 s1 s2 s3) (hx : l[k]? = some y) (h0 : 1 ≤ y.tons) (h1 : y.tons ≤ 5000) :
    (y.grade = 1 → Tots l (k + 1) (s0 + y.tons) s1 s2 s3) ∧ (y.grade = 2 → Tots l (k + 1) s0 (s1 + y.tons) s2 s3) ∧ (y.grade = 3 → Tots l (k + 1) s0 s1 (s2 + y.tons) s3) ∧ (y.grade = 4 → Tots l (k + 1) s0 s1 s2 (s3 + y.tons)) := by
  obtain ⟨⟨a, b, c, d⟩, b0, b1, b2, b3⟩ := h
  refine ⟨fun e => ?_, fun e => ?_, fun e => ?_, fun e => ?_⟩
  all_goals
    refine ⟨⟨?_, ?_, ?_, ?_⟩, ⟨?_, ?_⟩, ⟨?_, ?_⟩, ⟨?_, ?_⟩, ⟨?_, ?_⟩⟩
    all_goals first
      | (rw [totG_step hx, e, a]; rfl)
      | (rw [totG_step hx, e, b]; rfl)
      | (rw [totG_step hx, e, c]; rfl)
      | (rw [totG_step hx, e, d]; rfl)
      | (push_cast; omega)
theorem cells4 {w : World} {g : Nat} {t : TypeId} {a b c d : Value} (h : Blk w g t #[a, b, c, d]) :
    w.cell? ⟨g, 0, none⟩ = some a ∧ w.cell? ⟨g, 1, none⟩ = some b ∧ w.cell? ⟨g, 2, none⟩ = some c ∧ w.cell? ⟨g, 3, none⟩ = some d := ⟨h.cell 0, h.cell 1, h.cell 2, h.cell 3⟩
theorem needed_end {l : List Contract} {s0 s1 s2 s3 : Int} (h : Tots l l.length s0 s1 s2 s3) (ha : areContracts l = true) : neededP l = [s0, s1, s2, s3] := by
  obtain ⟨⟨a, b, c, d⟩, _⟩ := h
  rw [neededP, if_pos ha, a, b, c, d]
theorem own4 {w : World} {g base : Nat} {a b c d : Int} (hg : base ≤ g) (h : Blk w g 3 #[.int .i64 a, .int .i64 b, .int .i64 c, .int .i64 d]) : Own encInt w base 3 (.slice (some ⟨g, 0, none⟩) 4 4) [a, b, c, d] :=
  Own.build (n := 4) hg h rfl rfl (by decide)
theorem own0 {w : World} {base : Nat} (hb : base ≤ w.heap.size) (t : TypeId) : Own encInt (w.alloc (.cells #[] t)) base t (.slice (some ⟨w.heap.size, 0, none⟩) 0 0) [] :=
  Own.build (n := 0) hb (Blk.new _ _ _) rfl rfl (by decide)
set_option maxRecDepth 4000 in
set_option maxHeartbeats 4000000 in
theorem impl_NeededStock_any (l : List Contract) (m : Nat) (hn : l.length = m) (A : Option Addr) (cap : Nat) (w : World) (hl : m ≤ 1048576) (hc : Sl encContract w w.heap.size A l) :
    Calls Tryd.prog 17 #[.slice A m cap] w fun e w' => ∃ v, e = .returned (.tuple #[v, .bool (areContracts l)]) ∧ Own encInt w' w.heap.size 3 v (neededP l) ∧ Below w.heap.size w w' := by
  have HC := Lib.hid hc; clear hc
  have HN := Lib.hid hn; clear hn
  have HD := HC
  rcases sp1 (areContracts l) with t1 | t1
  · have hd : neededP l = [] := by simp [neededP, t1]
    rw [hd]
    clear hd
    go_enter Tryd.func17, Tryd.ntmps17
    go_wp2_with (go_at_call 18; refine (impl_AreContracts_any l m HN.out _ _ _ hl HC.out).mono ?_; rintro e w1 ⟨rfl, hb1⟩)
    go_ret2
    rw [t1]
    exact ⟨_, rfl, Own.none_, hb1⟩
  · have HT1 := Lib.hid t1
    have hm20 : m ≤ 10 := by have := areContracts_len t1; rw [HN.out] at this; exact this
    have hmk : ∀ w, (Instr.makeSlice 34 (.int .i64 4) (.int .i64 4)).run Tryd.prog w = .ok (.slice (some ⟨w.heap.size, 0, none⟩) 4 4) (w.alloc (.cells #[.int .i64 0, .int .i64 0, .int .i64 0, .int .i64 0] 3)) := fun _ => by kernel_rfl
    go_enter Tryd.func17, Tryd.ntmps17
    go_wp2_with (go_at_call 18; refine (impl_AreContracts_any l m HN.out _ _ _ hl HC.out).mono ?_; rintro e w1 ⟨rfl, hb1⟩; have hz1 := hb1.size)
    clear hmk
    go_loopw [13] (fun i wr => ∃ (k : Nat) (s0 s1 s2 s3 : Int), k ≤ m ∧ i = .int .i64 k ∧ Tots l k s0 s1 s2 s3 ∧ Blk wr w1.heap.size 3 #[.int .i64 s0, .int .i64 s1, .int .i64 s2, .int .i64 s3] ∧ Below w.heap.size w wr) (fun i _ => m - (intOf i).toNat)
    case atStart => exact ⟨0, 0, 0, 0, 0, Nat.zero_le _, rfl, ⟨⟨rfl, rfl, rfl, rfl⟩, by omega, by omega, by omega, by omega⟩, Blk.new _ _ _, hb1.alloc hb1.size _⟩
    case round =>
      obtain ⟨k, s0, s1, s2, s3, hkm, rfl, hs, hblk, hbel⟩ := hrel
      have HB := Lib.hid hblk
      have hg := hblk.lt
      obtain ⟨e0, e1, e2, e3⟩ := cells4 hblk
      have f0 := hblk.frozen 0; have f1 := hblk.frozen 1; have f2 := hblk.frozen 2; have f3 := hblk.frozen 3
      by_cases hlt : k < m
      · clear hblk
        have hsz := hbel.size
        obtain ⟨bk, off, rfl, hb, hcs⟩ := HD.out.contract (by rw [HN.out]; omega)
        have hx : l[k]? = some (l[k]'(by rw [HN.out]; exact hlt)) := List.getElem?_eq_getElem _
        generalize l[k]'(by rw [HN.out]; exact hlt) = y at hx
        obtain ⟨c0, c1, c2, c3, c4, c5, c6⟩ := hcs k y hx
        clear hcs
        have HX := Lib.hid hx
        clear hx
        rw [← hbel.cell hb] at c0 c1 c2 c3 c4 c5 c6
        have hbw : bk < wr.heap.size := by omega
        have k1 : (k : Int) < m := by omega
        have k2 : (0 : Int) ≤ k := by omega
        obtain ⟨⟨y1, y2⟩, ⟨y3, y4⟩, ⟨y5, y6⟩, ⟨y7, y8⟩, ⟨y9, y10⟩, ⟨y11, y12⟩, ⟨y13, y14⟩⟩ := contractOK_at (areContracts_ok HT1.out HX.out)
        have st := hs.step HX.out y5 y6
        have ST := Lib.hid st
        have hs4 := hs.2
        have fr : y.grade = 1 ∨ y.grade = 2 ∨ y.grade = 3 ∨ y.grade = 4 := by omega
        obtain ⟨⟨_, _⟩, ⟨_, _⟩, ⟨_, _⟩, ⟨_, _⟩⟩ := hs4
        clear st hs y1 y2 y3 y4 y7 y8 y9 y10 y11 y12 y13 y14
        rcases fr with fr | fr | fr | fr
        · rw [fr] at c1
          have FR := Lib.hid fr
          clear fr
          have wd : IntKind.i64.wrap (0 : Int) = 0 := IntWalk.i64_in _ (by omega)
          have w1' : IntKind.i64.wrap (s0 + y.tons) = s0 + y.tons := IntWalk.i64_in _ (by omega)
          go_wp2
          
          refine wp_region_tail 10 (by kernel_rfl) (by kernel_rfl) (fun W hW hWc hWf hWs => ?_)
          have HW := Lib.hid hW; clear hW
          simp only [List.take_succ_cons, List.take_zero, List.drop_succ_cons, List.drop_zero]
          repeat still_step
          refine wpStill_nil ?_
          go_wp2
          go_roundw
          case rel =>
            have hBW : Blk W w1.heap.size 3 #[.int .i64 s0, .int .i64 s1, .int .i64 s2, .int .i64 s3] := by rw [HW.out]; exact HB.out.alloc _
            have hWB : Below w.heap.size w W := by rw [HW.out]; exact (by repeat (first | assumption | exact Below.refl _ _ | apply bl_gw | apply bl_alloc | apply bl_drewN | apply bl_drew))
            exact ⟨k + 1, _, _, _, _, by omega, by go_num, ST.out.1 FR.out, hBW.set_ 0 _, hWB.setCell (p := ⟨w1.heap.size, 0, none⟩) hb1.size _⟩
          case measure => simp [intOf]; omega
        · rw [fr] at c1
          have FR := Lib.hid fr
          clear fr
          have wd : IntKind.i64.wrap (1 : Int) = 1 := IntWalk.i64_in _ (by omega)
          have w1' : IntKind.i64.wrap (s1 + y.tons) = s1 + y.tons := IntWalk.i64_in _ (by omega)
          go_wp2
          
          refine wp_region_tail 10 (by kernel_rfl) (by kernel_rfl) (fun W hW hWc hWf hWs => ?_)
          have HW := Lib.hid hW; clear hW
          simp only [List.take_succ_cons, List.take_zero, List.drop_succ_cons, List.drop_zero]
          repeat still_step
          refine wpStill_nil ?_
          go_wp2
          go_roundw
          case rel =>
            have hBW : Blk W w1.heap.size 3 #[.int .i64 s0, .int .i64 s1, .int .i64 s2, .int .i64 s3] := by rw [HW.out]; exact HB.out.alloc _
            have hWB : Below w.heap.size w W := by rw [HW.out]; exact (by repeat (first | assumption | exact Below.refl _ _ | apply bl_gw | apply bl_alloc | apply bl_drewN | apply bl_drew))
            exact ⟨k + 1, _, _, _, _, by omega, by go_num, ST.out.2.1 FR.out, hBW.set_ 1 _, hWB.setCell (p := ⟨w1.heap.size, 1, none⟩) hb1.size _⟩
          case measure => simp [intOf]; omega
        · rw [fr] at c1
          have FR := Lib.hid fr
          clear fr
          have wd : IntKind.i64.wrap (2 : Int) = 2 := IntWalk.i64_in _ (by omega)
          have w1' : IntKind.i64.wrap (s2 + y.tons) = s2 + y.tons := IntWalk.i64_in _ (by omega)
          go_wp2
          
          refine wp_region_tail 10 (by kernel_rfl) (by kernel_rfl) (fun W hW hWc hWf hWs => ?_)
          have HW := Lib.hid hW; clear hW
          simp only [List.take_succ_cons, List.take_zero, List.drop_succ_cons, List.drop_zero]
          repeat still_step
          refine wpStill_nil ?_
          go_wp2
          go_roundw
          case rel =>
            have hBW : Blk W w1.heap.size 3 #[.int .i64 s0, .int .i64 s1, .int .i64 s2, .int .i64 s3] := by rw [HW.out]; exact HB.out.alloc _
            have hWB : Below w.heap.size w W := by rw [HW.out]; exact (by repeat (first | assumption | exact Below.refl _ _ | apply bl_gw | apply bl_alloc | apply bl_drewN | apply bl_drew))
            exact ⟨k + 1, _, _, _, _, by omega, by go_num, ST.out.2.2.1 FR.out, hBW.set_ 2 _, hWB.setCell (p := ⟨w1.heap.size, 2, none⟩) hb1.size _⟩
          case measure => simp [intOf]; omega
        · rw [fr] at c1
          have FR := Lib.hid fr
          clear fr
          have wd : IntKind.i64.wrap (3 : Int) = 3 := IntWalk.i64_in _ (by omega)
          have w1' : IntKind.i64.wrap (s3 + y.tons) = s3 + y.tons := IntWalk.i64_in _ (by omega)
          go_wp2
          
          refine wp_region_tail 10 (by kernel_rfl) (by kernel_rfl) (fun W hW hWc hWf hWs => ?_)
          have HW := Lib.hid hW; clear hW
          simp only [List.take_succ_cons, List.take_zero, List.drop_succ_cons, List.drop_zero]
          repeat still_step
          refine wpStill_nil ?_
          go_wp2
          go_roundw
          case rel =>
            have hBW : Blk W w1.heap.size 3 #[.int .i64 s0, .int .i64 s1, .int .i64 s2, .int .i64 s3] := by rw [HW.out]; exact HB.out.alloc _
            have hWB : Below w.heap.size w W := by rw [HW.out]; exact (by repeat (first | assumption | exact Below.refl _ _ | apply bl_gw | apply bl_alloc | apply bl_drewN | apply bl_drew))
            exact ⟨k + 1, _, _, _, _, by omega, by go_num, ST.out.2.2.2 FR.out, hBW.set_ 3 _, hWB.setCell (p := ⟨w1.heap.size, 3, none⟩) hb1.size _⟩
          case measure => simp [intOf]; omega
      · have HK := Lib.hid hblk
        have HS := Lib.hid hs
        clear hblk hs
        go_wp2
        go_ret2
        rw [HT1.out, needed_end (by rw [HN.out]; obtain rfl : k = m := by omega
                                    exact HS.out) HT1.out]
        exact ⟨_, rfl, own4 hz1 HK.out, hbel⟩
end Go.Proofs.YtcljfdpjlkaagaaDoor
