/- Orders of bittern: the program's AfterOrder. -/
import Derived.Test.YtcajgadgdjopdaaAftM
import Derived.Deep.RegionWith
namespace Go.Proofs.Ytcajgadgdjopdaa
open Go.RowKit
set_option maxRecDepth 4000 in
set_option maxHeartbeats 8000000 in
theorem impl_AfterOrder_any (l : List Bittern) (n : Nat) (hn : l.length = n) (A : Option Addr) (cap : Nat) (k b : Int) (w : World) (hl : n ≤ 1048576) (hc : Sl encBittern w w.heap.size A l) :
    Calls Try.prog 17 #[.slice A n cap, .int .i64 k, .int .i64 b] w fun e w' => ∃ v, e = .returned (.tuple #[v, .bool (fillOK l k b)]) ∧ Own encBittern w' w.heap.size 69 v (afterP l k b) ∧ Below w.heap.size w w' := by
  have HC := Lib.hid hc; clear hc
  have HN := Lib.hid hn; clear hn
  have HNO := Lib.hid (fun h => after_no (l := l) (k := k) (b := b) h)
  go_enter Try.func17, Try.ntmps17
  go_wp2_with fail
  refine (impl_FillOrder_any l n HN.out A cap k b _ hl HC.out).mono ?_
  rintro e w1 ⟨v1, rfl, o1, bb⟩
  have B1 := Lib.hid bb
  have hz1 := bb.size
  have hfp := fillP_length l k b
  cases hF : fillOK l k b with
  | false =>
    have HF := Lib.hid hF
    clear hF o1 bb
    go_wp2
    go_ret2
    rw [HF.out, HNO.out HF.out]
    exact ⟨_, rfl, Own.none_, B1.out⟩
  | true =>
    have HF := Lib.hid hF
    obtain ⟨hA, ⟨k0, k1⟩, ⟨b0, b1⟩, hfe⟩ := fill_feas hF
    have hn8 : n ≤ 8 := by have := areBitterns_len hA; rw [HN.out] at this; exact this
    obtain ⟨out, ho⟩ : ∃ out, outTo l k (k * b) l.length = out := ⟨_, rfl⟩
    have h0 : ∀ i, i < n → 0 ≤ out[i]! ∧ out[i]! ≤ l[i]!.kilos := fun i hi => by rw [← ho]; exact out_rng hA hfe (by rw [HN.out]; exact hi)
    obtain ⟨P, hP⟩ : ∃ P, pairsS l out n = P := ⟨_, rfl⟩
    have hp : fillP l k b = P := by unfold fillP; rw [if_pos hF, ho, HN.out]; exact hP
    have hap : afterP l k b = afterAt l out n := by unfold afterP; rw [if_pos hF, ho, HN.out]
    rw [hp] at o1 hfp
    obtain ⟨m, hm⟩ : ∃ m, P.length = m := ⟨_, rfl⟩
    have hm8 : m ≤ 8 := by omega
    obtain ⟨A1, c1, rfl, _⟩ := o1.slice_at hm
    have HPA := Lib.hid (fun i (hi : i < m) => (show ∃ t, t < n ∧ P[i]? = some ⟨l[t]!.id, out[t]!⟩ ∧ P.take i = pairsS l out t ∧ P.take (i + 1) = pairsS l out (t + 1) ∧ 0 < out[t]! from by rw [← hP]; exact pairs_at n i (by rw [hP, hm]; exact hi)))
    have HFD := Lib.hid (fun t (ht : t ≤ n) => fold_pairs hA (out := out) (fun i hi => (h0 i (by rw [← HN.out]; exact hi)).1) t (by rw [HN.out]; exact ht))
    have HPL := Lib.hid (fun t i (hi : i < n) => place_after (out := out) (t := t) hA (i := i) (by rw [HN.out]; exact hi))
    have HEND := Lib.hid (show afterP l k b = P.foldl subP l by rw [hap, ← hP]; exact (fold_pairs hA (out := out) (fun i hi => (h0 i (by rw [← HN.out]; exact hi)).1) n (by rw [HN.out]; exact Nat.le_refl _)).symm)
    have HR := Lib.hid (fun i (hi : i < n) => (show (0 ≤ out[i]! ∧ out[i]! ≤ l[i]!.kilos) ∧ l[i]!.kilos ≤ 10000 from ⟨h0 i hi, (bitternOK_at (areBitterns_ok hA (show l[i]? = some l[i]! by rw [getElem!_pos l i (by rw [HN.out]; exact hi)]; exact List.getElem?_eq_getElem _))).2.1.2⟩))
    have HMM := Lib.hid hm
    have O1 := Lib.hid o1
    clear hF ho h0 hP hp hap hA hfe hm o1 bb
    go_wp2_with fail
    refine (cloneBittern_any l n HN.out A cap _ hl ((HC.out.below B1.out).more B1.out.size)).mono ?_
    rintro e w2 ⟨v2, rfl, o2, bb⟩
    obtain ⟨A2, c2, rfl, _⟩ := o2.slice_at HN.out
    have O2 := Lib.hid o2
    have B2 := Lib.hid bb
    have hz2 := bb.size
    clear o2 bb
    go_wp2
    go_loopw [26] (fun iv wr => ∃ i : Nat, i ≤ m ∧ iv = .int .i64 i ∧ Own encBittern wr w1.heap.size 69 (.slice A2 n c2) ((P.take i).foldl subP l) ∧ Below w1.heap.size w1 wr) (fun iv _ => m - (intOf iv).toNat)
    case atStart => exact ⟨0, Nat.zero_le _, rfl, O2.out, B2.out⟩
    case round =>
      obtain ⟨i, hi, rfl, ho, hbel⟩ := hrel
      have HO := Lib.hid ho
      have HB := Lib.hid hbel
      have hz := hbel.size
      clear ho hbel
      by_cases hlt : i < m
      · obtain ⟨t, htn, hpt, htk, htk2, hpos⟩ := HPA.out i hlt
        obtain ⟨g, rfl⟩ := HO.out.some_ (by omega)
        obtain ⟨bp, offp, rfl, hbp, hcs⟩ := O1.out.rd.ditch (by rw [HMM.out]; omega)
        obtain ⟨c0, c1'⟩ := hcs i _ hpt
        obtain ⟨⟨r0, r1⟩, r2⟩ := HR.out t htn
        have hpl := HPL.out t t htn
        have hf1 := HFD.out t (by omega)
        have hf2 := HFD.out (t + 1) (by omega)
        have hget := afterAt_get (l := l) (out := out) (show t < l.length by rw [HN.out]; exact htn) t
        rw [if_neg (Nat.lt_irrefl _)] at hget
        have hsu := afterAt_succ l out t
        rw [htk, hf1] at HO
        rw [← htk2] at hf2
        rw [← hf2] at hsu
        obtain ⟨cur, hcur⟩ : ∃ cur, afterAt l out t = cur := ⟨_, rfl⟩
        rw [hcur] at HO hpl hget hsu
        have hcl : cur.length = n := by rw [← hcur, afterAt_length, HN.out]
        generalize l[t]! = x at *
        generalize out[t]! = a at *
        obtain ⟨x1, x2, x3⟩ := x
        dsimp only at c0 c1' r0 r1 r2 hpl
        have HSU := Lib.hid hsu
        have HGET := Lib.hid hget
        have HAT := Lib.hid (show ∀ W : World, Below wr.heap.size wr W → Calls Try.prog 57 #[.slice (some ⟨g, 0, none⟩) n c2, .int .i64 x1] W fun e w' => e = .returned (.int .i64 t) ∧ Below W.heap.size W w' from fun W hW => by
          have := bitternAt_any cur n hcl (some ⟨g, 0, none⟩) c2 x1 W hl (HO.out.past hW (Nat.le_refl _)).rd
          rw [hpl] at this
          exact this)
        rw [← HB.out.cell hbp] at c0 c1'
        have hbw : bp < wr.heap.size := by omega
        have hgw : g < wr.heap.size := (HO.out.bittern HGET.out).1
        have i1 : (i : Int) < m := by omega
        have i2 : (0 : Int) ≤ i := by omega
        have t1 : (t : Int) < n := by omega
        have t2 : (0 : Int) ≤ t := by omega
        have hi1 : i + 1 ≤ m := by omega
        clear hcs hpt htk htk2 hpos hpl hf1 hf2 hget hsu hcl hcur
        go_upto_region 8 with (fail)
        refine wp_name (fun W1 hW1 => ?_)
        have HKB := Lib.hid (show Blk W1 wr.heap.size 37 #[.int .i64 x1, .int .i64 a] by rw [hW1]; exact (by first | exact Blk.new _ _ _ | exact Blk.new_ _ _ _ _ (by simp) | exact (Blk.new _ _ _).drewN _ | exact (Blk.new _ _ _).gw _))
        have HB1 := Lib.hid (show Below wr.heap.size wr W1 by rw [hW1]; exact (by repeat (first | assumption | exact Below.refl _ _ | apply bl_gw | apply bl_alloc | apply bl_drewN | apply bl_drew)))
        clear hW1 c0 c1'
        have d0 : W1.cell? ⟨wr.heap.size, 0, none⟩ = some (.int .i64 x1) := HKB.out.cell 0
        have d1 : W1.cell? ⟨wr.heap.size, 1, none⟩ = some (.int .i64 a) := HKB.out.cell 1
        have hk1 := HKB.out.lt
        have hgne : g ≠ wr.heap.size := by omega
        have hgne2 : wr.heap.size ≠ g := by omega
        have u1 : (t : Int).toNat = t := by omega
        have u2 : IntKind.i64.wrap (x2 - a) = x2 - a := IntWalk.i64_in _ (by omega)
        have u2' : wrap64 (x2 - a) = x2 - a := by unfold wrap64; omega
        have HKP := Lib.hid (show ∀ W, Below W1.heap.size W1 W → (W.cell? ⟨wr.heap.size, 0, none⟩ = some (.int .i64 x1) ∧ W.cell? ⟨wr.heap.size, 1, none⟩ = some (.int .i64 a) ∧ W.cell? ⟨g, t * 3 + 1, none⟩ = some (.int .i64 x2) ∧ W.frozen? ⟨g, t * 3 + 1, none⟩ = false ∧ wr.heap.size < W.heap.size ∧ g < W.heap.size) from fun W hW => by
          have hOW := HO.out.past (HB1.out.trans (hW.mono HB1.out.size)) (Nat.le_refl _)
          have hsz := hW.size
          exact ⟨(hW.cell hk1).trans d0, (hW.cell hk1).trans d1, (hOW.bittern HGET.out).2.2.1, hOW.thaw _, by omega, by have := (hOW.bittern HGET.out).1; exact this⟩)
        go_region_with (go_at_call 57; refine (HAT.out _ (bl_drew HB1.out)).mono ?_; rintro e w5 ⟨rfl, b5⟩; have BB5 := Lib.hid (below_step (show Below W1.heap.size W1 _ from (by repeat (first | assumption | exact Below.refl _ _ | apply bl_gw | apply bl_alloc | apply bl_drewN | apply bl_drew))) b5); obtain ⟨M0, M1, M2, M3, M4, M5⟩ := HKP.out w5 BB5.out; clear b5)
        all_goals
          have HO5 := Lib.hid (HO.out.past (HB1.out.trans (BB5.out.mono HB1.out.size)) (Nat.le_refl _))
          have o6 := HO5.out.setField (i := t) (j := 1) htn HGET.out (by decide) (y := subK ⟨x1, x2, x3⟩ a) (z := x2 - a) rfl (o := t * 3 + 1) rfl
          rw [← HSU.out] at o6
          have O6 := Lib.hid o6
          have hgl : w1.heap.size ≤ g := HO.out.lo ⟨g, 0, none⟩ rfl
          have B6 := Lib.hid (show Below w1.heap.size w1 (w5.setCell ⟨g, t * 3 + 1, none⟩ (.int .i64 (x2 - a))) from ((HB.out.trans (HB1.out.mono hz)).trans (BB5.out.mono (by have := HB1.out.size; omega))).setCell hgl _)
          clear o6 M0 M1 M2 M3 M4 M5 d0 d1 u2 u2'
          go_wp2
          go_roundw
          case rel => exact ⟨i + 1, hi1, by go_num, O6.out, B6.out⟩
          case measure => simp [intOf]; omega
      · obtain rfl : i = m := by omega
        go_wp2
        go_ret2
        have ho := HO.out
        rw [List.take_of_length_le (by rw [HMM.out]; exact Nat.le_refl _)] at ho
        rw [HF.out, HEND.out]
        exact ⟨_, rfl, ho.lower hz1, B1.out.trans (HB.out.mono hz1)⟩
end Go.Proofs.Ytcajgadgdjopdaa
