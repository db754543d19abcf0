/- Orders of bittern: the reference's FillOrder. -/
import Derived.Test.YtcajgadgdjopdaaFillF
namespace Go.Proofs.Ytcajgadgdjopdaa
open Go.RowKit
set_option maxRecDepth 4000 in
set_option maxHeartbeats 2000000 in
theorem l15Asked_any (l : List Bittern) (n : Nat) (hn : l.length = n) (A : Option Addr) (cap : Nat) (k b : Int) (w : World) (hl : n ≤ 1048576) (hc : Sl encBittern w w.heap.size A l) :
    Calls Try.prog 48 #[.slice A n cap, .int .i64 k, .int .i64 b] w fun e w' => e = .returned (.bool (askedB l k b)) ∧ Below w.heap.size w w' := by
  have HC := Lib.hid hc; clear hc
  have HN := Lib.hid hn; clear hn
  rcases sp3 (areBitterns l) (inB k 1 100000) (inB b 0 1000) with t1 | ⟨t1, t2⟩ | ⟨t1, t2, t3⟩ | ⟨t1, t2, t3⟩
  all_goals
    have HV := Lib.hid (show askedB l k b = _ from by unfold askedB; first | rw [t1, t2, t3] | rw [t1, t2] | rw [t1])
    have HA := Lib.hid t1
    clear t1
  · go_enter Try.func48, Try.ntmps48
    go_wp2_with (first | (go_at_call 51; refine (l15Good_any l n HN.out _ _ _ hl HC.out).mono ?_; rintro e w1 ⟨rfl, hb⟩; rw [HA.out]; obtain ⟨p, rfl⟩ := below_gw hb; clear hb))
    go_ret
    rw [HV.out]
    exact ⟨rfl, (by repeat (first | assumption | exact Below.refl _ _ | apply bl_gw | apply bl_alloc | apply bl_drewN | apply bl_drew))⟩
  · have HT2 := Lib.hid t2
    clear t2
    go_enter Try.func48, Try.ntmps48
    go_wp2_with (first | (go_at_call 51; refine (l15Good_any l n HN.out _ _ _ hl HC.out).mono ?_; rintro e w1 ⟨rfl, hb⟩; rw [HA.out]; obtain ⟨p, rfl⟩ := below_gw hb; clear hb) | (go_at_call 53; refine (l1In_q HT2.out _).mono ?_; rintro e w1 ⟨rfl, rfl⟩))
    go_ret
    rw [HV.out]
    exact ⟨rfl, (by repeat (first | assumption | exact Below.refl _ _ | apply bl_gw | apply bl_alloc | apply bl_drewN | apply bl_drew))⟩
  · have HT2 := Lib.hid t2
    have HT3 := Lib.hid t3
    clear t2 t3
    go_enter Try.func48, Try.ntmps48
    go_wp2_with (first | (go_at_call 51; refine (l15Good_any l n HN.out _ _ _ hl HC.out).mono ?_; rintro e w1 ⟨rfl, hb⟩; rw [HA.out]; obtain ⟨p, rfl⟩ := below_gw hb; clear hb) | (go_at_call 53; refine (l1In_any _ _ _ _).mono ?_; rintro e w1 ⟨rfl, rfl⟩; first | rw [HT2.out] | rw [HT3.out]))
    go_ret
    rw [HV.out]
    exact ⟨rfl, (by repeat (first | assumption | exact Below.refl _ _ | apply bl_gw | apply bl_alloc | apply bl_drewN | apply bl_drew))⟩
  · have HT2 := Lib.hid t2
    have HT3 := Lib.hid t3
    clear t2 t3
    go_enter Try.func48, Try.ntmps48
    go_wp2_with (first | (go_at_call 51; refine (l15Good_any l n HN.out _ _ _ hl HC.out).mono ?_; rintro e w1 ⟨rfl, hb⟩; rw [HA.out]; obtain ⟨p, rfl⟩ := below_gw hb; clear hb) | (go_at_call 53; refine (l1In_any _ _ _ _).mono ?_; rintro e w1 ⟨rfl, rfl⟩; first | rw [HT2.out] | rw [HT3.out]))
    go_ret
    rw [HV.out]
    exact ⟨rfl, (by repeat (first | assumption | exact Below.refl _ _ | apply bl_gw | apply bl_alloc | apply bl_drewN | apply bl_drew))⟩
set_option maxRecDepth 4000 in
set_option maxHeartbeats 8000000 in
theorem spec_FillOrder_any (l : List Bittern) (n : Nat) (hn : l.length = n) (A : Option Addr) (cap : Nat) (k b : Int) (w : World) (hl : n ≤ 1048576) (hc : Sl encBittern w w.heap.size A l) :
    Calls Try.prog 11 #[.slice A n cap, .int .i64 k, .int .i64 b] w fun e w' => ∃ v, e = .returned (.tuple #[v, .bool (fillOK l k b)]) ∧ Own encDitch w' w.heap.size 37 v (fillP l k b) ∧ Below w.heap.size w w' := by
  have HC := Lib.hid hc; clear hc
  have HN := Lib.hid hn; clear hn
  have HNO := Lib.hid (fun h => fill_no (l := l) (k := k) (b := b) h)
  obtain ⟨i0, hinf, hz0, hz1, hz2⟩ := info_parts info_Ditch
  go_enter Try.func11, Try.ntmps11
  go_wp2_with fail
  refine (l15Asked_any l n HN.out A cap k b _ hl (HC.out.past (by repeat (first | assumption | exact Below.refl _ _ | apply bl_gw | apply bl_alloc | apply bl_drewN | apply bl_drew)))).mono ?_
  rintro e w1 ⟨rfl, bb⟩
  have O1 := Lib.hid ((Own.nil_ (E := encDitch) (w := w) (base := w.heap.size) (Nat.le_refl _) 37).past bb (Nat.le_refl _))
  have B1 := Lib.hid (below_step (show Below w.heap.size w _ from (by repeat (first | assumption | exact Below.refl _ _ | apply bl_gw | apply bl_alloc | apply bl_drewN | apply bl_drew))) bb)
  have hw1 : w.heap.size < w1.heap.size := by have := bb.size; simp at this; omega
  clear bb
  cases hask : askedB l k b with
  | false =>
    have HF := Lib.hid (show fillOK l k b = false by simp [fillOK, hask])
    clear hask
    go_wp2
    go_ret2
    rw [HF.out, HNO.out HF.out]
    exact ⟨_, rfl, O1.out, B1.out⟩
  | true =>
    have hn8 : n ≤ 8 := by have := areBitterns_len (askedB_in hask).1; rw [HN.out] at this; exact this
    have HK := Lib.hid hask
    clear hask
    go_wp2_with fail
    refine (l15Fill_any l n HN.out A cap k b HK.out _ ((HC.out.below B1.out).more B1.out.size)).mono ?_
    rintro e w2 ⟨v2, rfl, o2, b2⟩
    have O2 := Lib.hid (O1.out.past b2 (Nat.le_refl _))
    have B2 := Lib.hid (below_step B1.out b2)
    have hw2 := b2.size
    cases hF : fillOK l k b with
    | false =>
      have HF := Lib.hid hF
      clear hF o2 b2
      go_wp2
      go_ret2
      rw [HF.out, HNO.out HF.out]
      exact ⟨_, rfl, O2.out, B2.out⟩
    | true =>
      rw [hF, if_pos rfl] at o2
      have HF := Lib.hid hF
      obtain ⟨out, ho⟩ : ∃ out, outTo l k (k * b) n = out := ⟨_, rfl⟩
      have hol : out.length = n := by rw [← ho, outTo_length, HN.out]
      have HP := Lib.hid (show fillP l k b = pairsS l out n by unfold fillP; rw [if_pos hF, HN.out, ho])
      rw [ho] at o2
      obtain ⟨At, ct, rfl, _⟩ := o2.slice_at hol
      have T2 := Lib.hid (o2.lower (b := w.heap.size) (by omega))
      have NE := Lib.hid (show ∀ q, (Value.slice At n ct).ownBlock = some q → (Value.slice (some ⟨w.heap.size, 0, none⟩) 0 0).ownBlock ≠ some q from fun q h1 h2 => by
        have := o2.row q h1
        injection h2 with h2
        simp at h2
        omega)
      have HOL := Lib.hid hol
      clear hF o2 b2 ho hol
      go_wp2
      go_loopw [8, 11] (fun u iv wr => ∃ i : Nat, i ≤ n ∧ iv = .int .i64 i ∧ Own encDitch wr w.heap.size 37 u (pairsS l out i) ∧ Own encInt wr w.heap.size 3 (.slice At n ct) out ∧ (∀ q, (Value.slice At n ct).ownBlock = some q → u.ownBlock ≠ some q) ∧ Below w.heap.size w wr) (fun _ iv _ => n - (intOf iv).toNat)
      case atStart => exact ⟨0, Nat.zero_le _, rfl, O2.out, T2.out, NE.out, B2.out⟩
      case round =>
        obtain ⟨i, hi, rfl, ho, ht, hne, hbel⟩ := hrel
        have HO := Lib.hid ho
        have HT := Lib.hid ht
        have HNE := Lib.hid hne
        have HB := Lib.hid hbel
        have hz := hbel.size
        clear ho hne hbel
        by_cases hlt : i < n
        · obtain ⟨gt, rfl⟩ := ht.some_ (by omega)
          have hot : out[i]? = some out[i]! := by rw [getElem!_pos out i (by rw [HOL.out]; exact hlt)]; exact List.getElem?_eq_getElem _
          have hx : l[i]? = some l[i]! := by rw [getElem!_pos l i (by rw [HN.out]; exact hlt)]; exact List.getElem?_eq_getElem _
          obtain ⟨hgt, d0⟩ := ht.int hot
          obtain ⟨bk, off, rfl, hbk, hcs⟩ := HC.out.bittern (by rw [HN.out]; omega)
          obtain ⟨c0, _⟩ := hcs i _ hx
          have hps : pairsS l out (i + 1) = if 0 < out[i]! then pairsS l out i ++ [⟨l[i]!.id, out[i]!⟩] else pairsS l out i := rfl
          have hpl := pairsS_len l out i
          generalize l[i]!.id = x at *
          generalize out[i]! = t at *
          rw [← HB.out.cell hbk] at c0
          have hbw : bk < wr.heap.size := by omega
          have i1 : (i : Int) < n := by omega
          have i2 : (0 : Int) ≤ i := by omega
          have hi1 : i + 1 ≤ n := by omega
          clear hcs hx hot ht
          by_cases hpos : 0 < t
          · have HPS := Lib.hid (show pairsS l out (i + 1) = pairsS l out i ++ [⟨x, t⟩] by rw [hps, if_pos hpos])
            have hd1 : decide (0 < t) = true := decide_eq_true hpos
            have hl1 : (pairsS l out i).length + 1 ≤ maxLen := by unfold maxLen; omega
            have hl2 : ((pairsS l out i).length + 1) * 16 ≤ 140737488355328 := by omega
            have BA := Lib.hid (show Below wr.heap.size wr (wr.alloc (.cells #[.int .i64 x, .int .i64 t] 37)).drew from (by repeat (first | assumption | exact Below.refl _ _ | apply bl_gw | apply bl_alloc | apply bl_drewN | apply bl_drew)))
            have KA := Lib.hid (show Blk (wr.alloc (.cells #[.int .i64 x, .int .i64 t] 37)).drew wr.heap.size 37 #[.int .i64 x, .int .i64 t] from (Blk.new _ _ _).past (bl_drew (Below.refl _ _)))
            have hw5 := HO.out.past BA.out (Nat.le_refl _)
            have HOA := Lib.hid hw5
            have HTA := Lib.hid (HT.out.past BA.out (Nat.le_refl _))
            have hz5 : w.heap.size ≤ (wr.alloc (.cells #[.int .i64 x, .int .i64 t] 37)).drew.heap.size := by have := BA.out.size; omega
            have HZ5 := Lib.hid hz5
            clear hw5 hz5 hps hpl
            go_wp2
            go_region_law (refine step_app (E := encDitch) rfl (.tmp 40) (.tmp 51) 27 rfl w.heap.size 37 i0 _ 16 Try.underlying27 hinf hz0 hz1 hz2 rfl (by decide) _ _ rfl HOA.out _ _ 1 1 [⟨x, t⟩] rfl rfl (Own.sl (Own.build (E := encDitch) (n := 1) (base := 0) (Nat.zero_le _) KA.out rfl rfl (by decide))).2 hl1 hl2 HZ5.out ?_; intro v5 w5 o5 g5 d5; have O5 := Lib.hid o5; have G5 := Lib.hid g5; have D5 := Lib.hid d5; clear o5 g5 d5)
            all_goals
              have HT5 := Lib.hid (HTA.out.grown G5.out (fun q hq => HNE.out q hq))
              have B5 := Lib.hid (below_grownB (HB.out.trans (BA.out.mono hz)) G5.out HZ5.out HO.out.row)
              have NE5 := Lib.hid (show ∀ q, (Value.slice (some ⟨gt, 0, none⟩) n ct).ownBlock = some q → v5.ownBlock ≠ some q from fun q h1 h2 => by
                rcases D5.out with h | h
                · exact HNE.out q h1 (h.symm.trans h2)
                · have := HTA.out.blkLt h1
                  rw [h2] at h
                  injection h with h
                  omega)
              have o5 := O5.out
              rw [← HPS.out] at o5
              have O6 := Lib.hid o5
              clear o5
              go_wp2
              go_roundw
              case rel => exact ⟨i + 1, hi1, by go_num, O6.out, HT5.out, NE5.out, B5.out⟩
              case measure => simp [intOf]; omega
          · have HPS := Lib.hid (show pairsS l out (i + 1) = pairsS l out i by rw [hps, if_neg hpos])
            have hd1 : decide (0 < t) = false := decide_eq_false hpos
            clear hps hpl
            go_wp2
            go_roundw
            case rel => exact ⟨i + 1, hi1, by go_num, by rw [HPS.out]; exact HO.out, HT.out, HNE.out, HB.out⟩
            case measure => simp [intOf]; omega
        · obtain rfl : i = n := by omega
          go_wp2
          go_ret2
          rw [HF.out, HP.out]
          exact ⟨_, rfl, HO.out, HB.out⟩
end Go.Proofs.Ytcajgadgdjopdaa
