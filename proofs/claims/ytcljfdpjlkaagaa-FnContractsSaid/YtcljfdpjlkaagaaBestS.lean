/- The best choice of contracts: the reference's function. -/
import Derived.Test.YtcljfdpjlkaagaaBestA
import Derived.Deep.Cut
namespace Go.Proofs.Ytcljfdpjlkaagaa
open Go.RowKit
theorem and1 (b k : Nat) (hb : b ≤ 1024) : bits BinOp.and IntKind.i64 ((b : Int) / 2 ^ k) 1 = ((b / 2 ^ k % 2 : Nat) : Int) := by
  have e : ((b : Int) / 2 ^ k) = ((b / 2 ^ k : Nat) : Int) := by push_cast; rfl
  rw [e]
  have hle := Nat.div_le_self b (2 ^ k)
  generalize b / 2 ^ k = c at *
  have h := bits_mask .i64 63 (by decide) (fun n h0 h1 => IntWalk.i64_in n (by omega)) 1 (by decide) (c : Int) (by omega) (by omega)
  simpa using h
set_option maxRecDepth 4000 in
set_option maxHeartbeats 16000000 in
theorem spec_BestServed_any (s : List Int) (l : List Contract) (m n : Nat) (hm : s.length = m) (hn : l.length = n) (A A' : Option Addr) (cap cap' : Nat) (w : World) (hl' : m ≤ 1048576) (hl : n ≤ 1048576) (hc : Sl encInt w w.heap.size A s) (hd : Sl encContract w w.heap.size A' l) :
    Calls Try.prog 36 #[.slice A m cap, .slice A' n cap'] w fun e w' => e = .returned (.tuple #[.int .i64 (bestA s l), .bool (allOK s l)]) ∧ Below w.heap.size w w' := by
  have HC := Lib.hid hc; clear hc
  have HD := Lib.hid hd; clear hd
  have HN := Lib.hid hn; clear hn
  have HM := Lib.hid hm; clear hm
  rcases sp2 (stockOK s) (areContracts l) with t1 | ⟨t1, t2⟩ | ⟨t1, t2⟩
  · have hq : allOK s l = false := by simp [allOK, t1]
    have hp : bestA s l = 0 := by simp [bestA, hq]
    rw [hq, hp]
    clear hq hp
    go_enter Try.func36, Try.ntmps36
    go_wp2_with fail
    refine (l18Stock_any s m HM.out _ _ _ hl' HC.out).mono ?_
    rintro e w1 ⟨rfl, b1⟩
    rw [t1]
    have B1 := Lib.hid b1
    have D1 := Lib.hid (HD.out.past b1)
    clear b1
    go_wp2
    go_ret2
    exact ⟨rfl, B1.out⟩
  · have hq : allOK s l = false := by simp [allOK, t2]
    have hp : bestA s l = 0 := by simp [bestA, hq]
    rw [hq, hp]
    clear hq hp
    go_enter Try.func36, Try.ntmps36
    go_wp2_with fail
    refine (l18Stock_any s m HM.out _ _ _ hl' HC.out).mono ?_
    rintro e w1 ⟨rfl, b1⟩
    rw [t1]
    have B1 := Lib.hid b1
    have D1 := Lib.hid (HD.out.past b1)
    clear b1
    go_wp2_with fail
    refine (l18Good_any l n HN.out _ _ _ hl D1.out).mono ?_
    rintro e w2 ⟨rfl, b2⟩
    rw [t2]
    have B2 := Lib.hid (below_step B1.out b2)
    have C2 := Lib.hid (HC.out.past B2.out)
    have D2 := Lib.hid (HD.out.past B2.out)
    clear b2
    go_wp2
    go_ret2
    exact ⟨rfl, B2.out⟩
  · have hq : allOK s l = true := by simp [allOK, t1, t2]
    have HQ := Lib.hid hq
    obtain ⟨O, hO⟩ : ∃ O, ordTo l n = O := ⟨_, rfl⟩
    have HOl := Lib.hid (show O.length = n by rw [← hO, ordTo_length])
    have HOI := Lib.hid (show OrdIn l.length O by rw [← hO, HN.out]; exact ordIn_ord)
    have HP := Lib.hid (show bestA s l = bestP l O s by rw [bestA, if_pos hq, HN.out, hO])
    have HOE := Lib.hid hO
    clear hq hO
    have HST := Lib.hid (stockOK_in t1)
    have HOK := Lib.hid (show ∀ (i : Nat) (x : Contract), l[i]? = some x → contractOK x = true from fun i x hx => areContracts_ok t2 hx)
    have hn10 : n ≤ 10 := by have := areContracts_len t2; rw [HN.out] at this; exact this
    have HM4 := Lib.hid (show m = 4 by rw [← HM.out]; exact HST.out.1)
    go_enter Try.func36, Try.ntmps36
    go_wp2_with fail
    refine (l18Stock_any s m HM.out _ _ _ hl' HC.out).mono ?_
    rintro e w1 ⟨rfl, b1⟩
    rw [t1]
    have B1 := Lib.hid b1
    have D1 := Lib.hid (HD.out.past b1)
    clear b1
    go_wp2_with fail
    refine (l18Good_any l n HN.out _ _ _ hl D1.out).mono ?_
    rintro e w2 ⟨rfl, b2⟩
    rw [t2]
    have B2 := Lib.hid (below_step B1.out b2)
    have C2 := Lib.hid (HC.out.past B2.out)
    have D2 := Lib.hid (HD.out.past B2.out)
    clear b2
    clear t1 t2
    have hm4 := HM4.out
    clear HM4
    subst hm4
    go_wp2_with fail
    refine (l18Order_any l n HN.out _ _ _ (by omega) (HD.out.past B2.out)).mono ?_
    rintro e w6 ⟨v6, rfl, o6, b6⟩
    rw [HOE.out] at o6
    obtain ⟨A6, c6, rfl, h6, _, sl6⟩ := o6.slice
    rw [HOl.out] at o6 h6 ⊢
    have S6 := Lib.hid sl6
    have B6 := Lib.hid (below_step B2.out b6)
    have C6 := Lib.hid (HC.out.past B6.out)
    have D6 := Lib.hid (HD.out.past B6.out)
    clear o6 b6 sl6
    obtain ⟨N, hN⟩ : ∃ N, 2 ^ n = N := ⟨_, rfl⟩
    have hN1 : N ≤ 1024 := by
      rw [← hN]
      exact Nat.le_trans (Nat.pow_le_pow_right (by decide) hn10) (by decide)
    have hN0 : 1 ≤ N := by rw [← hN]; exact Nat.one_le_two_pow
    have hw2 : wrap64 ((2 : Int) ^ n) = (N : Int) := by
      rw [show ((2 : Int) ^ n) = ((2 ^ n : Nat) : Int) by push_cast; rfl, hN]
      exact IntWalk.wrap64_in _ (by omega)
    have HNN := Lib.hid hN
    clear hN
    go_wp2
    go_loopw [6, 7, 9] (fun best first bits wr => ∃ b : Nat, b ≤ N ∧ bits = .int .i64 b ∧ best = .int .i64 (bstTo l O s b).1 ∧ first = .bool (bstTo l O s b).2 ∧ Below w6.heap.size w6 wr) (fun _ _ bits _ => N - (intOf bits).toNat)
    case atStart => exact ⟨0, Nat.zero_le _, rfl, rfl, rfl, Below.refl _ _⟩
    case round =>
      obtain ⟨b, hb, rfl, rfl, rfl, hbel⟩ := hrel
      have HB := Lib.hid hbel
      have hr := bst_rng HOK.out HOI.out HST.out b
      rw [HOl.out] at hr
      clear hbel
      obtain ⟨best, h1⟩ : ∃ best, (bstTo l O s b).1 = best := ⟨_, rfl⟩
      obtain ⟨first, h2⟩ : ∃ first, (bstTo l O s b).2 = first := ⟨_, rfl⟩
      have HBE := Lib.hid (show bstTo l O s (b + 1) = match valB l O s b with
        | some v => if first = true ∨ best < v then (v, false) else bstTo l O s b
        | none => bstTo l O s b by rw [← h1, ← h2]; rfl)
      have HB1 := Lib.hid h1
      have HB2 := Lib.hid h2
      rw [h1] at hr ⊢
      rw [h2]
      clear h1 h2
      by_cases hlt : b < N
      · have k1 : (b : Int) < N := by omega
        have k2 : (0 : Int) ≤ b := by omega
        obtain ⟨wo, rfl⟩ : ∃ wo : World, wo = wr := ⟨_, rfl⟩
        have HV := Lib.hid (pick_end l O s b)
        go_wp2
        clear hw2
        go_loopw [10, 11, 12, 13] (fun now sum fits i wr => ∃ (k : Nat) (Ak : Option Addr) (ck : Nat), k ≤ n ∧ i = .int .i64 k ∧ now = .slice Ak 4 ck ∧ sum = .int .i64 (pickTo l O s b k).2.1 ∧ fits = .bool (pickTo l O s b k).2.2 ∧ Sl encInt wr wr.heap.size Ak (pickTo l O s b k).1 ∧ Below w6.heap.size w6 wr) (fun _ _ _ i _ => n - (intOf i).toNat)
        case atStart => exact ⟨0, _, _, Nat.zero_le _, rfl, rfl, rfl, rfl, C6.out.past HB.out, HB.out⟩
        case round =>
          obtain ⟨k, Ak, ck, hk, rfl, rfl, rfl, rfl, hS, hbel⟩ := hrel
          have hpi := pickTo_in (b := b) HOK.out HOI.out HST.out k (by rw [HOl.out]; exact hk)
          have HPE := Lib.hid (show pickTo l O s b (k + 1) = pickStep l[O[k]!.toNat]! (b / 2 ^ k % 2) (pickTo l O s b k) from rfl)
          have HSTAY := Lib.hid (fun h j => pick_stay l O s b (i := k) h j)
          obtain ⟨T, hT⟩ : ∃ T, pickTo l O s b k = T := ⟨_, rfl⟩
          have HT := Lib.hid hT
          rw [hT] at hS hpi HPE HSTAY ⊢
          clear hT
          obtain ⟨S, sum, fits⟩ := T
          dsimp only at hS hpi HSTAY ⊢
          have HS := Lib.hid hS
          have HB' := Lib.hid hbel
          clear hS hbel
          by_cases hlt : k < n
          · have k3 : (k : Int) < n := by omega
            have k4 : (0 : Int) ≤ k := by omega
            cases fits
            · have hnv : valB l O s b = none := by
                rw [HV.out, if_neg]
                have := HSTAY.out rfl (n - k)
                rw [show k + (n - k) = O.length by rw [HOl.out]; omega] at this
                rw [this]; simp
              have hbe : bstTo l O s (b + 1) = bstTo l O s b := by have := HBE.out; rw [hnv] at this; exact this
              have HBN := Lib.hid hbe
              clear hnv hbe
              go_wp2
              go_roundw
              case rel => exact ⟨b + 1, by omega, by go_num, by rw [HBN.out, HB1.out], by rw [HBN.out, HB2.out], HB'.out⟩
              case measure => simp [intOf]; omega
            · have hox : O[k]? = some (O[k]'(by rw [HOl.out]; exact hlt)) := List.getElem?_eq_getElem _
              obtain ⟨z0, z1⟩ := HOI.out _ (List.mem_of_getElem? hox)
              obtain ⟨q, hq⟩ : ∃ q : Nat, O[k]'(by rw [HOl.out]; exact hlt) = q := ⟨_, (Int.toNat_of_nonneg z0).symm⟩
              rw [hq] at hox z0 z1
              rw [HN.out] at z1
              clear hq
              have hqn : q < n := by omega
              have hx : l[q]? = some (l[q]'(by rw [HN.out]; exact hqn)) := List.getElem?_eq_getElem _
              have hpe := HPE.out
              rw [List.getElem!_of_getElem? hox, Int.toNat_natCast, List.getElem!_of_getElem? hx] at hpe
              have hok := HOK.out q _ hx
              generalize l[q]'(by rw [HN.out]; exact hqn) = x at hx hpe hok
              obtain ⟨bk, off, rfl, hb, hcs⟩ := (D6.out.past HB'.out).contract (by rw [HN.out]; omega)
              obtain ⟨c0, c1, c2, c3, c4, c5, c6⟩ := hcs q x hx
              obtain ⟨ob, oo, rfl, hob, hos⟩ := (S6.out.past HB'.out).int_ (by rw [HOl.out]; omega)
              have d0 := hos k _ hox
              obtain ⟨_, ⟨g1, g4⟩, ht, pr12, _, _, f12⟩ := contractOK_at hok
              obtain ⟨m1, m2⟩ := best_mul hok
              obtain ⟨sv1, sv2, sv3⟩ := serveP_in hpi.1 hok
              have m3 := mul_rng (A := 5000) (B := 500) sv2 (by omega) (by omega) pr12.2
              obtain ⟨hst, p1, p2⟩ := hpi
              have HST2 := Lib.hid hst
              have HSV := Lib.hid sv1
              clear hcs hos hx hox hok HPE sv1 hst
              obtain ⟨id, g, t, pr, fr, un, fi⟩ := x
              dsimp only at c0 c1 c2 c3 c4 c5 c6 g1 g4 ht m1 m2 m3 sv3 pr12
              obtain ⟨gr, rfl⟩ : ∃ gr : Nat, g = gr := ⟨g.toNat, by omega⟩
              have HSP := Lib.hid (show serveP S ⟨id, gr, t, pr, fr, un, fi⟩ = serveTo t gr S gr from rfl)
              rw [HSP.out] at m3 sv2 sv3 HSV
              have hpe2 : pickTo l O s b (k + 1) = pickStep ⟨id, gr, t, pr, fr, un, fi⟩ (b / 2 ^ k % 2) (S, sum, true) := hpe
              clear hpe
              have k5 : (0 : Int) ≤ q := by omega
              have k6 : (q : Int) < n := by omega
              have hand := and1 b k (by omega)
              have k7 : IntKind.i64.wrap ((k : Int) + 1) = (k : Int) + 1 := IntWalk.i64_in _ (by omega)
              have k8 : IntKind.i64.wrap (t * fi) = t * fi := IntWalk.i64_in _ (by omega)
              have k9 : IntKind.i64.wrap (sum - t * fi) = sum - t * fi := IntWalk.i64_in _ (by omega)
              rcases (show b / 2 ^ k % 2 = 0 ∨ b / 2 ^ k % 2 = 1 by omega) with hbit | hbit
              · have HPK := Lib.hid (show pickTo l O s b (k + 1) = (S, sum - t * fi, true) by rw [hpe2, pickStep, hbit]; rfl)
                rw [hbit] at hand
                have hand1 : (bits BinOp.and IntKind.i64 ((b : Int) / 2 ^ k) 1 == 0) = true := by rw [hand]; rfl
                clear hand hpe2 hbit
                go_wp2
                go_roundw
                case rel => exact ⟨k + 1, _, _, by omega, by go_num, rfl, by rw [HPK.out], by rw [HPK.out], by rw [HPK.out]; exact HS.out.past (by repeat (first | assumption | exact Below.refl _ _ | apply bl_gw | apply bl_alloc | apply bl_drewN | apply bl_drew)), (HB'.out.trans ((show Below wr.heap.size wr _ from (by repeat (first | assumption | exact Below.refl _ _ | apply bl_gw | apply bl_alloc | apply bl_drewN | apply bl_drew))).mono HB'.out.size))⟩
                case measure => simp [intOf]; omega
              · have HPK := Lib.hid (show pickTo l O s b (k + 1) = ((serveTo t gr S gr).1, sum + (serveTo t gr S gr).2 * pr, decide ((serveTo t gr S gr).2 = t)) by rw [hpe2, pickStep, hbit, HSP.out]; rfl)
                rw [hbit] at hand
                have hand1 : (bits BinOp.and IntKind.i64 ((b : Int) / 2 ^ k) 1 == 0) = false := by rw [hand]; rfl
                clear hand hpe2 hbit
                obtain ⟨gv, hgv⟩ : ∃ gv, (serveTo t gr S gr).2 = gv := ⟨_, rfl⟩
                have HGV := Lib.hid hgv
                rw [hgv] at HPK m3 sv2 sv3
                clear hgv
                have k10 : IntKind.i64.wrap (gv * pr) = gv * pr := IntWalk.i64_in _ (by omega)
                have k11 : IntKind.i64.wrap (sum + gv * pr) = sum + gv * pr := IntWalk.i64_in _ (by omega)
                go_wp2_with fail
                refine (l18Serve_any S HST2.out _ _ id t pr fr un fi gr _ (by omega) (by omega) (by omega) (HS.out.past (by repeat (first | assumption | exact Below.refl _ _ | apply bl_gw | apply bl_alloc | apply bl_drewN | apply bl_drew)))).mono ?_
                rintro e w7 ⟨v7, rfl, o7, b7⟩
                rw [HGV.out]
                obtain ⟨A7, cc7, rfl, _, _, sl7⟩ := o7.slice
                rw [HSV.out.1]
                have S7 := Lib.hid sl7
                have HB7 := Lib.hid (below_step (show Below wr.heap.size wr _ from (by repeat (first | assumption | exact Below.refl _ _ | apply bl_gw | apply bl_alloc | apply bl_drewN | apply bl_drew))) b7)
                obtain ⟨hcb, _⟩ := bcell b7
                have L2 : w7.cell? ⟨wr.heap.size, 2, none⟩ = some (.int .i64 t) := by rw [hcb _ _ (by simp)]; simp [go_sem]
                have L3 : w7.cell? ⟨wr.heap.size, 3, none⟩ = some (.int .i64 pr) := by rw [hcb _ _ (by simp)]; simp [go_sem]
                have hz7 : wr.heap.size < w7.heap.size := below_lt (by simp) b7
                have HEQ := Lib.hid (show (gv == t) = decide (gv = t) by by_cases h : gv = t <;> simp [h])
                clear hcb b7 o7 sl7 c0 c1 c2 c3 c4 c5 c6 d0
                go_wp2
                go_roundw
                case rel => exact ⟨k + 1, _, _, by omega, by go_num, rfl, by rw [HPK.out], by rw [HPK.out, HEQ.out], by rw [HPK.out]; exact S7.out, HB'.out.trans (HB7.out.mono HB'.out.size)⟩
                case measure => simp [intOf]; omega
          · obtain rfl : k = n := by omega
            cases fits
            · have hnv : valB l O s b = none := by
                rw [HV.out, if_neg]
                have := HSTAY.out rfl (k - k)
                rw [show k + (k - k) = O.length by rw [HOl.out]; omega] at this
                rw [this]; simp
              have hbe : bstTo l O s (b + 1) = bstTo l O s b := by have := HBE.out; rw [hnv] at this; exact this
              have HBN := Lib.hid hbe
              clear hnv hbe
              go_wp2
              go_roundw
              case rel => exact ⟨b + 1, by omega, by go_num, by rw [HBN.out, HB1.out], by rw [HBN.out, HB2.out], HB'.out⟩
              case measure => simp [intOf]; omega
            · cases first
              · have hnv : valB l O s b = some sum := by
                  have := HV.out
                  rw [HOl.out, HT.out] at this
                  exact this
                have hbe := HBE.out
                rw [hnv] at hbe
                have HBN := Lib.hid hbe
                clear hnv hbe
                rcases (show best < sum ∨ ¬ best < sum by omega) with hc | hc
                · have hc1 : decide (best < sum) = true := decide_eq_true hc
                  have HBM := Lib.hid (show bstTo l O s (b + 1) = (sum, false) by have := HBN.out; simp only [hc, or_true, if_true] at this; exact this)
                  go_wp2
                  go_roundw
                  case rel => exact ⟨b + 1, by omega, by go_num, by rw [HBM.out], by rw [HBM.out], HB'.out⟩
                  case measure => simp [intOf]; omega
                · have hc1 : decide (best < sum) = false := decide_eq_false hc
                  have HBM := Lib.hid (show bstTo l O s (b + 1) = bstTo l O s b by have := HBN.out; simp only [hc, or_false, Bool.false_eq_true, if_false] at this; exact this)
                  go_wp2
                  go_roundw
                  case rel => exact ⟨b + 1, by omega, by go_num, by rw [HBM.out, HB1.out], by rw [HBM.out, HB2.out], HB'.out⟩
                  case measure => simp [intOf]; omega
              · have hnv : valB l O s b = some sum := by
                  have := HV.out
                  rw [HOl.out, HT.out] at this
                  exact this
                have hbe := HBE.out
                rw [hnv] at hbe
                have HBN := Lib.hid hbe
                clear hnv hbe
                rcases (show best < sum ∨ ¬ best < sum by omega) with hc | hc
                · have hc1 : decide (best < sum) = true := decide_eq_true hc
                  have HBM := Lib.hid (show bstTo l O s (b + 1) = (sum, false) by have := HBN.out; simp only [hc, or_true, if_true] at this; exact this)
                  go_wp2
                  go_roundw
                  case rel => exact ⟨b + 1, by omega, by go_num, by rw [HBM.out], by rw [HBM.out], HB'.out⟩
                  case measure => simp [intOf]; omega
                · have hc1 : decide (best < sum) = false := decide_eq_false hc
                  have HBM := Lib.hid (show bstTo l O s (b + 1) = (sum, false) by have := HBN.out; simp only [true_or, if_true] at this; exact this)
                  go_wp2
                  go_roundw
                  case rel => exact ⟨b + 1, by omega, by go_num, by rw [HBM.out], by rw [HBM.out], HB'.out⟩
                  case measure => simp [intOf]; omega
      · have HE := Lib.hid (bst_end l O s)
        obtain rfl : b = N := by omega
        go_wp2
        go_ret2
        rw [HQ.out, HP.out, ← HE.out, HOl.out, HNN.out, HB1.out]
        exact ⟨rfl, B6.out.trans (HB.out.mono B6.out.size)⟩
end Go.Proofs.Ytcljfdpjlkaagaa
