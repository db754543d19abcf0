/- The law FnOffers: the walk. Open contracts go down in price, splitting keeps all tons, and the text is the reference's. -/
import Derived.Test.YtcljfdpjlkaagaaDoorLawOffA
import Derived.Test.YtcljfdpjlkaagaaDoorDrawO
import Derived.Test.YtcljfdpjlkaagaaDoorLawRC
import Derived.Test.YtcljfdpjlkaagaaDoorTextC
namespace Go.Proofs.YtcljfdpjlkaagaaDoor
open Go.RowKit
set_option maxRecDepth 4000 in
set_option maxHeartbeats 4000000 in
theorem drawContractText_any (A : Option Addr) (n c : Nat) (w : World) (hc : Bytes w A n) :
    Calls Tryd.prog 19 #[.slice A n c] w fun e w' => ∃ a0 a1 a2 a3 a4 a5 a6 : Int, e = .returned (.agg #[.int .i64 a0, .int .i64 a1, .int .i64 a2, .int .i64 a3, .int .i64 a4, .int .i64 a5, .int .i64 a6]) ∧ Below w.heap.size w w' := by
  have HC := Lib.hid hc
  clear hc
  have K0 := Lib.hid (Blk.new w 26 #[.int .i64 0, .int .i64 0, .int .i64 0, .int .i64 0, .int .i64 0, .int .i64 0, .int .i64 0])
  go_enter Tryd.func19, Tryd.ntmps19
  go_wp2_with fail
  refine (drawContract_any A n c _ (HC.out.past (bl_alloc (Below.refl _ _) _))).mono ?_
  rintro e w2 ⟨a0, a1, a2, a3, a4, a5, a6, rfl, bb⟩
  have K2 := Lib.hid (K0.out.past bb)
  have B2 := Lib.hid (below_step (bl_alloc (Below.refl w.heap.size w) _) bb)
  clear bb K0
  have r0 : w2.cell? ⟨w.heap.size, 0, none⟩ = some (.int .i64 0) := K2.out.cell 0
  have r1 : w2.cell? ⟨w.heap.size, 1, none⟩ = some (.int .i64 0) := K2.out.cell 1
  have r2 : w2.cell? ⟨w.heap.size, 2, none⟩ = some (.int .i64 0) := K2.out.cell 2
  have r3 : w2.cell? ⟨w.heap.size, 3, none⟩ = some (.int .i64 0) := K2.out.cell 3
  have r4 : w2.cell? ⟨w.heap.size, 4, none⟩ = some (.int .i64 0) := K2.out.cell 4
  have r5 : w2.cell? ⟨w.heap.size, 5, none⟩ = some (.int .i64 0) := K2.out.cell 5
  have r6 : w2.cell? ⟨w.heap.size, 6, none⟩ = some (.int .i64 0) := K2.out.cell 6
  have f0 := K2.out.frozen 0
  have f1 := K2.out.frozen 1
  have f2 := K2.out.frozen 2
  have f3 := K2.out.frozen 3
  have f4 := K2.out.frozen 4
  have f5 := K2.out.frozen 5
  have f6 := K2.out.frozen 6
  have hl1' := K2.out.lt
  go_wp2
  have KE := Lib.hid (show Blk ((((((((w2).setCell ⟨w.heap.size, 0, none⟩ (.int .i64 a0)).setCell ⟨w.heap.size, 1, none⟩ (.int .i64 a1)).setCell ⟨w.heap.size, 2, none⟩ (.int .i64 a2)).setCell ⟨w.heap.size, 3, none⟩ (.int .i64 a3)).setCell ⟨w.heap.size, 4, none⟩ (.int .i64 a4)).setCell ⟨w.heap.size, 5, none⟩ (.int .i64 a5)).setCell ⟨w.heap.size, 6, none⟩ (.int .i64 a6)) w.heap.size 26 #[.int .i64 a0, .int .i64 a1, .int .i64 a2, .int .i64 a3, .int .i64 a4, .int .i64 a5, .int .i64 a6] from (((((((K2.out).set_ 0 (.int .i64 a0)).set_ 1 (.int .i64 a1)).set_ 2 (.int .i64 a2)).set_ 3 (.int .i64 a3)).set_ 4 (.int .i64 a4)).set_ 5 (.int .i64 a5)).set_ 6 (.int .i64 a6))
  have BE := Lib.hid (show Below w.heap.size w2 ((((((((w2).setCell ⟨w.heap.size, 0, none⟩ (.int .i64 a0)).setCell ⟨w.heap.size, 1, none⟩ (.int .i64 a1)).setCell ⟨w.heap.size, 2, none⟩ (.int .i64 a2)).setCell ⟨w.heap.size, 3, none⟩ (.int .i64 a3)).setCell ⟨w.heap.size, 4, none⟩ (.int .i64 a4)).setCell ⟨w.heap.size, 5, none⟩ (.int .i64 a5)).setCell ⟨w.heap.size, 6, none⟩ (.int .i64 a6)) from (((((((Below.refl w.heap.size w2).setCell (p := ⟨w.heap.size, 0, none⟩) (Nat.le_refl _) (.int .i64 a0)).setCell (p := ⟨w.heap.size, 1, none⟩) (Nat.le_refl _) (.int .i64 a1)).setCell (p := ⟨w.heap.size, 2, none⟩) (Nat.le_refl _) (.int .i64 a2)).setCell (p := ⟨w.heap.size, 3, none⟩) (Nat.le_refl _) (.int .i64 a3)).setCell (p := ⟨w.heap.size, 4, none⟩) (Nat.le_refl _) (.int .i64 a4)).setCell (p := ⟨w.heap.size, 5, none⟩) (Nat.le_refl _) (.int .i64 a5)).setCell (p := ⟨w.heap.size, 6, none⟩) (Nat.le_refl _) (.int .i64 a6))
  clear r0 r1 r2 r3 r4 r5 r6 f0 f1 f2 f3 f4 f5 f6
  generalize ((((((((w2).setCell ⟨w.heap.size, 0, none⟩ (.int .i64 a0)).setCell ⟨w.heap.size, 1, none⟩ (.int .i64 a1)).setCell ⟨w.heap.size, 2, none⟩ (.int .i64 a2)).setCell ⟨w.heap.size, 3, none⟩ (.int .i64 a3)).setCell ⟨w.heap.size, 4, none⟩ (.int .i64 a4)).setCell ⟨w.heap.size, 5, none⟩ (.int .i64 a5)).setCell ⟨w.heap.size, 6, none⟩ (.int .i64 a6)) = wE at KE BE ⊢
  have r0 : wE.cell? ⟨w.heap.size, 0, none⟩ = some (.int .i64 a0) := KE.out.cell 0
  have r1 : wE.cell? ⟨w.heap.size, 1, none⟩ = some (.int .i64 a1) := KE.out.cell 1
  have r2 : wE.cell? ⟨w.heap.size, 2, none⟩ = some (.int .i64 a2) := KE.out.cell 2
  have r3 : wE.cell? ⟨w.heap.size, 3, none⟩ = some (.int .i64 a3) := KE.out.cell 3
  have r4 : wE.cell? ⟨w.heap.size, 4, none⟩ = some (.int .i64 a4) := KE.out.cell 4
  have r5 : wE.cell? ⟨w.heap.size, 5, none⟩ = some (.int .i64 a5) := KE.out.cell 5
  have r6 : wE.cell? ⟨w.heap.size, 6, none⟩ = some (.int .i64 a6) := KE.out.cell 6
  refine bodyPost_ret (v := .agg #[.int .i64 a0, .int .i64 a1, .int .i64 a2, .int .i64 a3, .int .i64 a4, .int .i64 a5, .int .i64 a6]) (by simp [results, Tryd.results19, go_sem, r0, r1, r2, r3, r4, r5, r6]) rfl ?_
  exact ⟨_, _, _, _, _, _, _, rfl, B2.out.trans BE.out⟩
set_option maxRecDepth 4000 in
set_option maxHeartbeats 16000000 in
theorem FnOffers_walk (A : Option Addr) (n c : Nat) (w : World) (hc : Bytes w A n) (hN : Nums w) :
    Calls Tryd.prog 4 #[.slice A n c] w fun e w' => e = .returned (.bool true) ∧ Below w.heap.size w w' := by
  have HC := Lib.hid hc
  have HNU := Lib.hid hN
  clear hc hN
  by_cases hbig : (65536 : Int) < n
  · go_enter Tryd.func4, Tryd.ntmps4
    go_wp2_with (go_at_call 8; refine (rBig_any _ _ _ _).mono ?_; rintro e w1 ⟨rfl, rfl⟩)
    go_ret
    exact ⟨rfl, Below.refl _ _⟩
  · have B00 := Lib.hid (Below.refl w.heap.size w)
    go_enter Tryd.func4, Tryd.ntmps4
    go_wp2_with (go_at_call 8; refine (rBig_any _ _ _ _).mono ?_; rintro e w1 ⟨rfl, rfl⟩)
    refine (drawOpenOn_any A n c _ HC.out).mono ?_
    rintro e w1 ⟨lv, l1, dy, rfl, hl11, ol, bb⟩
    obtain ⟨Al, cl, rfl, hcl, _, _⟩ := ol.slice
    have Fw1 := Lib.hid ol.rd
    have Bw1 := Lib.hid (below_step B00.out bb)
    clear ol bb
    obtain ⟨n1, hn1⟩ : ∃ n, l1.length = n := ⟨_, rfl⟩
    rw [hn1] at hl11 hcl ⊢
    have HN := Lib.hid hn1
    clear hn1
    obtain ⟨ok, hok⟩ : ∃ x, openOK l1 dy = x := ⟨_, rfl⟩
    obtain ⟨X, hX⟩ : ∃ x, openP l1 dy = x := ⟨_, rfl⟩
    obtain ⟨S, hS, hS2⟩ := openAt l1 dy
    have HOK := Lib.hid hok
    have HX := Lib.hid hX
    have HS := Lib.hid hS
    have HS2 := Lib.hid hS2
    obtain ⟨m1, hm1⟩ : ∃ n, X.length = n := ⟨_, rfl⟩
    have hSm : S.length = m1 := by rw [← hm1, ← hX]; exact hS.len.symm
    have hm11 : m1 ≤ 1000000 := by rw [← hm1, ← hX]; exact openP_length _ _
    have HM := Lib.hid hm1
    have HSM := Lib.hid hSm
    clear hok hX hS hS2 hm1 hSm
    go_wp2_with fail
    refine (impl_OpenOn_any l1 n1 HN.out _ _ _ _ (by omega) Fw1.out).mono ?_
    rintro e w2 ⟨v2, rfl, ov, bb⟩
    rw [HX.out] at ov
    rw [HOK.out]
    obtain ⟨A2, c2, rfl, _, _, _⟩ := ov.slice
    rw [HM.out] at ov ⊢
    have OV := Lib.hid ov
    have Fw2 := Lib.hid (Fw1.out.past bb)
    have Bw2 := Lib.hid (below_step Bw1.out bb)
    clear ov bb
    go_wp2_with fail
    refine (spec_OpenOn_any l1 n1 HN.out _ _ _ _ (by omega) Fw2.out).mono ?_
    rintro e w3 ⟨v3, rfl, ov, bb⟩
    rw [HX.out] at ov
    rw [HOK.out]
    obtain ⟨A3, c3, rfl, _, _, _⟩ := ov.slice
    rw [HM.out] at ov ⊢
    have PV := Lib.hid ov.rd
    have RV := Lib.hid (OV.out.past bb (Nat.le_refl _)).rd
    have Fw3 := Lib.hid (Fw2.out.past bb)
    have Bw3 := Lib.hid (below_step Bw2.out bb)
    clear ov bb OV
    go_upto_region 6 with (fail)
    go_cut [57] from 30 (fun u wx => u = .bool false ∧ Below w3.heap.size w3 wx)
    case first => as_aux_lemma =>
      go_wp2_with (first | (go_at_call 12; refine (rInts_same X m1 HM.out _ _ _ _ _ (by omega) (RV.out.past (by repeat (first | assumption | exact Below.refl _ _ | apply bl_gw | apply bl_alloc | apply bl_drewN | apply bl_drew))) (PV.out.past (by repeat (first | assumption | exact Below.refl _ _ | apply bl_gw | apply bl_alloc | apply bl_drewN | apply bl_drew)))).mono ?_; rintro e w1 ⟨rfl, hb⟩; obtain ⟨p, rfl⟩ := below_gw hb; clear hb))
      go_meet
      exact ⟨by first | rfl | (simp; done), (by repeat (first | assumption | exact Below.refl _ _ | apply bl_gw | apply bl_alloc | apply bl_drewN | apply bl_drew))⟩
    case rest => as_aux_lemma =>
      obtain ⟨rfl, bb⟩ := hcut
      have RVc := Lib.hid (RV.out.past bb)
      have Fwc := Lib.hid (Fw3.out.past bb)
      have Bwc := Lib.hid (below_step Bw3.out bb)
      clear bb RV PV Fw1 Fw2 Fw3 Bw1 Bw2 Bw3
      go_wp2
      go_loopw [9, 10] (fun lv kv wr => ∃ k : Nat, k ≤ m1 ∧ kv = .int .i64 k ∧ lv = .int .i64 (lastAt S k) ∧ Below wc.heap.size wc wr) (fun _ kv _ => m1 - (intOf kv).toNat)
      case atStart => exact ⟨0, Nat.zero_le _, rfl, rfl, Below.refl _ _⟩
      case round =>
        obtain ⟨k, hk, rfl, rfl, hbel⟩ := hrel
        obtain ⟨wo, rfl⟩ : ∃ wo : World, wo = wr := ⟨_, rfl⟩
        have RVo := Lib.hid (RVc.out.past hbel)
        have Fwo := Lib.hid (Fwc.out.past hbel)
        have Bwo := Lib.hid (below_step Bwc.out hbel)
        have HBO := Lib.hid hbel
        clear hbel
        by_cases hlt : k < m1
        · have k1 : (k : Int) < m1 := by omega
          have k2 : (0 : Int) ≤ k := by omega
          have hkS : k < S.length := by rw [HSM.out]; exact hlt
          have hA : areContracts l1 = true := by exact HS2.out.resolve_left (by omega)
          obtain ⟨q, hq, hSq, hd1, hd2⟩ := HS.out.from_ k hkS
          have hpr := price_at HS.out hA hkS
          have hget := HS.out.at_ k hkS
          rw [HX.out] at hget
          obtain ⟨bx, ox, rfl, hbx, hcx⟩ := RVo.out.int_ (by rw [HM.out]; omega)
          have d0 := hcx k _ hget
          rw [HN.out] at hq
          obtain ⟨bk, off, rfl, hb, hcs⟩ := Fwo.out.contract (by rw [HN.out]; omega)
          obtain ⟨y, hy⟩ : ∃ y, S[k]! = y := ⟨_, rfl⟩
          obtain ⟨vp, hvp⟩ : ∃ v, lastAt S k = v := ⟨_, rfl⟩
          have hnext : lastAt S (k + 1) = y.price := by rw [← hy]; unfold lastAt; rw [if_neg (by omega)]; rfl
          rw [hy] at hSq hpr d0
          rw [hvp] at hpr ⊢
          have HSQ := Lib.hid hSq
          have HA := Lib.hid hA
          have HCS := Lib.hid hcs
          have HNX := Lib.hid hnext
          have D1 := Lib.hid hd1
          have D2 := Lib.hid hd2
          have HPR := Lib.hid hpr
          have DX := Lib.hid d0
          have HLT := Lib.hid hlt
          clear hSq hA hcs hnext hd1 hd2 hpr d0 hget hkS hcx hy hvp
          go_wp2
          go_loopw [9, 11] (fun lv iv wr => ∃ i : Nat, i ≤ n1 ∧ iv = .int .i64 i ∧ lv = .int .i64 (if q < i then y.price else vp) ∧ Below wo.heap.size wo wr) (fun _ iv _ => n1 - (intOf iv).toNat)
          case atStart => exact ⟨0, Nat.zero_le _, rfl, by rw [if_neg (by omega)], Below.refl _ _⟩
          case round =>
            obtain ⟨i, hi, rfl, rfl, hbel⟩ := hrel
            have hsz := hbel.size
            by_cases hil : i < n1
            · have hx : l1[i]? = some l1[i]! := by rw [getElem!_pos l1 i (by rw [HN.out]; exact hil)]; exact List.getElem?_eq_getElem _
              obtain ⟨c0, c1, c2', c3', c4, c5, c6⟩ := HCS.out i _ hx
              have hids := fun e => ids_eq HA.out (i := i) (q := q) (by rw [HN.out]; exact hil) (by rw [HN.out]; exact hq) e
              have d0 := DX.out
              rw [← hbel.cell hb] at c0 c3' c4 c5
              rw [← hbel.cell hbx] at d0
              have hbw : bk < wr.heap.size := by omega
              have hbw' : bx < wr.heap.size := by omega
              have i1 : (i : Int) < n1 := by omega
              have i2 : (0 : Int) ≤ i := by omega
              clear c1 c2' c6
              by_cases hid : l1[i]!.id = y.id
              · have hyq := HSQ.out
                obtain rfl : i = q := hids (by rw [hid, hyq])
                have hv : (if i < i then y.price else vp) = vp := if_neg (Nat.lt_irrefl i)
                have hv2 : (if i < i + 1 then y.price else vp) = y.price := if_pos (Nat.lt_succ_self i)
                have HV2 := Lib.hid hv2
                have hd1 := D1.out
                have hd2 := D2.out
                have hpr := HPR.out
                rw [hv]
                rw [← hyq] at c0 c3' c4 c5 hd1 hd2
                have HYQ := Lib.hid hyq
                clear hv hv2 hid hids hx hyq
                obtain ⟨y0, y1, y2, y3, y4, y5, y6⟩ := y
                dsimp only at c0 c3' c4 c5 hd1 hd2 hpr d0
                go_wp2
                refine wp_region_gw (by kernel_rfl) (by kernel_rfl) ?_
                repeat (first | go_big_quiet_step (fail) | quiet_step (fail))
                refine wpQuiet_nil ?_
                rintro _ ⟨pq, rfl⟩
                go_wp2
                go_roundw
                case rel => exact ⟨i + 1, by omega, by go_num, by rw [if_pos (Nat.lt_succ_self i)], (by repeat (first | assumption | exact Below.refl _ _ | apply bl_gw | apply bl_alloc | apply bl_drewN | apply bl_drew))⟩
                case measure => simp [intOf]; omega
              · have hne : i ≠ q := fun e => hid (by rw [e, HSQ.out])
                obtain ⟨v, hv⟩ : ∃ v, (if q < i then y.price else vp) = v := ⟨_, rfl⟩
                have hv2 : v = (if q < i + 1 then y.price else vp) := by
                  rw [← hv]
                  by_cases h : q < i
                  · rw [if_pos h, if_pos (by omega)]
                  · rw [if_neg h, if_neg (by omega)]
                rw [hv]
                have HV2 := Lib.hid hv2
                have hbq : (l1[i]!.id == y.id) = false := beq_eq_false_iff_ne.2 hid
                generalize l1[i]! = x at c0 c3' c4 c5 hid hbq
                obtain ⟨x0, x1, x2, x3, x4, x5, x6⟩ := x
                dsimp only at c0 c3' c4 c5 hid hbq
                clear hv hv2 hids hx hne
                go_wp2
                refine wp_region_gw (by kernel_rfl) (by kernel_rfl) ?_
                repeat (first | go_big_quiet_step (fail) | quiet_step (fail))
                refine wpQuiet_nil ?_
                rintro _ ⟨pq, rfl⟩
                go_wp2
                go_roundw
                case rel => exact ⟨i + 1, by omega, by go_num, by rw [HV2.out], (by repeat (first | assumption | exact Below.refl _ _ | apply bl_gw | apply bl_alloc | apply bl_drewN | apply bl_drew))⟩
                case measure => simp [intOf]; omega
            · obtain rfl : i = n1 := by omega
              have hv : (if q < i then y.price else vp) = lastAt S (k + 1) := by rw [if_pos hq, HNX.out]
              rw [hv]
              clear hv
              go_wp2
              go_roundw
              case rel => exact ⟨k + 1, by have := HLT.out; omega, by go_num, rfl, HBO.out.trans (hbel.mono HBO.out.size)⟩
              case measure => have := HLT.out; simp [intOf]; omega
        · go_wp2_with fail
          refine (drawSplit_any A n c _ (HC.out.past Bwo.out)).mono ?_
          rintro e w1 ⟨lv, l2, id2, t2, rfl, hl22, ol, bb⟩
          obtain ⟨Bl, dl, rfl, hdl, _, _⟩ := ol.slice
          have Ew1 := Lib.hid ol.rd
          have Bw1 := Lib.hid (below_step Bwo.out bb)
          clear ol bb RVo Fwo HBO RVc Fwc HS HS2
          obtain ⟨n2, hn2⟩ : ∃ n, l2.length = n := ⟨_, rfl⟩
          rw [hn2] at hl22 hdl ⊢
          have HN2 := Lib.hid hn2
          clear hn2
          obtain ⟨fine, hfine⟩ : ∃ x, splitOK l2 id2 t2 = x := ⟨_, rfl⟩
          obtain ⟨Y, hY⟩ : ∃ x, splitP l2 id2 t2 = x := ⟨_, rfl⟩
          obtain ⟨nx, hnx⟩ : ∃ x, splitI l2 id2 t2 = x := ⟨_, rfl⟩
          have HFI := Lib.hid hfine
          have HY := Lib.hid hY
          have HNX2 := Lib.hid hnx
          obtain ⟨m2, hm2⟩ : ∃ n, Y.length = n := ⟨_, rfl⟩
          have hm22 : m2 ≤ 1000000 := by rw [← hm2, ← hY]; exact splitP_length _ _ _
          have HM2 := Lib.hid hm2
          clear hfine hY hnx hm2
          go_wp2_with fail
          refine (impl_SplitContract_any l2 n2 HN2.out _ _ _ _ _ (by omega) Ew1.out).mono ?_
          rintro e w2 ⟨v2, rfl, ov, bb⟩
          rw [HY.out] at ov
          rw [HFI.out, HNX2.out]
          obtain ⟨A4, c4, rfl, _, _, _⟩ := ov.slice
          rw [HM2.out] at ov ⊢
          have OV := Lib.hid ov
          have Ew2 := Lib.hid (Ew1.out.past bb)
          have Bw2 := Lib.hid (below_step Bw1.out bb)
          clear ov bb
          go_wp2_with fail
          refine (spec_SplitContract_any l2 n2 HN2.out _ _ _ _ _ (by omega) Ew2.out).mono ?_
          rintro e w3 ⟨v3, rfl, ov, bb⟩
          rw [HY.out] at ov
          rw [HFI.out, HNX2.out]
          obtain ⟨A5, c5, rfl, _, _, _⟩ := ov.slice
          rw [HM2.out] at ov ⊢
          have PV := Lib.hid ov.rd
          have RV := Lib.hid (OV.out.past bb (Nat.le_refl _)).rd
          have Ew3 := Lib.hid (Ew2.out.past bb)
          have Bw3 := Lib.hid (below_step Bw2.out bb)
          clear ov bb OV
          go_upto_region 22 with (fail)
          go_cut [145] from 30 (fun u wx => u = .bool false ∧ Below w3.heap.size w3 wx)
          case first => as_aux_lemma =>
            go_wp2_with (first | (go_at_call 16; refine (rContracts_same Y m2 HM2.out _ _ _ _ _ (by omega) (RV.out.past (by repeat (first | assumption | exact Below.refl _ _ | apply bl_gw | apply bl_alloc | apply bl_drewN | apply bl_drew))) (PV.out.past (by repeat (first | assumption | exact Below.refl _ _ | apply bl_gw | apply bl_alloc | apply bl_drewN | apply bl_drew)))).mono ?_; rintro e w1 ⟨rfl, hb⟩; obtain ⟨p, rfl⟩ := below_gw hb; clear hb))
            go_meet
            exact ⟨by first | rfl | (simp; done), (by repeat (first | assumption | exact Below.refl _ _ | apply bl_gw | apply bl_alloc | apply bl_drewN | apply bl_drew))⟩
          case rest => as_aux_lemma =>
            obtain ⟨rfl, bb⟩ := hcut
            have RVc := Lib.hid (RV.out.past bb)
            have Ewc := Lib.hid (Ew3.out.past bb)
            have Bwc := Lib.hid (below_step Bw3.out bb)
            clear bb RV PV Ew1 Ew2 Ew3 Bw1 Bw2 Bw3
            go_upto_if 146 with (fail)
            go_cut [] from 30 (fun wx => Below w.heap.size w wx)
            case first => as_aux_lemma =>
              cases fine
              · go_wp2
                go_meet
                exact Bwc.out
              · obtain ⟨hA1, hA2, hneed⟩ := split_need HFI.out
                rw [HY.out] at hA2 hneed
                have HA1 := Lib.hid hA1
                have HA2 := Lib.hid hA2
                have hd4 : (neededP l2).length ≤ 4 := by unfold neededP; split <;> simp
                obtain ⟨D, hD⟩ : ∃ x, neededP l2 = x := ⟨_, rfl⟩
                rw [hD] at hneed hd4
                have HD := Lib.hid hD
                have HE := Lib.hid hneed
                obtain ⟨d7, hd7⟩ : ∃ n, D.length = n := ⟨_, rfl⟩
                rw [hd7] at hd4
                have HDL := Lib.hid hd7
                clear hA1 hA2 hneed hD hd7
                go_wp2_with fail
                refine (impl_NeededStock_any l2 n2 HN2.out _ _ _ (by omega) Ewc.out).mono ?_
                rintro e w4 ⟨v4, rfl, ov, bb⟩
                rw [HA1.out]
                rw [HD.out] at ov
                obtain ⟨A7, c7, rfl, _, _, _⟩ := ov.slice
                rw [HDL.out] at ov ⊢
                have OV := Lib.hid ov
                have RV4 := Lib.hid (RVc.out.past bb)
                have B4 := Lib.hid (below_step Bwc.out bb)
                clear ov bb
                go_wp2_with fail
                refine (impl_NeededStock_any Y m2 HM2.out _ _ _ (by omega) RV4.out).mono ?_
                rintro e w5 ⟨v5, rfl, ov, bb⟩
                rw [HA2.out]
                rw [HE.out] at ov
                obtain ⟨A8, c8, rfl, _, _, _⟩ := ov.slice
                rw [HDL.out] at ov ⊢
                have P5 := Lib.hid ov.rd
                have R5 := Lib.hid (OV.out.past bb (Nat.le_refl _)).rd
                have RV5 := Lib.hid (RV4.out.past bb)
                have B5 := Lib.hid (below_step B4.out bb)
                clear ov bb OV RV4
                go_wp2_with (first | (go_at_call 12; refine (rInts_same D d7 HDL.out _ _ _ _ _ (by omega) (R5.out.past (by repeat (first | assumption | exact Below.refl _ _ | apply bl_gw | apply bl_alloc | apply bl_drewN | apply bl_drew))) (P5.out.past (by repeat (first | assumption | exact Below.refl _ _ | apply bl_gw | apply bl_alloc | apply bl_drewN | apply bl_drew)))).mono ?_; rintro e w1 ⟨rfl, hb⟩; obtain ⟨p, rfl⟩ := below_gw hb; clear hb) | (go_at_call 18; refine (impl_AreContracts_any Y m2 HM2.out _ _ _ (by omega) (RV5.out.past (by repeat (first | assumption | exact Below.refl _ _ | apply bl_gw | apply bl_alloc | apply bl_drewN | apply bl_drew)))).mono ?_; rintro e w7 ⟨rfl, hb⟩; rw [HA2.out]; obtain ⟨p7, rfl⟩ := below_gw hb; clear hb))
                go_meet
                exact below_step B5.out (by repeat (first | assumption | exact Below.refl _ _ | apply bl_gw | apply bl_alloc | apply bl_drewN | apply bl_drew))
            case rest => as_aux_lemma =>
              have B6 := Lib.hid hcut
              clear hcut
              go_wp2_with fail
              refine (drawContractText_any A n c _ (HC.out.past B6.out)).mono ?_
              rintro e w4 ⟨a0, a1, a2, a3, a4, a5, a6, rfl, bb⟩
              have B7 := Lib.hid (below_step B6.out bb)
              clear bb RVc Ewc
              obtain ⟨cok, hcok⟩ : ∃ x, contractOK ⟨a0, a1, a2, a3, a4, a5, a6⟩ = x := ⟨_, rfl⟩
              obtain ⟨tx, htx⟩ : ∃ x, contractT ⟨a0, a1, a2, a3, a4, a5, a6⟩ = x := ⟨_, rfl⟩
              have HCO := Lib.hid hcok
              have HTX := Lib.hid htx
              have HNU4 := Lib.hid (HNU.out.past B7.out)
              clear hcok htx
              go_wp2_with (first
                | (go_at_call 7; refine (impl_ContractText_any _ _ _ _ _ _ _ _ (HNU4.out.past (by repeat (first | assumption | exact Below.refl _ _ | apply bl_gw | apply bl_alloc | apply bl_drewN | apply bl_drew)))).mono ?_; rintro e w5 ⟨rfl, hb⟩; rw [HCO.out, HTX.out]; obtain ⟨p5, rfl⟩ := below_gw hb; clear hb)
                | (go_at_call 5; refine (spec_ContractText_any _ _ _ _ _ _ _ _).mono ?_; rintro e w5 ⟨rfl, hb⟩; rw [HCO.out, HTX.out]; obtain ⟨p5, rfl⟩ := below_gw hb; clear hb)
                | (go_at_call 20; refine (IsContract_any _ _ _ _ _ _ _ _).mono ?_; rintro e w5 ⟨rfl, hb⟩; rw [HCO.out]; obtain ⟨p5, rfl⟩ := below_gw hb; clear hb))
              go_ret
              exact ⟨by first | rfl | (simp; done), below_step B7.out (by repeat (first | assumption | exact Below.refl _ _ | apply bl_gw | apply bl_alloc | apply bl_drewN | apply bl_drew))⟩
end Go.Proofs.YtcljfdpjlkaagaaDoor
