/- The law FnShips: the walk. A rota gives days only to ships that may lie there, ships that are not late are full, and all tons are those of the ships. -/
import Derived.Test.YtggdcjajiaeklaaLawShipA
import Derived.Test.YtggdcjajiaeklaaDrawQ
import Derived.Test.YtggdcjajiaeklaaLawR
namespace Go.Proofs.Ytggdcjajiaeklaa
open Go.RowKit
theorem free_at {l : List Ship} {wt : List Int} : freeP l wt = ((negTo (rotaD l wt wt.length) (quayP l wt).length : Nat) : Int) := by
  unfold freeP
  by_cases h : rotaOK l wt = true
  · rw [if_pos h, quay_len h]
  · rw [if_neg h]
    unfold quayP
    rw [if_neg h]
    rfl
theorem tons_no {l : List Ship} {wt : List Int} (h : rotaOK l wt = false) : tonsP l wt = 0 := by
  unfold tonsP
  rw [h]
  rfl
theorem quay_ok_of {l : List Ship} {wt : List Int} {k : Nat} (h : k < (quayP l wt).length) : rotaOK l wt = true ∧ k < wt.length := by
  by_cases hq : rotaOK l wt = true
  · rw [quay_len hq] at h
    exact ⟨hq, h⟩
  · unfold quayP at h
    rw [if_neg hq] at h
    simp at h
/-- Two lists that can be read. -/
structure TwoS (w : World) (As At : Option Addr) (l : List Ship) (t : List Int) : Prop where
  sl : Sl encShip w w.heap.size As l
  st : Sl encInt w w.heap.size At t
theorem TwoS.past {w w' : World} {As At : Option Addr} {l : List Ship} {t : List Int} (h : TwoS w As At l t) (hb : Below w.heap.size w w') : TwoS w' As At l t :=
  ⟨h.sl.past hb, h.st.past hb⟩
set_option maxRecDepth 4000 in
set_option maxHeartbeats 16000000 in
theorem FnShips_walk (A : Option Addr) (n c : Nat) (w : World) (hc : Bytes w A n) :
    Calls Try.prog 13 #[.slice A n c] w fun e w' => e = .returned (.bool true) ∧ Below w.heap.size w w' := by
  have HC := Lib.hid hc
  clear hc
  by_cases hbig : (65536 : Int) < n
  · go_enter Try.func13, Try.ntmps13
    go_wp2_with (go_at_call 44; refine (rBig_any _ _ _ _).mono ?_; rintro e w1 ⟨rfl, rfl⟩)
    go_ret
    exact ⟨rfl, Below.refl _ _⟩
  · have B00 := Lib.hid (Below.refl w.heap.size w)
    go_enter Try.func13, Try.ntmps13
    go_wp2_with (go_at_call 44; refine (rBig_any _ _ _ _).mono ?_; rintro e w1 ⟨rfl, rfl⟩)
    refine (drawQuayRota_any A n c _ HC.out).mono ?_
    rintro e w1 ⟨lv, tv, l1, t1, rfl, hl11, ht402, ol, ot, bb⟩
    obtain ⟨Al, cl, rfl, hcl, _, _⟩ := ol.slice
    obtain ⟨At, ct, rfl, hct, _, _⟩ := ot.slice
    have Fw1 := Lib.hid (TwoS.mk ol.rd ot.rd)
    have Bw1 := Lib.hid (below_step B00.out bb)
    clear ol ot bb
    obtain ⟨n1, hn1⟩ : ∃ n, l1.length = n := ⟨_, rfl⟩
    obtain ⟨r1, hr1⟩ : ∃ n, t1.length = n := ⟨_, rfl⟩
    rw [hn1] at hl11 hcl ⊢
    rw [hr1] at ht402 hct ⊢
    have HN := Lib.hid hn1
    have HR := Lib.hid hr1
    clear hn1 hr1
    obtain ⟨ok, hok⟩ : ∃ x, rotaOK l1 t1 = x := ⟨_, rfl⟩
    obtain ⟨X, hX⟩ : ∃ x, quayP l1 t1 = x := ⟨_, rfl⟩
    obtain ⟨m1, hm1⟩ : ∃ n, X.length = n := ⟨_, rfl⟩
    have hm402 : m1 ≤ 402 := by
      rw [← hm1, ← hX]
      cases h : rotaOK l1 t1 with
      | true => rw [quay_len h, HR.out]; exact ht402
      | false => unfold quayP; rw [h]; simp
    have hmr : ok = true → m1 = r1 := fun h => by rw [← hm1, ← hX, quay_len (by rw [hok, h]), HR.out]
    have HOK := Lib.hid hok
    have HX := Lib.hid hX
    have HM := Lib.hid hm1
    have HMR := Lib.hid hmr
    clear hok hX hm1 hmr
    go_wp2_with fail
    refine (impl_QuayRota_any l1 t1 n1 r1 HN.out HR.out _ _ _ _ _ hcl (by omega) (by omega) Fw1.out.sl Fw1.out.st).mono ?_
    rintro e w2 ⟨v2, rfl, ov, bb⟩
    rw [HX.out] at ov
    rw [HOK.out]
    obtain ⟨A2, c2, rfl, _, _, _⟩ := ov.slice
    rw [HM.out] at ov ⊢
    have OV := Lib.hid ov
    have Fw2 := Lib.hid (Fw1.out.past bb)
    have Bw2 := Lib.hid (below_step Bw1.out bb)
    clear ov bb
    go_wp2_with fail
    refine (spec_QuayRota_any l1 t1 n1 r1 HN.out HR.out _ _ _ _ _ hcl (by omega) (by omega) Fw2.out.sl Fw2.out.st).mono ?_
    rintro e w3 ⟨v3, rfl, ov, bb⟩
    rw [HX.out] at ov
    rw [HOK.out]
    obtain ⟨A3, c3, rfl, _, _, _⟩ := ov.slice
    rw [HM.out] at ov ⊢
    have PV := Lib.hid ov.rd
    have RV := Lib.hid (OV.out.past bb (Nat.le_refl _)).rd
    have Fw3 := Lib.hid (Fw2.out.past bb)
    have Bw3 := Lib.hid (below_step Bw2.out bb)
    clear ov bb OV
    go_upto_region 6 with (fail)
    go_cut [65] from 28 (fun u wx => u = .bool false ∧ Below w3.heap.size w3 wx)
    case first => as_aux_lemma =>
      cases ok
      · go_wp2_with (first | (go_at_call 46; refine (rInts_same X m1 HM.out _ _ _ _ _ (by omega) (RV.out.past (by repeat (first | assumption | exact Below.refl _ _ | apply bl_gw | apply bl_alloc | apply bl_drewN | apply bl_drew))) (PV.out.past (by repeat (first | assumption | exact Below.refl _ _ | apply bl_gw | apply bl_alloc | apply bl_drewN | apply bl_drew)))).mono ?_; rintro e w1 ⟨rfl, hb⟩; obtain ⟨p, rfl⟩ := below_gw hb; clear hb))
        go_meet
        exact ⟨by first | rfl | (simp; done), (by repeat (first | assumption | exact Below.refl _ _ | apply bl_gw | apply bl_alloc | apply bl_drewN | apply bl_drew))⟩
      · obtain rfl := HMR.out rfl
        go_wp2_with (first | (go_at_call 46; refine (rInts_same X m1 HM.out _ _ _ _ _ (by omega) (RV.out.past (by repeat (first | assumption | exact Below.refl _ _ | apply bl_gw | apply bl_alloc | apply bl_drewN | apply bl_drew))) (PV.out.past (by repeat (first | assumption | exact Below.refl _ _ | apply bl_gw | apply bl_alloc | apply bl_drewN | apply bl_drew)))).mono ?_; rintro e w1 ⟨rfl, hb⟩; obtain ⟨p, rfl⟩ := below_gw hb; clear hb))
        go_meet
        exact ⟨by first | rfl | (simp; done), (by repeat (first | assumption | exact Below.refl _ _ | apply bl_gw | apply bl_alloc | apply bl_drewN | apply bl_drew))⟩
    case rest => as_aux_lemma =>
      obtain ⟨rfl, bb⟩ := hcut
      have RVc := Lib.hid (RV.out.past bb)
      have Fwc := Lib.hid (Fw3.out.past bb)
      have Bwc := Lib.hid (below_step Bw3.out bb)
      clear bb RV PV Fw1 Fw2 Fw3 Bw1 Bw2 Bw3
      obtain ⟨D, hD⟩ : ∃ x, rotaD l1 t1 t1.length = x := ⟨_, rfl⟩
      have HD := Lib.hid hD
      clear hD
      go_wp2
      go_loopw [9, 10] (fun fv kv wr => ∃ k : Nat, k ≤ m1 ∧ kv = .int .i64 k ∧ fv = .int .i64 ((negTo D k : Nat) : Int) ∧ Below wc.heap.size wc wr) (fun _ kv _ => m1 - (intOf kv).toNat)
      case atStart => exact ⟨0, Nat.zero_le _, rfl, rfl, Below.refl _ _⟩
      case round =>
        obtain ⟨k, hk, rfl, rfl, hbel⟩ := hrel
        obtain ⟨wo, rfl⟩ : ∃ wo : World, wo = wr := ⟨_, rfl⟩
        have RVo := Lib.hid (RVc.out.past hbel)
        have Fwo := Lib.hid (Fwc.out.past hbel)
        have Bwo := Lib.hid (below_step Bwc.out hbel)
        have HBO := Lib.hid hbel
        clear hbel
        have hng := negTo_le D k
        obtain ⟨q, hq⟩ : ∃ q, negTo D k = q := ⟨_, rfl⟩
        rw [hq] at hng ⊢
        have HQ := Lib.hid hq
        clear hq
        by_cases hlt : k < m1
        · have k1 : (k : Int) < m1 := by omega
          have k2 : (0 : Int) ≤ k := by omega
          obtain ⟨hro, hkr⟩ := quay_ok_of (l := l1) (wt := t1) (k := k) (by rw [HX.out, HM.out]; exact hlt)
          obtain ⟨hget, hday⟩ := quay_day hro hkr
          rw [HX.out] at hget
          have hDk : D[k]! = rotaB l1 t1 k := by rw [← HD.out]; exact rotaD_at l1 t1 hkr
          have hnext : negTo D (k + 1) = if rotaB l1 t1 k < 0 then q + 1 else q := by rw [negTo_succ, hDk, HQ.out]
          obtain ⟨bx, ox, rfl, hbx, hcx⟩ := RVo.out.int_ (by rw [HM.out]; omega)
          have d0 := hcx k _ hget
          obtain ⟨rid, hrid⟩ : ∃ x, ridAt l1 (rotaB l1 t1 k) = x := ⟨_, rfl⟩
          rw [hrid] at d0 hday
          clear hcx hget hDk hrid hro hkr
          rcases hday with ⟨h1, rfl⟩ | ⟨h1, h2, h3, h4, h5⟩
          · rw [if_pos h1] at hnext
            have HNX := Lib.hid hnext
            clear hnext h1
            have e1 : IntKind.i64.wrap ((q : Int) + 1) = (q : Int) + 1 := IntWalk.i64_in _ (by omega)
            go_wp2
            go_roundw
            case rel => exact ⟨k + 1, by omega, by go_num, by rw [HNX.out]; go_num, HBO.out⟩
            case measure => simp [intOf]; omega
          · rw [if_neg (by omega)] at hnext
            have HNX := Lib.hid hnext
            have H4 := Lib.hid h4
            have H5 := Lib.hid (decide_eq_true h5)
            have b0 : (rid == 0) = false := beq_eq_false_iff_ne.2 (by omega)
            have b1 : ¬ rid = 0 := by omega
            clear hnext h1 h4 h5 h2 h3
            go_wp2_with fail
            refine (impl_DaysAtQuay_any l1 t1 n1 r1 HN.out HR.out _ _ _ _ _ _ hcl (by omega) (by omega) Fwo.out.sl Fwo.out.st).mono ?_
            rintro e w4 ⟨v4, rfl, ov, bb⟩
            rw [H4.out]
            obtain ⟨A4, c4, rfl, _, _, _⟩ := ov.slice
            have hdl := daysP_length l1 t1 rid
            have RD := Lib.hid ov.rd
            have B4 := Lib.hid bb
            clear ov bb
            go_wp2_with (go_at_call 47; refine (rHas_any (daysP l1 t1 rid) _ rfl _ _ _ _ (by omega) (RD.out.past (by repeat (first | assumption | exact Below.refl _ _ | apply bl_gw | apply bl_alloc | apply bl_drewN | apply bl_drew)))).mono ?_; rintro e w5 ⟨rfl, hb⟩; rw [H5.out]; have HB5 := Lib.hid hb; clear hb)
            go_roundw
            case rel => exact ⟨k + 1, by omega, by go_num, by rw [HNX.out], HBO.out.trans ((below_step B4.out HB5.out).mono HBO.out.size)⟩
            case measure => simp [intOf]; omega
        · obtain rfl : k = m1 := by omega
          have hfree : freeP l1 t1 = (q : Int) := by rw [free_at, HX.out, HM.out, HD.out, HQ.out]
          have HFR := Lib.hid hfree
          clear hfree HBO RVo RVc
          go_wp2_with fail
          refine (impl_FreeDays_any l1 t1 n1 r1 HN.out HR.out _ _ _ _ _ hcl (by omega) (by omega) Fwo.out.sl Fwo.out.st).mono ?_
          rintro e w1 ⟨rfl, bb⟩
          rw [HFR.out, HOK.out]
          have Fw1 := Lib.hid (Fwo.out.past bb)
          have Bw1 := Lib.hid (below_step Bwo.out bb)
          clear bb
          go_wp2_with fail
          refine (spec_FreeDays_any l1 t1 n1 r1 HN.out HR.out _ _ _ _ _ hcl (by omega) (by omega) Fw1.out.sl Fw1.out.st).mono ?_
          rintro e w2 ⟨rfl, bb⟩
          rw [HFR.out, HOK.out]
          have Fw2 := Lib.hid (Fw1.out.past bb)
          have Bw2 := Lib.hid (below_step Bw1.out bb)
          clear bb
          go_upto_region 19 with (fail)
          go_cut [126] from 28 (fun u wx => u = .bool false ∧ wx = w2)
          case first => as_aux_lemma =>
            go_wp2
            go_meet
            exact ⟨by first | rfl | (simp; done), rfl⟩
          case rest => as_aux_lemma =>
            obtain ⟨rfl, rfl⟩ := hcut
            obtain ⟨Y, hY⟩ : ∃ x, lateP l1 t1 = x := ⟨_, rfl⟩
            have hly : Y.length ≤ 1000000 := by rw [← hY]; exact lateP_length _ _
            have HY := Lib.hid hY
            obtain ⟨y1, hy1⟩ : ∃ n, Y.length = n := ⟨_, rfl⟩
            rw [hy1] at hly
            have HYL := Lib.hid hy1
            clear hY hy1
            go_wp2_with fail
            refine (impl_LateShips_any l1 t1 n1 r1 HN.out HR.out _ _ _ _ _ hcl (by omega) (by omega) Fw2.out.sl Fw2.out.st).mono ?_
            rintro e w3 ⟨v3, rfl, ov, bb⟩
            rw [HY.out] at ov
            rw [HOK.out]
            obtain ⟨A4, c4, rfl, _, _, _⟩ := ov.slice
            rw [HYL.out] at ov ⊢
            have OV := Lib.hid ov
            have Fw3 := Lib.hid (Fw2.out.past bb)
            have Bw3 := Lib.hid (below_step Bw2.out bb)
            clear ov bb
            go_wp2_with fail
            refine (spec_LateShips_any l1 t1 n1 r1 HN.out HR.out _ _ _ _ _ hcl (by omega) (by omega) Fw3.out.sl Fw3.out.st).mono ?_
            rintro e w4 ⟨v4, rfl, ov, bb⟩
            rw [HY.out] at ov
            rw [HOK.out]
            obtain ⟨A5, c5, rfl, _, _, _⟩ := ov.slice
            rw [HYL.out] at ov ⊢
            have PV := Lib.hid ov.rd
            have RV := Lib.hid (OV.out.past bb (Nat.le_refl _)).rd
            have Fw4 := Lib.hid (Fw3.out.past bb)
            have Bw4 := Lib.hid (below_step Bw3.out bb)
            clear ov bb OV
            go_upto_region 23 with (fail)
            go_cut [152] from 28 (fun u wx => u = .bool false ∧ Below w4.heap.size w4 wx)
            case first => as_aux_lemma =>
              go_wp2_with (first | (go_at_call 46; refine (rInts_same Y y1 HYL.out _ _ _ _ _ (by omega) (RV.out.past (by repeat (first | assumption | exact Below.refl _ _ | apply bl_gw | apply bl_alloc | apply bl_drewN | apply bl_drew))) (PV.out.past (by repeat (first | assumption | exact Below.refl _ _ | apply bl_gw | apply bl_alloc | apply bl_drewN | apply bl_drew)))).mono ?_; rintro e w1 ⟨rfl, hb⟩; obtain ⟨p, rfl⟩ := below_gw hb; clear hb))
              go_meet
              exact ⟨by first | rfl | (simp; done), (by repeat (first | assumption | exact Below.refl _ _ | apply bl_gw | apply bl_alloc | apply bl_drewN | apply bl_drew))⟩
            case rest => as_aux_lemma =>
              obtain ⟨rfl, bb⟩ := hcut
              have RVc := Lib.hid (RV.out.past bb)
              have Fwc := Lib.hid (Fw4.out.past bb)
              have Bwc := Lib.hid (below_step Bw4.out bb)
              clear bb RV PV
              obtain ⟨T, hT⟩ : ∃ x, tonsP l1 t1 = x := ⟨_, rfl⟩
              have HT := Lib.hid hT
              clear hT
              go_wp2_with fail
              refine (impl_TonsInAll_any l1 t1 n1 r1 HN.out HR.out _ _ _ _ _ hcl (by omega) (by omega) Fwc.out.sl Fwc.out.st).mono ?_
              rintro e w5 ⟨rfl, bb⟩
              rw [HT.out, HOK.out]
              have RV5 := Lib.hid (RVc.out.past bb)
              have Fw5 := Lib.hid (Fwc.out.past bb)
              have Bw5 := Lib.hid (below_step Bwc.out bb)
              clear bb RVc
              go_wp2_with fail
              refine (spec_TonsInAll_any l1 t1 n1 r1 HN.out HR.out _ _ _ _ _ hcl (by omega) (by omega) Fw5.out.sl Fw5.out.st).mono ?_
              rintro e w6 ⟨rfl, bb⟩
              rw [HT.out, HOK.out]
              have RV6 := Lib.hid (RV5.out.past bb)
              have Fw6 := Lib.hid (Fw5.out.past bb)
              have Bw6 := Lib.hid (below_step Bw5.out bb)
              clear bb RV5
              go_upto_region 27 with (fail)
              go_cut [172] from 28 (fun u wx => u = .bool false ∧ wx = w6)
              case first => as_aux_lemma =>
                go_wp2
                go_meet
                exact ⟨by first | rfl | (simp; done), rfl⟩
              case rest => as_aux_lemma =>
                obtain ⟨rfl, rfl⟩ := hcut
                obtain ⟨S, hS⟩ : ∃ x, rotaS l1 t1 t1.length = x := ⟨_, rfl⟩
                have HS := Lib.hid hS
                clear hS
                go_wp2
                go_loopw [21, 25] (fun tv iv wr => ∃ i : Nat, i ≤ n1 ∧ (i = 0 ∨ ok = true) ∧ iv = .int .i64 i ∧ tv = .int .i64 (T - sumTo l1 S i) ∧ Below wc.heap.size wc wr) (fun _ iv _ => n1 - (intOf iv).toNat)
                case atStart => exact ⟨0, Nat.zero_le _, Or.inl rfl, rfl, by rw [show sumTo l1 S 0 = 0 from rfl]; simp, Below.refl _ _⟩
                case round =>
                  obtain ⟨i, hi, hio, rfl, rfl, hbel⟩ := hrel
                  have hsz := hbel.size
                  obtain ⟨tv, htv⟩ : ∃ z, T - sumTo l1 S i = z := ⟨_, rfl⟩
                  rw [htv]
                  by_cases hin : i < n1 ∧ ok = true
                  · obtain ⟨hil, rfl⟩ := hin
                    have hro := HOK.out
                    have hil' : i < l1.length := by rw [HN.out]; exact hil
                    have hx := some_at (l := l1) (i := i) hil'
                    obtain ⟨bk, off, rfl, hb, hcs⟩ := Fw6.out.sl.ship (by rw [HN.out]; omega)
                    have hcx := hcs i _ hx
                    obtain ⟨hLO, hLP⟩ := load_all hro hil'
                    obtain ⟨g1, g2, g3, g4⟩ := load_rng hro t1.length hil'
                    have hsr := sum_rng hro i (by omega)
                    have hsn := sum_rng hro l1.length (Nat.le_refl _)
                    have htn := tons_left hro
                    have hlate := late_iff hro hil'
                    have hss := sumTo_succ l1 S i
                    rw [HS.out] at hLP g2 g3 hsr hsn htn hlate
                    rw [HT.out] at htn
                    rw [← htn] at hsn
                    rw [HN.out] at hsn
                    rw [HY.out] at hlate
                    obtain ⟨ld, hld⟩ : ∃ z, S[i]!.loaded = z := ⟨_, rfl⟩
                    rw [hld] at hLP g2 g3 hlate hss
                    generalize l1[i]! = x at hcx hLO hLP g1 g2 g3 g4 hlate hss
                    obtain ⟨x0, x1, x2, x3, x4, x5⟩ := x
                    dsimp only at hcx hLO hLP g1 g2 g3 g4 hlate hss
                    have hT24 : 0 ≤ T ∧ T ≤ 33000 := by omega
                    have hs24 : 0 ≤ sumTo l1 S i ∧ sumTo l1 S i ≤ 33000 := by omega
                    have htr : -33000 ≤ tv ∧ tv ≤ 33000 := by omega
                    have e1 : IntKind.i64.wrap (tv - ld) = tv - ld := IntWalk.i64_in _ (by omega)
                    have e2 : IntKind.i64.wrap (tv - ld + x5) = tv - ld + x5 := IntWalk.i64_in _ (by omega)
                    have hnext : tv - ld + x5 = T - sumTo l1 S (i + 1) := by omega
                    have c0 : wr.cell? ⟨bk, off + i * 6, none⟩ = some (.int .i64 x0) := by rw [hbel.cell hb]; exact hcx.1
                    have HCX := Lib.hid (fun (W : World) (hW : Below wc.heap.size wc W) => (show W.cell? ⟨bk, off + i * 6, none⟩ = some (.int .i64 x0) ∧ W.cell? ⟨bk, off + i * 6 + 4, none⟩ = some (.int .i64 x4) ∧ W.cell? ⟨bk, off + i * 6 + 5, none⟩ = some (.int .i64 x5) from by
                      rw [hW.cell hb, hW.cell hb, hW.cell hb]
                      exact ⟨hcx.1, hcx.2.2.2.2.1, hcx.2.2.2.2.2⟩))
                    have HBE := Lib.hid hbel
                    have HLO := Lib.hid hLO
                    have HLP := Lib.hid hLP
                    have HLA := Lib.hid hlate
                    have HNX := Lib.hid hnext
                    have hbw : bk < wr.heap.size := by omega
                    have i1 : (i : Int) < n1 := by omega
                    have i2 : (0 : Int) ≤ i := by omega
                    clear hro hil' hx hcs hcx hLO hLP hsr hsn htn hlate hss hld hnext hT24 hs24 hbel htv hio
                    go_wp2_with fail
                    refine (impl_LoadedBy_any l1 t1 n1 r1 HN.out HR.out _ _ _ _ x0 4000 _ hcl hct (by omega) (by omega) (Fw6.out.sl.past HBE.out) (Fw6.out.st.past HBE.out)).mono ?_
                    rintro e w7 ⟨rfl, bb⟩
                    rw [HLO.out, HLP.out]
                    have HB7 := Lib.hid (below_step HBE.out bb)
                    have hlt7 : bk < w7.heap.size := by have := HB7.out.size; omega
                    clear bb c0
                    obtain ⟨c0, c4', c5'⟩ := HCX.out w7 HB7.out
                    by_cases hh : ld < x4
                    · have hlt := HLA.out
                      rw [decide_eq_true hh] at hlt
                      have HLT := Lib.hid hlt
                      clear hlt
                      go_wp2
                      refine wp_region_gw (by kernel_rfl) (by kernel_rfl) ?_
                      repeat (first | go_big_quiet_step ((go_at_call 47; exact quiet_gw (v := .bool true) ((rHas_any Y y1 HYL.out _ _ _ _ (by omega) ((RV6.out.past HB7.out).past (by repeat (first | assumption | exact Below.refl _ _ | apply bl_gw | apply bl_alloc | apply bl_drewN | apply bl_drew)))).mono (fun _ _ ⟨he, hb⟩ => ⟨by rw [he, HLT.out], hb⟩)))) | quiet_step ((go_at_call 47; exact quiet_gw (v := .bool true) ((rHas_any Y y1 HYL.out _ _ _ _ (by omega) ((RV6.out.past HB7.out).past (by repeat (first | assumption | exact Below.refl _ _ | apply bl_gw | apply bl_alloc | apply bl_drewN | apply bl_drew)))).mono (fun _ _ ⟨he, hb⟩ => ⟨by rw [he, HLT.out], hb⟩)))))
                      refine wpQuiet_nil ?_
                      rintro _ ⟨pq, rfl⟩
                      go_wp2
                      go_roundw
                      case rel => exact ⟨i + 1, by omega, Or.inr trivial, by go_num, by rw [HNX.out], below_step HB7.out (by repeat (first | assumption | exact Below.refl _ _ | apply bl_gw | apply bl_alloc | apply bl_drewN | apply bl_drew))⟩
                      case measure => simp [intOf]; omega
                    · have hlt := HLA.out
                      rw [decide_eq_false hh] at hlt
                      have HLT := Lib.hid hlt
                      clear hlt
                      go_wp2
                      refine wp_region_gw (by kernel_rfl) (by kernel_rfl) ?_
                      repeat (first | go_big_quiet_step ((go_at_call 47; exact quiet_gw (v := .bool false) ((rHas_any Y y1 HYL.out _ _ _ _ (by omega) ((RV6.out.past HB7.out).past (by repeat (first | assumption | exact Below.refl _ _ | apply bl_gw | apply bl_alloc | apply bl_drewN | apply bl_drew)))).mono (fun _ _ ⟨he, hb⟩ => ⟨by rw [he, HLT.out], hb⟩)))) | quiet_step ((go_at_call 47; exact quiet_gw (v := .bool false) ((rHas_any Y y1 HYL.out _ _ _ _ (by omega) ((RV6.out.past HB7.out).past (by repeat (first | assumption | exact Below.refl _ _ | apply bl_gw | apply bl_alloc | apply bl_drewN | apply bl_drew)))).mono (fun _ _ ⟨he, hb⟩ => ⟨by rw [he, HLT.out], hb⟩)))))
                      refine wpQuiet_nil ?_
                      rintro _ ⟨pq, rfl⟩
                      go_wp2
                      go_roundw
                      case rel => exact ⟨i + 1, by omega, Or.inr trivial, by go_num, by rw [HNX.out], below_step HB7.out (by repeat (first | assumption | exact Below.refl _ _ | apply bl_gw | apply bl_alloc | apply bl_drewN | apply bl_drew))⟩
                      case measure => simp [intOf]; omega
                  · have hend : ok = true → i = n1 ∧ tv = 0 := fun h => by
                      have hro : rotaOK l1 t1 = true := by rw [HOK.out, h]
                      have hi1 : i = n1 := by
                        rcases Nat.lt_or_ge i n1 with h1 | h1
                        · exact absurd ⟨h1, h⟩ hin
                        · omega
                      have htn := tons_left hro
                      rw [HS.out, HT.out, HN.out] at htn
                      exact ⟨hi1, by rw [← htv, htn, hi1]; omega⟩
                    have HEND := Lib.hid hend
                    have HBE := Lib.hid hbel
                    clear hend hbel htv
                    cases ok
                    · by_cases hil : (i : Int) < n1
                      all_goals
                        go_wp2
                        go_ret
                        exact ⟨rfl, below_step Bw6.out HBE.out⟩
                    · obtain ⟨rfl, rfl⟩ := HEND.out rfl
                      go_wp2
                      go_ret
                      exact ⟨rfl, below_step Bw6.out HBE.out⟩
end Go.Proofs.Ytggdcjajiaeklaa
