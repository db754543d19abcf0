/- The law FnBitterns: the walk. A pour keeps the kilograms, the mean is no more than the bitterest, and the text is the reference's. -/
import Derived.Test.YtcajgadgdjopdaaDoorLawBitA
import Derived.Test.YtcajgadgdjopdaaDoorLawBitR
import Derived.Test.YtcajgadgdjopdaaDoorDrawB
import Derived.Test.YtcajgadgdjopdaaDoorBitternG
namespace Go.Proofs.YtcajgadgdjopdaaDoor
open Go.RowKit
set_option maxRecDepth 4000 in
set_option maxHeartbeats 16000000 in
theorem FnBitterns_walk (A : Option Addr) (n c : Nat) (w : World) (hc : Bytes w A n) (hN : Nums w) :
    Calls Tryd.prog 3 #[.slice A n c] w fun e w' => e = .returned (.bool true) ∧ Below w.heap.size w w' := by
  have HC := Lib.hid hc
  have HNU := Lib.hid hN
  clear hc hN
  by_cases hbig : (65536 : Int) < n
  · go_enter Tryd.func3, Tryd.ntmps3
    go_wp2_with (go_at_call 4; refine (vBig_any _ _ _ _).mono ?_; rintro e w1 ⟨rfl, rfl⟩)
    go_ret
    exact ⟨rfl, Below.refl _ _⟩
  · have B00 := Lib.hid (Below.refl w.heap.size w)
    go_enter Tryd.func3, Tryd.ntmps3
    go_wp2_with (go_at_call 4; refine (vBig_any _ _ _ _).mono ?_; rintro e w1 ⟨rfl, rfl⟩)
    refine (drawPourCask_any A n c _ HC.out).mono ?_
    rintro e w1 ⟨lv, l1, fr, to, rfl, hl11, ol, bb⟩
    obtain ⟨Al, cl, rfl, hcl, _, _⟩ := ol.slice
    have Fw1 := Lib.hid ol.rd
    have Bw1 := Lib.hid (below_step B00.out bb)
    clear ol bb
    obtain ⟨n1, hn1⟩ : ∃ n, l1.length = n := ⟨_, rfl⟩
    rw [hn1] at hl11 hcl ⊢
    have HN := Lib.hid hn1
    clear hn1
    obtain ⟨told, htold⟩ : ∃ x, pourOK l1 fr to = x := ⟨_, rfl⟩
    obtain ⟨Y, hY⟩ : ∃ x, pourP l1 fr to = x := ⟨_, rfl⟩
    have hpo : told = true → Poured l1 Y := fun h => by rw [← hY]; exact poured (htold.trans h)
    have hm22 : Y.length ≤ 8 := by
      rw [← hY]
      unfold pourP
      split
      · rename_i h
        unfold pourOK at h
        rw [Bool.and_eq_true] at h
        exact areBitterns_len h.2
      · simp
    obtain ⟨m1, hm1⟩ : ∃ n, Y.length = n := ⟨_, rfl⟩
    rw [hm1] at hm22
    have HTO := Lib.hid htold
    have HY := Lib.hid hY
    have HM := Lib.hid hm1
    have HPO := Lib.hid hpo
    clear htold hY hm1 hpo
    go_wp2_with fail
    refine (impl_PourCask_any l1 n1 HN.out _ _ _ _ _ (by omega) Fw1.out).mono ?_
    rintro e w2 ⟨v2, rfl, ov, bb⟩
    rw [HY.out] at ov
    rw [HTO.out]
    obtain ⟨A2, c2, rfl, _, _, _⟩ := ov.slice
    rw [HM.out] at ov ⊢
    have OV := Lib.hid ov
    have Fw2 := Lib.hid (Fw1.out.past bb)
    have Bw2 := Lib.hid (below_step Bw1.out bb)
    clear ov bb
    go_wp2_with fail
    refine (spec_PourCask_any l1 n1 HN.out _ _ _ _ _ (by omega) Fw2.out).mono ?_
    rintro e w3 ⟨v3, rfl, ov, bb⟩
    rw [HY.out] at ov
    rw [HTO.out]
    obtain ⟨A3, c3, rfl, _, _, _⟩ := ov.slice
    rw [HM.out] at ov ⊢
    have PV := Lib.hid ov.rd
    have RV := Lib.hid (OV.out.past bb (Nat.le_refl _)).rd
    have Fw3 := Lib.hid (Fw2.out.past bb)
    have Bw3 := Lib.hid (below_step Bw2.out bb)
    clear ov bb OV
    go_upto_region 6 with (fail)
    go_cut [70] from 40 (fun u wx => u = .bool false ∧ Below w3.heap.size w3 wx)
    case first => as_aux_lemma =>
      go_wp2_with (first | (go_at_call 8; refine (vBitterns_same Y m1 HM.out _ _ _ _ _ (by omega) (RV.out.past (by repeat (first | assumption | exact Below.refl _ _ | apply bl_gw | apply bl_alloc | apply bl_drewN | apply bl_drew))) (PV.out.past (by repeat (first | assumption | exact Below.refl _ _ | apply bl_gw | apply bl_alloc | apply bl_drewN | apply bl_drew)))).mono ?_; rintro e w1 ⟨rfl, hb⟩; obtain ⟨p, rfl⟩ := below_gw hb; clear hb))
      go_meet
      exact ⟨by first | rfl | (simp; done), (by repeat (first | assumption | exact Below.refl _ _ | apply bl_gw | apply bl_alloc | apply bl_drewN | apply bl_drew))⟩
    case rest => as_aux_lemma =>
      obtain ⟨rfl, bb⟩ := hcut
      have RVc := Lib.hid (RV.out.past bb)
      have Fwc := Lib.hid (Fw3.out.past bb)
      have Bwc := Lib.hid (below_step Bw3.out bb)
      clear bb RV PV Fw1 Fw2 Fw3 Bw1 Bw2 Bw3
      go_upto_if 71 with (fail)
      go_cut [] from 40 (fun wx => Below w.heap.size w wx)
      case first => as_aux_lemma =>
        cases told
        · go_wp2
          go_meet
          exact Bwc.out
        · obtain ⟨p1, p2, p3, p4, p5, p6⟩ := HPO.out rfl
          rw [HM.out, HN.out] at p3
          subst p3
          have hgl : gramsP l1 = gramsTo l1 m1 := by unfold gramsP; rw [if_pos p1, HN.out]
          have hgy : gramsP Y = gramsTo Y m1 := by unfold gramsP; rw [if_pos p2, HM.out]
          rw [HN.out] at p4 p5 p6
          have HA1 := Lib.hid p1
          have HA2 := Lib.hid p2
          have HL5 := Lib.hid p5
          obtain ⟨r1, r2⟩ : (0 ≤ gramsTo Y m1 ∧ gramsTo l1 m1 ≤ 100000000) := by
            have h1 := (kg_step p1 m1 (by rw [HN.out]; exact Nat.le_refl _)).1
            have h2 := (kg_step p2 m1 (by rw [HM.out]; exact Nat.le_refl _)).1
            omega
          obtain ⟨a, ha⟩ : ∃ x, gramsTo l1 m1 = x := ⟨_, rfl⟩
          obtain ⟨b, hb⟩ : ∃ x, gramsTo Y m1 = x := ⟨_, rfl⟩
          obtain ⟨af, haf⟩ : ∃ x, kilosTo Y m1 = x := ⟨_, rfl⟩
          rw [ha] at hgl p4 p6 r2
          rw [hb] at hgy p4 p6 r1
          rw [haf] at p6
          have HGL := Lib.hid hgl
          have HGY := Lib.hid hgy
          have HAF := Lib.hid haf
          have q1 : ¬ a < b := by omega
          have q2 : IntKind.i64.wrap (a - b) = a - b := IntWalk.i64_in _ (by omega)
          have q2' : wrap64 (a - b) = a - b := by unfold wrap64; omega
          have q3 : ¬ af < a - b := by omega
          have q4 : decide (a < b) = false := decide_eq_false q1
          have q5 : decide (af < a - b) = false := decide_eq_false q3
          clear hgl hgy ha hb haf p1 p2 p4 p5 p6 HPO
          go_wp2_with fail
          refine (impl_BitterGrams_any l1 m1 HN.out _ _ _ (by omega) Fwc.out).mono ?_
          rintro e w4 ⟨rfl, bb⟩
          rw [HA1.out, HGL.out]
          have RV4 := Lib.hid (RVc.out.past bb)
          have Fw4 := Lib.hid (Fwc.out.past bb)
          have B4 := Lib.hid (below_step Bwc.out bb)
          clear bb
          go_wp2_with fail
          refine (impl_BitterGrams_any Y m1 HM.out _ _ _ (by omega) RV4.out).mono ?_
          rintro e w5 ⟨rfl, bb⟩
          rw [HA2.out, HGY.out]
          have RV5 := Lib.hid (RV4.out.past bb)
          have Fw5 := Lib.hid (Fw4.out.past bb)
          have B5 := Lib.hid (below_step B4.out bb)
          clear bb RV4 Fw4 B4
          go_wp2
          go_loopw [14, 15, 16] (fun bv av iv wr => ∃ k : Nat, k ≤ m1 ∧ iv = .int .i64 k ∧ bv = .int .i64 (kilosTo l1 k) ∧ av = .int .i64 (kilosTo Y k) ∧ Below w5.heap.size w5 wr) (fun _ _ iv _ => m1 - (intOf iv).toNat)
          case atStart => exact ⟨0, Nat.zero_le _, rfl, rfl, rfl, Below.refl _ _⟩
          case round =>
            obtain ⟨k, hk, rfl, rfl, rfl, hbel⟩ := hrel
            have hsz := hbel.size
            by_cases hlt : k < m1
            · obtain ⟨bk, off, rfl, hb, hcs⟩ := Fw5.out.bittern (by rw [HN.out]; omega)
              obtain ⟨bk', off', rfl, hb', hcs'⟩ := RV5.out.bittern (by rw [HM.out]; omega)
              have hx : l1[k]? = some l1[k]! := someB_at (by rw [HN.out]; exact hlt)
              have hy : Y[k]? = some Y[k]! := someB_at (by rw [HM.out]; exact hlt)
              have c1 := (hcs k _ hx).2.1
              have d1 := (hcs' k _ hy).2.1
              have h1 := kilosTo_succ l1 k
              have h2 := kilosTo_succ Y k
              generalize l1[k]! = x at c1 h1
              generalize Y[k]! = y at d1 h2
              generalize x.kilos = xk at c1 h1
              generalize y.kilos = yk at d1 h2
              obtain ⟨s, hs⟩ : ∃ s, kilosTo l1 k = s := ⟨_, rfl⟩
              obtain ⟨t, ht⟩ : ∃ t, kilosTo Y k = t := ⟨_, rfl⟩
              rw [hs] at h1 ⊢
              rw [ht] at h2 ⊢
              have H1 := Lib.hid h1
              have H2 := Lib.hid h2
              rw [← hbel.cell hb] at c1
              rw [← hbel.cell hb'] at d1
              have hbw : bk < wr.heap.size := by omega
              have hbw' : bk' < wr.heap.size := by omega
              have k1 : (k : Int) < m1 := by omega
              have k2 : (0 : Int) ≤ k := by omega
              clear hcs hcs' hx hy hs ht h1 h2
              go_wp2
              go_roundw
              case rel => exact ⟨k + 1, by omega, by go_num, by rw [H1.out], by rw [H2.out], (by repeat (first | assumption | exact Below.refl _ _ | apply bl_gw | apply bl_alloc | apply bl_drewN | apply bl_drew))⟩
              case measure => simp [intOf]; omega
            · obtain rfl : k = m1 := by omega
              rw [HL5.out, HAF.out]
              go_wp2
              go_meet
              exact below_step B5.out hbel
      case rest => as_aux_lemma =>
        have B6 := Lib.hid hcut
        clear hcut RVc Fwc HPO HTO HY HM
        go_wp2_with fail
        refine (drawMeanBitter_any A n c _ (HC.out.past B6.out)).mono ?_
        rintro e w1 ⟨lv, l2, rfl, hl22, ol, bb⟩
        obtain ⟨Bl, dl, rfl, hdl, _, _⟩ := ol.slice
        have Ew1 := Lib.hid ol.rd
        have Bw1 := Lib.hid (below_step B6.out bb)
        clear ol bb
        obtain ⟨n2, hn2⟩ : ∃ n, l2.length = n := ⟨_, rfl⟩
        rw [hn2] at hl22 hdl ⊢
        have HN2 := Lib.hid hn2
        clear hn2
        obtain ⟨ok, hok⟩ : ∃ x, meanOK l2 = x := ⟨_, rfl⟩
        obtain ⟨nu, hnu⟩ : ∃ x, meanN l2 = x := ⟨_, rfl⟩
        obtain ⟨de, hde⟩ : ∃ x, meanD l2 = x := ⟨_, rfl⟩
        obtain ⟨be, hbe⟩ : ∃ x, bestB l2 = x := ⟨_, rfl⟩
        have hbo : bestBOK l2 = ok := (best_mean l2).trans hok
        have hle : ok = true → ∀ i, i < l2.length → l2[i]!.id = be → nu ≤ l2[i]!.bitter * de ∧ 0 ≤ de ∧ de ≤ 80000 ∧ 0 ≤ l2[i]!.bitter ∧ l2[i]!.bitter ≤ 1000 := fun h i hi he => by
          have h1 := mean_le (hok.trans h) hi (he.trans hbe.symm)
          have ha : areBitterns l2 = true := by have := hok.trans h; simp [meanOK] at this; exact this.1
          have h2 := bitternOK_at (areBitterns_ok ha (someB_at hi))
          rw [hnu, hde] at h1
          exact ⟨h1.1, h1.2.1, h1.2.2, h2.2.2.1, h2.2.2.2⟩
        have HOK := Lib.hid hok
        have HNU2 := Lib.hid hnu
        have HDE := Lib.hid hde
        have HBE := Lib.hid hbe
        have HBO := Lib.hid hbo
        have HLE := Lib.hid hle
        clear hok hnu hde hbe hbo hle
        go_wp2_with fail
        refine (impl_MeanBitter_any l2 n2 HN2.out _ _ _ (by omega) Ew1.out).mono ?_
        rintro e w2 ⟨rfl, bb⟩
        rw [HOK.out, HNU2.out, HDE.out]
        have Ew2 := Lib.hid (Ew1.out.past bb)
        have Bw2 := Lib.hid (below_step Bw1.out bb)
        clear bb Ew1 Bw1
        go_wp2_with fail
        refine (spec_MeanBitter_any l2 n2 HN2.out _ _ _ (by omega) Ew2.out).mono ?_
        rintro e w3 ⟨rfl, bb⟩
        rw [HOK.out, HNU2.out, HDE.out]
        have Ew3 := Lib.hid (Ew2.out.past bb)
        have Bw3 := Lib.hid (below_step Bw2.out bb)
        clear bb Ew2 Bw2
        go_upto_region 22 with (fail)
        go_cut [157] from 40 (fun u wx => u = .bool false ∧ wx = w3)
        case first => as_aux_lemma =>
          go_wp2
          go_meet
          exact ⟨by first | rfl | (simp; done), rfl⟩
        case rest => as_aux_lemma =>
          obtain ⟨rfl, rfl⟩ := hcut
          go_wp2_with fail
          refine (impl_BitterestCask_any l2 n2 HN2.out _ _ _ (by omega) Ew3.out).mono ?_
          rintro e w4 ⟨rfl, bb⟩
          rw [HBO.out, HBE.out]
          have Ew4 := Lib.hid (Ew3.out.past bb)
          have Bw4 := Lib.hid (below_step Bw3.out bb)
          clear bb Ew3 Bw3
          go_wp2_with fail
          refine (spec_BitterestCask_any l2 n2 HN2.out _ _ _ (by omega) Ew4.out).mono ?_
          rintro e w5 ⟨rfl, bb⟩
          rw [HBO.out, HBE.out]
          have Ew5 := Lib.hid (Ew4.out.past bb)
          have Bw5 := Lib.hid (below_step Bw4.out bb)
          clear bb Ew4 Bw4
          go_upto_region 26 with (fail)
          go_cut [180] from 40 (fun u wx => u = .bool false ∧ wx = w5)
          case first => as_aux_lemma =>
            go_wp2
            go_meet
            exact ⟨by first | rfl | (simp; done), rfl⟩
          case rest => as_aux_lemma =>
            obtain ⟨rfl, rfl⟩ := hcut
            go_upto_if 181 with (fail)
            go_cut [] from 40 (fun wx => Below w.heap.size w wx)
            case first => as_aux_lemma =>
              cases ok
              · go_wp2
                go_meet
                exact Bw5.out
              · go_wp2
                go_loopw [28] (fun iv wr => ∃ i : Nat, i ≤ n2 ∧ iv = .int .i64 i ∧ Below wc.heap.size wc wr) (fun iv _ => n2 - (intOf iv).toNat)
                case atStart => exact ⟨0, Nat.zero_le _, rfl, Below.refl _ _⟩
                case round =>
                  obtain ⟨i, hi, rfl, hbel⟩ := hrel
                  have hsz := hbel.size
                  by_cases hil : i < n2
                  · obtain ⟨bk, off, rfl, hb, hcs⟩ := Ew5.out.bittern (by rw [HN2.out]; omega)
                    have hil' : i < l2.length := by rw [HN2.out]; exact hil
                    have hx := someB_at (l := l2) (k := i) hil'
                    obtain ⟨c0, c1, c2⟩ := hcs i _ hx
                    have hle := HLE.out (by first | rfl | trivial) i hil'
                    generalize l2[i]! = x at c0 c1 c2 hle
                    obtain ⟨x0, x1, x2⟩ := x
                    dsimp only at c0 c1 c2 hle
                    rw [← hbel.cell hb] at c0 c1 c2
                    have hbw : bk < wr.heap.size := by omega
                    have i1 : (i : Int) < n2 := by omega
                    have i2 : (0 : Int) ≤ i := by omega
                    clear hcs hx hil'
                    by_cases he : x0 = be
                    · obtain ⟨h1, h2, h3, h4, h5⟩ := hle he
                      have m1 : 0 ≤ x2 * de := Int.mul_nonneg h4 h2
                      have m2 : x2 * de ≤ 1000 * 80000 := Int.mul_le_mul h5 h3 h2 (by omega)
                      obtain ⟨M, hM⟩ : ∃ M, x2 * de = M := ⟨_, rfl⟩
                      rw [hM] at h1 m1 m2
                      have e1 : IntKind.i64.wrap (x2 * de) = M := by rw [hM]; exact IntWalk.i64_in _ (by omega)
                      have e2 : wrap64 (x2 * de) = M := by rw [hM]; unfold wrap64; omega
                      have e3 : decide (M < nu) = false := decide_eq_false (by omega)
                      have e4 : ¬ M < nu := by omega
                      have e5 : (x0 == be) = true := by rw [he]; exact beq_self_eq_true _
                      clear hM hle
                      go_wp2
                      go_roundw
                      case rel => exact ⟨i + 1, by omega, by go_num, (by repeat (first | assumption | exact Below.refl _ _ | apply bl_gw | apply bl_alloc | apply bl_drewN | apply bl_drew))⟩
                      case measure => simp [intOf]; omega
                    · have e5 : (x0 == be) = false := beq_eq_false_iff_ne.2 he
                      clear hle
                      go_wp2
                      go_roundw
                      case rel => exact ⟨i + 1, by omega, by go_num, (by repeat (first | assumption | exact Below.refl _ _ | apply bl_gw | apply bl_alloc | apply bl_drewN | apply bl_drew))⟩
                      case measure => simp [intOf]; omega
                  · go_wp2
                    go_meet
                    exact below_step Bw5.out hbel
            case rest => as_aux_lemma =>
              have B8 := Lib.hid hcut
              clear hcut Ew5 Bw5 HOK HNU2 HDE HBE HBO HLE HN2
              go_wp2_with fail
              refine (drawBitterGrams_any A n c _ (HC.out.past B8.out)).mono ?_
              rintro e w1 ⟨lv, l3, rfl, hl33, ol, bb⟩
              obtain ⟨Cl, el, rfl, hel, _, _⟩ := ol.slice
              have Gw1 := Lib.hid ol.rd
              have Bw1 := Lib.hid (below_step B8.out bb)
              clear ol bb
              obtain ⟨n3, hn3⟩ : ∃ n, l3.length = n := ⟨_, rfl⟩
              rw [hn3] at hl33 hel ⊢
              have HN3 := Lib.hid hn3
              clear hn3
              obtain ⟨gok, hgok⟩ : ∃ x, areBitterns l3 = x := ⟨_, rfl⟩
              obtain ⟨gr, hgr⟩ : ∃ x, gramsP l3 = x := ⟨_, rfl⟩
              have HGO := Lib.hid hgok
              have HGR := Lib.hid hgr
              clear hgok hgr
              go_wp2_with fail
              refine (impl_BitterGrams_any l3 n3 HN3.out _ _ _ (by omega) Gw1.out).mono ?_
              rintro e w2 ⟨rfl, bb⟩
              rw [HGO.out, HGR.out]
              have Gw2 := Lib.hid (Gw1.out.past bb)
              have Bw2 := Lib.hid (below_step Bw1.out bb)
              clear bb
              go_wp2_with fail
              refine (spec_BitterGrams_any l3 n3 HN3.out _ _ _ (by omega) Gw2.out).mono ?_
              rintro e w3 ⟨rfl, bb⟩
              rw [HGO.out, HGR.out]
              have Bw3 := Lib.hid (below_step Bw2.out bb)
              clear bb Gw1 Gw2 Bw1 Bw2
              go_upto_region 37 with (fail)
              go_cut [225] from 40 (fun u wx => u = .bool false ∧ wx = w3)
              case first => as_aux_lemma =>
                go_wp2
                go_meet
                exact ⟨by first | rfl | (simp; done), rfl⟩
              case rest => as_aux_lemma =>
                obtain ⟨rfl, rfl⟩ := hcut
                clear HGO HGR HN3
                go_wp2_with fail
                refine (drawBitternText_any A n c _ (HC.out.past Bw3.out)).mono ?_
                rintro e w1 ⟨lv, l4, z4, rfl, hl44, ol, bb⟩
                obtain ⟨Dl, fl, rfl, hfl, _, _⟩ := ol.slice
                have Hw1 := Lib.hid ol.rd
                have Bw4 := Lib.hid (below_step Bw3.out bb)
                clear ol bb
                obtain ⟨n4, hn4⟩ : ∃ n, l4.length = n := ⟨_, rfl⟩
                rw [hn4] at hl44 hfl ⊢
                have HN4 := Lib.hid hn4
                clear hn4
                obtain ⟨cok, hcok⟩ : ∃ x, textOK l4 z4 = x := ⟨_, rfl⟩
                obtain ⟨tx, htx⟩ : ∃ x, textB l4 z4 = x := ⟨_, rfl⟩
                have HCO := Lib.hid hcok
                have HTX := Lib.hid htx
                have HNU4 := Lib.hid (HNU.out.past Bw4.out)
                clear hcok htx
                go_wp2_with (first
                  | (go_at_call 18; refine (impl_BitternText_any l4 n4 HN4.out _ _ _ _ (by omega) HNU4.out Hw1.out).mono ?_; rintro e w5 ⟨rfl, hb⟩; rw [HCO.out, HTX.out]; obtain ⟨p5, rfl⟩ := below_gw hb; clear hb)
                  | (go_at_call 19; refine (spec_BitternText_any l4 n4 HN4.out _ _ _ _ (by omega) (Hw1.out.past (by repeat (first | assumption | exact Below.refl _ _ | apply bl_gw | apply bl_alloc | apply bl_drewN | apply bl_drew)))).mono ?_; rintro e w5 ⟨rfl, hb⟩; rw [HCO.out, HTX.out]; obtain ⟨p5, rfl⟩ := below_gw hb; clear hb))
                go_ret
                exact ⟨by first | rfl | (simp; done), below_step Bw4.out (by repeat (first | assumption | exact Below.refl _ _ | apply bl_gw | apply bl_alloc | apply bl_drewN | apply bl_drew))⟩
end Go.Proofs.YtcajgadgdjopdaaDoor
