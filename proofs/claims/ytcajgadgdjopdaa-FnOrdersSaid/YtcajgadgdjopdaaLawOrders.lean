/- The law FnOrders: the walk. What is taken for an order adds up to it and is bitter enough, and an order can be filled just where it asks for no more than the most. -/
import Derived.Test.YtcajgadgdjopdaaOrdM
import Derived.Test.YtcajgadgdjopdaaLawOrdR
import Derived.Test.YtcajgadgdjopdaaDrawM
import Derived.Test.YtcajgadgdjopdaaMostI
import Derived.Test.YtcajgadgdjopdaaMostS
import Derived.Test.YtcajgadgdjopdaaFillG
import Derived.Test.YtcajgadgdjopdaaAftI
import Derived.Test.YtcajgadgdjopdaaAftS
import Derived.Deep.Cut
namespace Go.Proofs.Ytcajgadgdjopdaa
open Go.RowKit
set_option maxRecDepth 4000 in
set_option maxHeartbeats 16000000 in
theorem FnOrders_walk (A : Option Addr) (n c : Nat) (w : World) (hc : Bytes w A n) :
    Calls Try.prog 3 #[.slice A n c] w fun e w' => e = .returned (.bool true) ∧ Below w.heap.size w w' := by
  have HC := Lib.hid hc
  clear hc
  by_cases hbig : (65536 : Int) < n
  · go_enter Try.func3, Try.ntmps3
    go_wp2_with (go_at_call 8; refine (vBig_any _ _ _ _).mono ?_; rintro e w1 ⟨rfl, rfl⟩)
    go_ret
    exact ⟨rfl, Below.refl _ _⟩
  · have B00 := Lib.hid (Below.refl w.heap.size w)
    go_enter Try.func3, Try.ntmps3
    go_wp2_with (go_at_call 8; refine (vBig_any _ _ _ _).mono ?_; rintro e w1 ⟨rfl, rfl⟩)
    refine (drawFillOrder_any A n c _ HC.out).mono ?_
    rintro e w1 ⟨lv, l1, kg, bt, rfl, hl11, ol, bb⟩
    obtain ⟨Al, cl, rfl, hcl, _, _⟩ := ol.slice
    have Fw1 := Lib.hid ol.rd
    have Bw1 := Lib.hid (below_step B00.out bb)
    clear ol bb
    obtain ⟨n1, hn1⟩ : ∃ n, l1.length = n := ⟨_, rfl⟩
    rw [hn1] at hl11 hcl ⊢
    have HN := Lib.hid hn1
    clear hn1
    obtain ⟨ok, hok⟩ : ∃ x, fillOK l1 kg bt = x := ⟨_, rfl⟩
    obtain ⟨P, hP⟩ : ∃ x, fillP l1 kg bt = x := ⟨_, rfl⟩
    obtain ⟨Y, hY⟩ : ∃ x, afterP l1 kg bt = x := ⟨_, rfl⟩
    obtain ⟨mo, hmo⟩ : ∃ x, mostP l1 bt = x := ⟨_, rfl⟩
    obtain ⟨told, htold⟩ : ∃ x, mostOK l1 bt = x := ⟨_, rfl⟩
    obtain ⟨ab, hab⟩ : ∃ x, areBitterns l1 = x := ⟨_, rfl⟩
    have hm8 : P.length ≤ 8 := by rw [← hP]; exact fillP_length _ _ _
    have hy8 : Y.length ≤ 8 := by rw [← hY]; exact afterP_8 _ _ _
    obtain ⟨m1, hm1⟩ : ∃ n, P.length = n := ⟨_, rfl⟩
    obtain ⟨y1, hy1⟩ : ∃ n, Y.length = n := ⟨_, rfl⟩
    rw [hm1] at hm8
    rw [hy1] at hy8
    have HOR := Lib.hid (show ok = true → Ordered l1 kg bt from fun h => ordered (hok.trans h))
    have HFM := Lib.hid (show told = true → 1 ≤ kg → kg ≤ 100000 → ok = decide (kg ≤ mo) from fun h h1 h2 => by rw [← hok, ← hmo]; exact fill_most (htold.trans h) h1 h2)
    have HOK := Lib.hid hok
    have HP := Lib.hid hP
    have HY := Lib.hid hY
    have HMO := Lib.hid hmo
    have HTO := Lib.hid htold
    have HAB := Lib.hid hab
    have HM := Lib.hid hm1
    have HYN := Lib.hid hy1
    clear hok hP hY hmo htold hab hm1 hy1
    go_wp2_with fail
    refine (impl_FillOrder_any l1 n1 HN.out _ _ _ _ _ (by omega) Fw1.out).mono ?_
    rintro e w2 ⟨v2, rfl, ov, bb⟩
    rw [HP.out] at ov
    rw [HOK.out]
    obtain ⟨A2, c2, rfl, _, _, _⟩ := ov.slice
    rw [HM.out] at ov ⊢
    have OV := Lib.hid ov
    have Fw2 := Lib.hid (Fw1.out.past bb)
    have Bw2 := Lib.hid (below_step Bw1.out bb)
    clear ov bb
    go_wp2_with fail
    refine (spec_FillOrder_any l1 n1 HN.out _ _ _ _ _ (by omega) Fw2.out).mono ?_
    rintro e w3 ⟨v3, rfl, ov, bb⟩
    rw [HP.out] at ov
    rw [HOK.out]
    obtain ⟨A3, c3, rfl, _, _, _⟩ := ov.slice
    rw [HM.out] at ov ⊢
    have PV := Lib.hid ov.rd
    have RV := Lib.hid (OV.out.past bb (Nat.le_refl _)).rd
    have Fw3 := Lib.hid (Fw2.out.past bb)
    have Bw3 := Lib.hid (below_step Bw2.out bb)
    clear ov bb OV
    go_upto_region 6 with (fail)
    go_cut [72] from 35 (fun u wx => u = .bool false ∧ Below w3.heap.size w3 wx)
    case first => as_aux_lemma =>
      go_wp2_with (first
        | (go_at_call 12; refine (vPairs_same P m1 HM.out _ _ _ _ _ (by omega) (RV.out.past (by repeat (first | assumption | exact Below.refl _ _ | apply bl_gw | apply bl_alloc | apply bl_drewN | apply bl_drew))) (PV.out.past (by repeat (first | assumption | exact Below.refl _ _ | apply bl_gw | apply bl_alloc | apply bl_drewN | apply bl_drew)))).mono ?_; rintro e w1 ⟨rfl, hb⟩; obtain ⟨p, rfl⟩ := below_gw hb; clear hb)
        | (go_at_call 13; refine (impl_AreBitterns_any l1 n1 HN.out _ _ _ (by omega) (Fw3.out.past (by repeat (first | assumption | exact Below.refl _ _ | apply bl_gw | apply bl_alloc | apply bl_drewN | apply bl_drew)))).mono ?_; rintro e w1 ⟨rfl, hb⟩; obtain ⟨p, rfl⟩ := below_gw hb; clear hb)
        | (go_at_call 14; refine (spec_AreBitterns_any l1 n1 HN.out _ _ _ (by omega) (Fw3.out.past (by repeat (first | assumption | exact Below.refl _ _ | apply bl_gw | apply bl_alloc | apply bl_drewN | apply bl_drew)))).mono ?_; rintro e w1 ⟨rfl, hb⟩; obtain ⟨p, rfl⟩ := below_gw hb; clear hb))
      go_meet
      exact ⟨by first | rfl | (simp; done), (by repeat (first | assumption | exact Below.refl _ _ | apply bl_gw | apply bl_alloc | apply bl_drewN | apply bl_drew))⟩
    case rest => as_aux_lemma =>
      obtain ⟨rfl, bb⟩ := hcut
      have RVc := Lib.hid (RV.out.past bb)
      have Fwc := Lib.hid (Fw3.out.past bb)
      have Bwc := Lib.hid (below_step Bw3.out bb)
      clear bb RV PV Fw1 Fw2 Fw3 Bw1 Bw2 Bw3
      go_wp2_with fail
      refine (impl_MostWith_any l1 n1 HN.out _ _ _ _ (by omega) Fwc.out).mono ?_
      rintro e w4 ⟨rfl, bb⟩
      rw [HMO.out, HTO.out]
      have RV4 := Lib.hid (RVc.out.past bb)
      have Fw4 := Lib.hid (Fwc.out.past bb)
      have B4 := Lib.hid (below_step Bwc.out bb)
      clear bb RVc Fwc Bwc
      go_wp2_with fail
      refine (spec_MostWith_any l1 n1 HN.out _ _ _ _ (by omega) Fw4.out).mono ?_
      rintro e w5 ⟨rfl, bb⟩
      rw [HMO.out, HTO.out]
      have RV5 := Lib.hid (RV4.out.past bb)
      have Fw5 := Lib.hid (Fw4.out.past bb)
      have B5 := Lib.hid (below_step B4.out bb)
      clear bb RV4 Fw4 B4
      go_upto_region 10 with (fail)
      go_cut [92] from 35 (fun u wx => u = .bool false ∧ wx = w5)
      case first => as_aux_lemma =>
        go_wp2
        go_meet
        exact ⟨by first | rfl | (simp; done), rfl⟩
      case rest => as_aux_lemma =>
        obtain ⟨rfl, rfl⟩ := hcut
        go_upto_region 12 with (fail)
        go_cut [108] from 35 (fun u wx => u = .bool false ∧ wx = wc)
        case first => as_aux_lemma =>
          have hfm := HFM.out
          cases told
          · clear hfm
            go_wp2
            go_meet
            exact ⟨by first | rfl | (simp; done), rfl⟩
          · by_cases k1 : 1 ≤ kg
            · by_cases k2 : kg ≤ 100000
              · have hq := hfm rfl k1 k2
                clear hfm
                by_cases k3 : kg ≤ mo
                · obtain rfl : ok = true := hq.trans (decide_eq_true k3)
                  clear hq
                  go_wp2
                  go_meet
                  exact ⟨by first | rfl | (simp; done), rfl⟩
                · obtain rfl : ok = false := hq.trans (decide_eq_false k3)
                  clear hq
                  go_wp2
                  go_meet
                  exact ⟨by first | rfl | (simp; done), rfl⟩
              · clear hfm
                go_wp2
                go_meet
                exact ⟨by first | rfl | (simp; done), rfl⟩
            · clear hfm
              go_wp2
              go_meet
              exact ⟨by first | rfl | (simp; done), rfl⟩
        case rest => as_aux_lemma =>
          obtain ⟨rfl, rfl⟩ := hcut
          go_upto_if 109 with (fail)
          go_cut [] from 35 (fun wx => Below w.heap.size w wx)
          case first => as_aux_lemma =>
            cases ok
            · go_wp2
              go_meet
              exact B5.out
            · obtain ⟨p1, p2, p3, p4, p5, p6, ⟨k1, k2⟩, b1, b2⟩ := HOR.out rfl
              rw [HY.out] at p2 p3 p6
              rw [HP.out] at p4 p5
              rw [HYN.out, HN.out] at p3
              subst p3
              rw [HN.out] at p6
              have hgl : gramsP l1 = gramsTo l1 y1 := by unfold gramsP; rw [if_pos p1, HN.out]
              have hgy : gramsP Y = gramsTo Y y1 := by unfold gramsP; rw [if_pos p2, HYN.out]
              have ha1 : areBitterns l1 = true := p1
              obtain ⟨r1, r2, r3⟩ : (0 ≤ gramsTo Y y1 ∧ 0 ≤ gramsTo l1 y1 ∧ gramsTo l1 y1 ≤ 100000000) := by
                have h1 := (kg_step p1 y1 (by rw [HN.out]; exact Nat.le_refl _)).1
                have h2 := (kg_step p2 y1 (by rw [HYN.out]; exact Nat.le_refl _)).1
                omega
              have hk0 : 0 ≤ kg * bt := Int.mul_nonneg (by omega) b1
              have hk1 : kg * bt ≤ 100000 * 1000 := Int.mul_le_mul k2 b2 b1 (by omega)
              obtain ⟨a, ha⟩ : ∃ x, gramsTo l1 y1 = x := ⟨_, rfl⟩
              obtain ⟨b, hb⟩ : ∃ x, gramsTo Y y1 = x := ⟨_, rfl⟩
              obtain ⟨kb, hkb⟩ : ∃ x, kg * bt = x := ⟨_, rfl⟩
              rw [ha] at hgl p6 r2 r3
              rw [hb] at hgy p6 r1
              rw [hkb] at p6 hk0 hk1
              have HA1 := Lib.hid ha1
              have HA2 := Lib.hid p2
              have HGL := Lib.hid hgl
              have HGY := Lib.hid hgy
              have hs : ∀ k, 0 ≤ dsumTo P k ∧ dsumTo P k ≤ 100000 := fun k => by
                have := dsumTo_rng p5 k
                omega
              have hall : dsumTo P m1 = kg := by rw [← HM.out, dsumTo_all]; exact p4
              have HS := Lib.hid hs
              have HALL := Lib.hid hall
              have Q1 := Lib.hid (show wrap64 (a - b) = a - b by unfold wrap64; omega)
              have Q2 := Lib.hid (show wrap64 (kg * bt) = kb by rw [hkb]; unfold wrap64; omega)
              have Q3 := Lib.hid (show ¬ a - b < kb by omega)
              clear p1 p2 p4 p5 p6 hgl hgy ha1 ha hb hkb hs hall r1 r2 r3 hk0 hk1 HOR HFM
              go_wp2_with fail
              refine (impl_AfterOrder_any l1 y1 HN.out _ _ _ _ _ (by omega) Fw5.out).mono ?_
              rintro e w6 ⟨v6, rfl, ov, bb⟩
              rw [HY.out] at ov
              rw [HOK.out]
              obtain ⟨A6, c6, rfl, _, _, _⟩ := ov.slice
              rw [HYN.out] at ov ⊢
              have YV6 := Lib.hid ov.rd
              have RV6 := Lib.hid (RV5.out.past bb)
              have Fw6 := Lib.hid (Fw5.out.past bb)
              have B6 := Lib.hid (below_step B5.out bb)
              clear ov bb
              go_wp2_with fail
              refine (impl_BitterGrams_any l1 y1 HN.out _ _ _ (by omega) Fw6.out).mono ?_
              rintro e w7 ⟨rfl, bb⟩
              rw [HA1.out, HGL.out]
              have YV7 := Lib.hid (YV6.out.past bb)
              have RV7 := Lib.hid (RV6.out.past bb)
              have B7 := Lib.hid (below_step B6.out bb)
              clear bb YV6 RV6 Fw6 B6
              go_wp2_with fail
              refine (impl_BitterGrams_any Y y1 HYN.out _ _ _ (by omega) YV7.out).mono ?_
              rintro e w8 ⟨rfl, bb⟩
              rw [HA2.out, HGY.out]
              have RV8 := Lib.hid (RV7.out.past bb)
              have B8 := Lib.hid (below_step B7.out bb)
              clear bb YV7 RV7 B7
              go_wp2
              go_loopw [20, 21] (fun sv iv wr => ∃ k : Nat, k ≤ m1 ∧ iv = .int .i64 k ∧ sv = .int .i64 (dsumTo P k) ∧ Below w8.heap.size w8 wr) (fun _ iv _ => m1 - (intOf iv).toNat)
              case atStart => exact ⟨0, Nat.zero_le _, rfl, rfl, Below.refl _ _⟩
              case round =>
                obtain ⟨k, hk, rfl, rfl, hbel⟩ := hrel
                have hsz := hbel.size
                by_cases hlt : k < m1
                · obtain ⟨bk, off, rfl, hb, hcs⟩ := RV8.out.ditch (by rw [HM.out]; omega)
                  have hx : P[k]? = some P[k]! := by rw [getElem!_pos P k (by rw [HM.out]; exact hlt)]; exact List.getElem?_eq_getElem _
                  have d1 := (hcs k _ hx).2
                  have h1 := dsumTo_succ (P := P) (t := k) (by rw [HM.out]; exact hlt)
                  have h2 := HS.out k
                  have h3 := HS.out (k + 1)
                  generalize P[k]!.dst = x at d1 h1
                  obtain ⟨s, hs⟩ : ∃ s, dsumTo P k = s := ⟨_, rfl⟩
                  rw [h1] at h3
                  rw [hs] at h1 h2 h3 ⊢
                  have H1 := Lib.hid h1
                  have H2 := Lib.hid (show wrap64 (s + x) = s + x by unfold wrap64; omega)
                  rw [← hbel.cell hb] at d1
                  have hbw : bk < wr.heap.size := by omega
                  have i1 : (k : Int) < m1 := by omega
                  have i2 : (0 : Int) ≤ k := by omega
                  clear hcs hx hs h1 h2 h3
                  have h2 := H2.out
                  go_wp2
                  clear h2
                  go_roundw
                  case rel => exact ⟨k + 1, by omega, by go_num, by rw [H1.out, H2.out], (by repeat (first | assumption | exact Below.refl _ _ | apply bl_gw | apply bl_alloc | apply bl_drewN | apply bl_drew))⟩
                  case measure => simp [intOf]; omega
                · obtain rfl : k = m1 := by omega
                  rw [HALL.out]
                  have q1 := Q1.out; have q2 := Q2.out; have q3 := Q3.out
                  go_wp2
                  go_meet
                  exact below_step B8.out hbel
          case rest => as_aux_lemma =>
            have B6 := Lib.hid hcut
            clear hcut RV5 Fw5 B5 HOR HFM HOK HP HY HMO HTO HAB HM HYN HN
            go_wp2_with fail
            refine (drawAfterOrder_any A n c _ (HC.out.past B6.out)).mono ?_
            rintro e w1 ⟨lv, l2, k2, z2, rfl, hl22, ol, bb⟩
            obtain ⟨Bl, dl, rfl, hdl, _, _⟩ := ol.slice
            have Ew1 := Lib.hid ol.rd
            have Bw1 := Lib.hid (below_step B6.out bb)
            clear ol bb
            obtain ⟨n2, hn2⟩ : ∃ n, l2.length = n := ⟨_, rfl⟩
            rw [hn2] at hl22 hdl ⊢
            have HN2 := Lib.hid hn2
            clear hn2
            obtain ⟨fine, hfine⟩ : ∃ x, fillOK l2 k2 z2 = x := ⟨_, rfl⟩
            obtain ⟨Z, hZ⟩ : ∃ x, afterP l2 k2 z2 = x := ⟨_, rfl⟩
            have hz8 : Z.length ≤ 8 := by rw [← hZ]; exact afterP_8 _ _ _
            obtain ⟨z1, hz1⟩ : ∃ n, Z.length = n := ⟨_, rfl⟩
            rw [hz1] at hz8
            have HF := Lib.hid hfine
            have HZ := Lib.hid hZ
            have HZN := Lib.hid hz1
            clear hfine hZ hz1
            go_wp2_with fail
            refine (impl_AfterOrder_any l2 n2 HN2.out _ _ _ _ _ (by omega) Ew1.out).mono ?_
            rintro e w2 ⟨v2, rfl, ov, bb⟩
            rw [HZ.out] at ov
            rw [HF.out]
            obtain ⟨A4, c4, rfl, _, _, _⟩ := ov.slice
            rw [HZN.out] at ov ⊢
            have OV := Lib.hid ov
            have Ew2 := Lib.hid (Ew1.out.past bb)
            have Bw2 := Lib.hid (below_step Bw1.out bb)
            clear ov bb Ew1 Bw1
            go_wp2_with fail
            refine (spec_AfterOrder_any l2 n2 HN2.out _ _ _ _ _ (by omega) Ew2.out).mono ?_
            rintro e w3 ⟨v3, rfl, ov, bb⟩
            rw [HZ.out] at ov
            rw [HF.out]
            obtain ⟨A5, c5, rfl, _, _, _⟩ := ov.slice
            rw [HZN.out] at ov ⊢
            have PV := Lib.hid ov.rd
            have RV := Lib.hid (OV.out.past bb (Nat.le_refl _)).rd
            have Bw3 := Lib.hid (below_step Bw2.out bb)
            clear ov bb OV Ew2 Bw2
            go_upto_region 28 with (fail)
            go_cut [199] from 35 (fun u wx => u = .bool false ∧ Below w3.heap.size w3 wx)
            case first => as_aux_lemma =>
              go_wp2_with (first | (go_at_call 21; refine (vBitterns_same Z z1 HZN.out _ _ _ _ _ (by omega) (RV.out.past (by repeat (first | assumption | exact Below.refl _ _ | apply bl_gw | apply bl_alloc | apply bl_drewN | apply bl_drew))) (PV.out.past (by repeat (first | assumption | exact Below.refl _ _ | apply bl_gw | apply bl_alloc | apply bl_drewN | apply bl_drew)))).mono ?_; rintro e w1 ⟨rfl, hb⟩; obtain ⟨p, rfl⟩ := below_gw hb; clear hb))
              go_meet
              exact ⟨by first | rfl | (simp; done), (by repeat (first | assumption | exact Below.refl _ _ | apply bl_gw | apply bl_alloc | apply bl_drewN | apply bl_drew))⟩
            case rest => as_aux_lemma =>
              obtain ⟨rfl, bb⟩ := hcut
              have B7 := Lib.hid (below_step Bw3.out bb)
              clear bb PV RV Bw3 HF HZ HZN HN2
              go_wp2_with fail
              refine (drawMostWith_any A n c _ (HC.out.past B7.out)).mono ?_
              rintro e w4 ⟨lv, l3, z3, rfl, hl33, ol, bb⟩
              obtain ⟨Cl, el, rfl, hel, _, _⟩ := ol.slice
              have Gw4 := Lib.hid ol.rd
              have Bw4 := Lib.hid (below_step B7.out bb)
              clear ol bb
              obtain ⟨n3, hn3⟩ : ∃ n, l3.length = n := ⟨_, rfl⟩
              rw [hn3] at hl33 hel ⊢
              have HN3 := Lib.hid hn3
              clear hn3
              obtain ⟨m3, hm3⟩ : ∃ x, mostP l3 z3 = x := ⟨_, rfl⟩
              obtain ⟨t3, ht3⟩ : ∃ x, mostOK l3 z3 = x := ⟨_, rfl⟩
              have HM3 := Lib.hid hm3
              have HT3 := Lib.hid ht3
              clear hm3 ht3
              go_wp2_with fail
              refine (impl_MostWith_any l3 n3 HN3.out _ _ _ _ (by omega) Gw4.out).mono ?_
              rintro e w5 ⟨rfl, bb⟩
              rw [HM3.out, HT3.out]
              have Gw5 := Lib.hid (Gw4.out.past bb)
              have Bw5 := Lib.hid (below_step Bw4.out bb)
              clear bb
              go_wp2_with fail
              refine (spec_MostWith_any l3 n3 HN3.out _ _ _ _ (by omega) Gw5.out).mono ?_
              rintro e w6 ⟨rfl, bb⟩
              rw [HM3.out, HT3.out]
              have Bw6 := Lib.hid (below_step Bw5.out bb)
              clear bb
              go_wp2
              go_ret
              exact ⟨by first | rfl | (simp; done), Bw6.out⟩
end Go.Proofs.Ytcajgadgdjopdaa
