/- The law FnQuay: the walk. With the needed water no ship waits for it, loads never become smaller, and only a full ship is sent. -/
import Derived.Test.YtggdcjajiaeklaaDoorLawQuayA
import Derived.Test.YtggdcjajiaeklaaDoorDrawU
import Derived.Test.YtggdcjajiaeklaaDoorLawRS
import Derived.Test.YtggdcjajiaeklaaDoorTextS
namespace Go.Proofs.YtggdcjajiaeklaaDoor
open Go.RowKit
set_option maxRecDepth 4000 in
set_option maxHeartbeats 16000000 in
theorem FnQuay_walk (A : Option Addr) (n c : Nat) (w : World) (hc : Bytes w A n) (hN : Nums w) :
    Calls Tryd.prog 4 #[.slice A n c] w fun e w' => e = .returned (.bool true) ∧ Below w.heap.size w w' := by
  have HC := Lib.hid hc
  have HNU := Lib.hid hN
  clear hc hN
  by_cases hbig : (65536 : Int) < n
  · go_enter Tryd.func4, Tryd.ntmps4
    go_wp2_with (go_at_call 8; refine (rBig_any _ _ _ _).mono ?_; rintro e w1 ⟨rfl, rfl⟩)
    go_ret
    exact ⟨rfl, Below.refl _ _⟩
  · have B00 := Lib.hid (Below.refl w.heap.size w)
    go_enter Tryd.func4, Tryd.ntmps4
    go_wp2_with (go_at_call 8; refine (rBig_any _ _ _ _).mono ?_; rintro e w1 ⟨rfl, rfl⟩)
    refine (drawNeededWater_any A n c _ HC.out).mono ?_
    rintro e w1 ⟨lv, l1, rfl, hl11, ol, bb⟩
    obtain ⟨Al, cl, rfl, hcl, _, _⟩ := ol.slice
    have Fw1 := Lib.hid ol.rd
    have Bw1 := Lib.hid (below_step B00.out bb)
    clear ol bb
    obtain ⟨n1, hn1⟩ : ∃ n, l1.length = n := ⟨_, rfl⟩
    rw [hn1] at hl11 hcl ⊢
    have HN := Lib.hid hn1
    clear hn1
    obtain ⟨ok, hok⟩ : ∃ x, needOK l1 = x := ⟨_, rfl⟩
    obtain ⟨X, hX⟩ : ∃ x, needP l1 = x := ⟨_, rfl⟩
    obtain ⟨m1, hm1⟩ : ∃ n, X.length = n := ⟨_, rfl⟩
    have hm6 : m1 ≤ 1000000 := by rw [← hm1, ← hX]; exact needP_length _
    have HOK := Lib.hid hok
    have HX := Lib.hid hX
    have HM := Lib.hid hm1
    clear hok hX hm1
    go_wp2_with fail
    refine (impl_NeededWater_any l1 n1 HN.out _ _ _ hcl (by omega) Fw1.out).mono ?_
    rintro e w2 ⟨v2, rfl, ov, bb⟩
    rw [HX.out] at ov
    rw [HOK.out]
    obtain ⟨A2, c2, rfl, _, _, _⟩ := ov.slice
    rw [HM.out] at ov ⊢
    have OV := Lib.hid ov
    have Fw2 := Lib.hid (Fw1.out.past bb)
    have Bw2 := Lib.hid (below_step Bw1.out bb)
    clear ov bb
    go_wp2_with fail
    refine (spec_NeededWater_any l1 n1 HN.out _ _ _ hcl (by omega) Fw2.out).mono ?_
    rintro e w3 ⟨v3, rfl, ov, bb⟩
    rw [HX.out] at ov
    rw [HOK.out]
    obtain ⟨A3, c3, rfl, _, _, _⟩ := ov.slice
    rw [HM.out] at ov ⊢
    have PV := Lib.hid ov.rd
    have RV := Lib.hid (OV.out.past bb (Nat.le_refl _)).rd
    have Fw3 := Lib.hid (Fw2.out.past bb)
    have Bw3 := Lib.hid (below_step Bw2.out bb)
    clear ov bb OV
    go_upto_region 6 with (fail)
    go_cut [61] from 39 (fun u wx => u = .bool false ∧ Below w3.heap.size w3 wx)
    case first => as_aux_lemma =>
      go_wp2_with (first | (go_at_call 12; refine (rInts_same X m1 HM.out _ _ _ _ _ (by omega) (RV.out.past (by repeat (first | assumption | exact Below.refl _ _ | apply bl_gw | apply bl_alloc | apply bl_drewN | apply bl_drew))) (PV.out.past (by repeat (first | assumption | exact Below.refl _ _ | apply bl_gw | apply bl_alloc | apply bl_drewN | apply bl_drew)))).mono ?_; rintro e w1 ⟨rfl, hb⟩; obtain ⟨p, rfl⟩ := below_gw hb; clear hb))
      go_meet
      exact ⟨by first | rfl | (simp; done), (by repeat (first | assumption | exact Below.refl _ _ | apply bl_gw | apply bl_alloc | apply bl_drewN | apply bl_drew))⟩
    case rest => as_aux_lemma =>
      obtain ⟨rfl, bb⟩ := hcut
      have RVc := Lib.hid (RV.out.past bb)
      have Fwc := Lib.hid (Fw3.out.past bb)
      have Bwc := Lib.hid (below_step Bw3.out bb)
      clear bb RV PV Fw1 Fw2 Fw3 Bw1 Bw2 Bw3
      go_wp2
      go_loopw [8] (fun iv wr => ∃ i : Nat, i ≤ n1 ∧ iv = .int .i64 i ∧ Below wc.heap.size wc wr) (fun iv _ => n1 - (intOf iv).toNat)
      case atStart => exact ⟨0, Nat.zero_le _, rfl, Below.refl _ _⟩
      case round =>
        obtain ⟨i, hi, rfl, hbel⟩ := hrel
        have hsz := hbel.size
        by_cases hin : i < n1 ∧ ok = true
        · obtain ⟨hil, rfl⟩ := hin
          have hil' : i < l1.length := by rw [HN.out]; exact hil
          have hx := some_at (l := l1) (i := i) hil'
          obtain ⟨bk, off, rfl, hb, hcs⟩ := Fwc.out.ship (by rw [HN.out]; omega)
          have hcx := hcs i _ hx
          obtain ⟨hq, hdl⟩ := need_days HOK.out hil'
          have hsk := shipOK_at (areShips_ok (needOK_and HOK.out).1 hx)
          rw [HX.out] at hq hdl
          have HBE := Lib.hid hbel
          generalize l1[i]! = x at hcx hq hdl hsk
          obtain ⟨x0, x1, x2, x3, x4, x5⟩ := x
          dsimp only at hcx hq hdl hsk
          have c0 : wr.cell? ⟨bk, off + i * 6, none⟩ = some (.int .i64 x0) := by rw [hbel.cell hb]; exact hcx.1
          have HCX := Lib.hid (fun (W : World) (hW : Below wc.heap.size wc W) => (show W.cell? ⟨bk, off + i * 6, none⟩ = some (.int .i64 x0) ∧ W.cell? ⟨bk, off + i * 6 + 1, none⟩ = some (.int .i64 x1) ∧ W.cell? ⟨bk, off + i * 6 + 2, none⟩ = some (.int .i64 x2) ∧ W.cell? ⟨bk, off + i * 6 + 4, none⟩ = some (.int .i64 x4) ∧ W.cell? ⟨bk, off + i * 6 + 5, none⟩ = some (.int .i64 x5) from by
            rw [hW.cell hb, hW.cell hb, hW.cell hb, hW.cell hb, hW.cell hb]
            exact ⟨hcx.1, hcx.2.1, hcx.2.2.1, hcx.2.2.2.2.1, hcx.2.2.2.2.2⟩))
          have HQ := Lib.hid hq
          have HDL := Lib.hid hdl
          have e1 : IntKind.i64.wrap (x2 - x1) = x2 - x1 := IntWalk.i64_in _ (by omega)
          have hbw : bk < wr.heap.size := by omega
          have i1 : (i : Int) < n1 := by omega
          have i2 : (0 : Int) ≤ i := by omega
          clear hil' hx hcs hcx hq hdl hbel hsk
          go_wp2_with fail
          refine (impl_DaysAtQuay_any l1 X n1 m1 HN.out HM.out _ _ _ _ x0 _ hcl (by omega) (by omega) (Fwc.out.past HBE.out) (RVc.out.past HBE.out)).mono ?_
          rintro e w7 ⟨v7, rfl, ov, bb⟩
          rw [HQ.out]
          obtain ⟨A7, c7, rfl, _, _, _⟩ := ov.slice
          have hdl := HDL.out
          have hd6 := daysP_length l1 X x0
          obtain ⟨dl, hdd⟩ : ∃ z, (daysP l1 X x0).length = z := ⟨_, rfl⟩
          rw [hdd] at hdl hd6 ⊢
          have HB7 := Lib.hid (below_step HBE.out bb)
          have hlt7 : bk < w7.heap.size := by have := HB7.out.size; omega
          clear bb c0 ov hdd
          obtain ⟨c0, c1, c2', c4', c5'⟩ := HCX.out w7 HB7.out
          by_cases hh : x5 < x4
          · have hb5 : decide (x5 < x4) = true := decide_eq_true hh
            have hdl' := hdl hh
            have HDE := Lib.hid hdl'
            rw [← hdl'] at e1
            clear hdl hdl'
            have e2 : IntKind.i64.wrap (x2 - x1) = (dl : Int) := by rw [← HDE.out]; exact e1
            clear e1
            go_wp2
            refine wp_region_gw (by kernel_rfl) (by kernel_rfl) ?_
            repeat (first | go_big_quiet_step ((fail)) | quiet_step ((fail)))
            refine wpQuiet_nil ?_
            rintro _ ⟨pq, rfl⟩
            go_wp2
            go_roundw
            case rel => exact ⟨i + 1, by omega, by go_num, below_step HB7.out (by repeat (first | assumption | exact Below.refl _ _ | apply bl_gw | apply bl_alloc | apply bl_drewN | apply bl_drew))⟩
            case measure => simp [intOf]; omega
          · have hb5 : decide (x5 < x4) = false := decide_eq_false hh
            clear hdl
            go_wp2
            refine wp_region_gw (by kernel_rfl) (by kernel_rfl) ?_
            repeat (first | go_big_quiet_step ((fail)) | quiet_step ((fail)))
            refine wpQuiet_nil ?_
            rintro _ ⟨pq, rfl⟩
            go_wp2
            go_roundw
            case rel => exact ⟨i + 1, by omega, by go_num, below_step HB7.out (by repeat (first | assumption | exact Below.refl _ _ | apply bl_gw | apply bl_alloc | apply bl_drewN | apply bl_drew))⟩
            case measure => simp [intOf]; omega
        · have HBE := Lib.hid hbel
          have HIN := Lib.hid hin
          have Bwr := Lib.hid (below_step Bwc.out hbel)
          clear hbel hin hsz RVc Fwc
          have hend : (i : Int) < n1 → ok = false := fun h => by
            cases hok : ok with
            | false => rfl
            | true => exact absurd ⟨by omega, hok⟩ HIN.out
          have HEND := Lib.hid hend
          clear hend
          go_upto_region 9 with (fail)
          go_cut [68] from 39 (fun u wx => u = .bool false ∧ wx = wr)
          case first => as_aux_lemma =>
            by_cases hil : (i : Int) < n1
            · obtain rfl := HEND.out hil
              go_wp2
              go_meet
              exact ⟨by first | rfl | (simp; done), rfl⟩
            · go_wp2
              go_meet
              exact ⟨by first | rfl | (simp; done), rfl⟩
          case rest => as_aux_lemma =>
            obtain ⟨rfl, rfl⟩ := hcut
            go_wp2_with fail
            refine (drawLoadedBy_any A n c _ (HC.out.past Bwr.out)).mono ?_
            rintro e w1 ⟨lv, tv, l2, t2, z, d, rfl, hd0, hd1, hl22, ht22, ol, ot, bb⟩
            obtain ⟨Bl, dl, rfl, hdl, _, _⟩ := ol.slice
            obtain ⟨Bt, dt, rfl, hdt, _, _⟩ := ot.slice
            have Ew1 := Lib.hid ol.rd
            have Tw1 := Lib.hid ot.rd
            have Bw1 := Lib.hid (below_step Bwr.out bb)
            clear ol ot bb
            obtain ⟨n2, hn2⟩ : ∃ n, l2.length = n := ⟨_, rfl⟩
            obtain ⟨r2, hr2⟩ : ∃ n, t2.length = n := ⟨_, rfl⟩
            rw [hn2] at hl22 hdl ⊢
            rw [hr2] at ht22 hdt ⊢
            have HN2 := Lib.hid hn2
            have HR2 := Lib.hid hr2
            clear hn2 hr2
            obtain ⟨fine, hfine⟩ : ∃ x, loadOK l2 t2 z d = x := ⟨_, rfl⟩
            obtain ⟨ld, hld⟩ : ∃ x, loadP l2 t2 z d = x := ⟨_, rfl⟩
            obtain ⟨one, hone⟩ : ∃ x, loadOK l2 t2 z (d + 1) = x := ⟨_, rfl⟩
            obtain ⟨lt, hlt⟩ : ∃ x, loadP l2 t2 z (d + 1) = x := ⟨_, rfl⟩
            have hbd := load_small (l := l2) (wt := t2) (id := z) (d := d)
            rw [hld] at hbd
            have hnx : fine = true → one = true → ld ≤ lt ∧ lt ≤ ld + 300 := fun h1 h2 => by
              have := load_next (hfine.trans h1) (hone.trans h2)
              rwa [hld, hlt] at this
            have HFI := Lib.hid hfine
            have HLD := Lib.hid hld
            have HON := Lib.hid hone
            have HLT := Lib.hid hlt
            have HNX := Lib.hid hnx
            clear hfine hld hone hlt hnx
            go_wp2_with fail
            refine (impl_LoadedBy_any l2 t2 n2 r2 HN2.out HR2.out _ _ _ _ z d _ hdl hdt (by omega) (by omega) Ew1.out Tw1.out).mono ?_
            rintro e w2 ⟨rfl, bb⟩
            rw [HLD.out, HFI.out]
            have Ew2 := Lib.hid (Ew1.out.past bb)
            have Tw2 := Lib.hid (Tw1.out.past bb)
            have Bw2 := Lib.hid (below_step Bw1.out bb)
            clear bb
            go_wp2_with fail
            refine (spec_LoadedBy_any l2 t2 n2 r2 HN2.out HR2.out _ _ _ _ z d _ hdl hdt (by omega) (by omega) Ew2.out Tw2.out).mono ?_
            rintro e w3 ⟨rfl, bb⟩
            rw [HLD.out, HFI.out]
            have Ew3 := Lib.hid (Ew2.out.past bb)
            have Tw3 := Lib.hid (Tw2.out.past bb)
            have Bw3 := Lib.hid (below_step Bw2.out bb)
            clear bb
            go_upto_region 17 with (fail)
            go_cut [143] from 39 (fun u wx => u = .bool false ∧ wx = w3)
            case first => as_aux_lemma =>
              go_wp2
              go_meet
              exact ⟨by first | rfl | (simp; done), rfl⟩
            case rest => as_aux_lemma =>
              obtain ⟨rfl, rfl⟩ := hcut
              have e1 : IntKind.i64.wrap (d + 1) = d + 1 := IntWalk.i64_in _ (by omega)
              go_wp2_with fail
              refine (impl_LoadedBy_any l2 t2 n2 r2 HN2.out HR2.out _ _ _ _ z (d + 1) _ hdl hdt (by omega) (by omega) Ew3.out Tw3.out).mono ?_
              rintro e w4 ⟨rfl, bb⟩
              rw [HLT.out, HON.out]
              have Bw4 := Lib.hid (below_step Bw3.out bb)
              clear bb e1 Ew1 Ew2 Ew3 Tw1 Tw2 Tw3
              go_upto_region 20 with (fail)
              go_cut [167] from 39 (fun u wx => u = .bool false ∧ wx = w4)
              case first => as_aux_lemma =>
                have e2 : IntKind.i64.wrap (ld + 300) = ld + 300 := IntWalk.i64_in _ (by omega)
                cases fine
                · go_wp2
                  go_meet
                  exact ⟨by first | rfl | (simp; done), rfl⟩
                · cases one
                  · go_wp2
                    go_meet
                    exact ⟨by first | rfl | (simp; done), rfl⟩
                  · obtain ⟨h1, h2⟩ := HNX.out rfl rfl
                    have h3 : decide (lt < ld) = false := decide_eq_false (by omega)
                    have h4 : decide (ld + 300 < lt) = false := decide_eq_false (by omega)
                    have h5 : ¬ lt < ld := by omega
                    have h6 : ¬ ld + 300 < lt := by omega
                    go_wp2
                    go_meet
                    exact ⟨by first | rfl | (simp; done), rfl⟩
              case rest => as_aux_lemma =>
                obtain ⟨rfl, rfl⟩ := hcut
                clear HFI HLD HON HLT HNX hbd hd0 hd1 hl22 ht22 hdl hdt
                go_wp2_with fail
                refine (drawSendShip_any A n c _ (HC.out.past Bw4.out)).mono ?_
                rintro e w1 ⟨lv, l3, z3, rfl, hl33, ol, bb⟩
                obtain ⟨Cl, el, rfl, hel, _, _⟩ := ol.slice
                have Sw1 := Lib.hid ol.rd
                have Bw1' := Lib.hid (below_step Bw4.out bb)
                clear ol bb
                obtain ⟨n3, hn3⟩ : ∃ n, l3.length = n := ⟨_, rfl⟩
                rw [hn3] at hl33 hel ⊢
                have HN3 := Lib.hid hn3
                clear hn3
                obtain ⟨told, htold⟩ : ∃ x, sendOK l3 z3 = x := ⟨_, rfl⟩
                obtain ⟨Y, hY⟩ : ∃ x, sendP l3 z3 = x := ⟨_, rfl⟩
                obtain ⟨m3, hm3⟩ : ∃ n, Y.length = n := ⟨_, rfl⟩
                have hm33 : m3 ≤ 1000000 := by rw [← hm3, ← hY]; exact sendP_length _ _
                have hsl : told = true → (m3 : Int) = (n3 : Int) - 1 := fun h => by
                  rw [← hm3, ← hY, send_len (htold.trans h), HN3.out]
                have HTO := Lib.hid htold
                have HY := Lib.hid hY
                have HM3 := Lib.hid hm3
                have HSL := Lib.hid hsl
                clear htold hY hm3 hsl
                go_wp2_with fail
                refine (impl_SendShip_any l3 n3 HN3.out _ _ z3 _ hel (by omega) Sw1.out).mono ?_
                rintro e w2 ⟨v2, rfl, ov, bb⟩
                rw [HY.out] at ov
                rw [HTO.out]
                obtain ⟨A5, c5, rfl, _, _, _⟩ := ov.slice
                rw [HM3.out] at ov ⊢
                have OV := Lib.hid ov
                have Sw2 := Lib.hid (Sw1.out.past bb)
                have Bw2' := Lib.hid (below_step Bw1'.out bb)
                clear ov bb
                go_wp2_with fail
                refine (spec_SendShip_any l3 n3 HN3.out _ _ z3 _ hel (by omega) Sw2.out).mono ?_
                rintro e w3 ⟨v3, rfl, ov, bb⟩
                rw [HY.out] at ov
                rw [HTO.out]
                obtain ⟨A6, c6, rfl, _, _, _⟩ := ov.slice
                rw [HM3.out] at ov ⊢
                have PV := Lib.hid ov.rd
                have RV := Lib.hid (OV.out.past bb (Nat.le_refl _)).rd
                have Sw3 := Lib.hid (Sw2.out.past bb)
                have Bw3' := Lib.hid (below_step Bw2'.out bb)
                clear ov bb OV
                go_upto_region 25 with (fail)
                go_cut [204] from 39 (fun u wx => u = .bool false ∧ Below w3.heap.size w3 wx)
                case first => as_aux_lemma =>
                  cases told
                  · go_wp2_with (first | (go_at_call 20; refine (rShips_same Y m3 HM3.out _ _ _ _ _ (by omega) (RV.out.past (by repeat (first | assumption | exact Below.refl _ _ | apply bl_gw | apply bl_alloc | apply bl_drewN | apply bl_drew))) (PV.out.past (by repeat (first | assumption | exact Below.refl _ _ | apply bl_gw | apply bl_alloc | apply bl_drewN | apply bl_drew)))).mono ?_; rintro e w1 ⟨rfl, hb⟩; obtain ⟨p, rfl⟩ := below_gw hb; clear hb))
                    go_meet
                    exact ⟨by first | rfl | (simp; done), (by repeat (first | assumption | exact Below.refl _ _ | apply bl_gw | apply bl_alloc | apply bl_drewN | apply bl_drew))⟩
                  · have h1 := HSL.out rfl
                    have e1 : IntKind.i64.wrap ((n3 : Int) - 1) = (m3 : Int) := by rw [IntWalk.i64_in _ (by omega), h1]
                    clear h1
                    go_wp2_with (first | (go_at_call 20; refine (rShips_same Y m3 HM3.out _ _ _ _ _ (by omega) (RV.out.past (by repeat (first | assumption | exact Below.refl _ _ | apply bl_gw | apply bl_alloc | apply bl_drewN | apply bl_drew))) (PV.out.past (by repeat (first | assumption | exact Below.refl _ _ | apply bl_gw | apply bl_alloc | apply bl_drewN | apply bl_drew)))).mono ?_; rintro e w1 ⟨rfl, hb⟩; obtain ⟨p, rfl⟩ := below_gw hb; clear hb))
                    go_meet
                    exact ⟨by first | rfl | (simp; done), (by repeat (first | assumption | exact Below.refl _ _ | apply bl_gw | apply bl_alloc | apply bl_drewN | apply bl_drew))⟩
                case rest => as_aux_lemma =>
                  obtain ⟨rfl, bb⟩ := hcut
                  have Sw4 := Lib.hid (Sw3.out.past bb)
                  have Bw4' := Lib.hid (below_step Bw3'.out bb)
                  clear bb RV PV Sw1 Sw2 Sw3 HTO HY HM3 HSL
                  go_wp2_with fail
                  refine (drawDaysAtQuay_any A n c _ (HC.out.past Bw4'.out)).mono ?_
                  rintro e w1 ⟨lv, tv, l4, t4, z4, rfl, hl44, ht44, ol, ot, bb⟩
                  obtain ⟨Dl, fl, rfl, hfl, _, _⟩ := ol.slice
                  obtain ⟨Dt, ft, rfl, hft, _, _⟩ := ot.slice
                  have Ew1 := Lib.hid ol.rd
                  have Tw1 := Lib.hid ot.rd
                  have Sw5 := Lib.hid (Sw4.out.past bb)
                  have Bw5 := Lib.hid (below_step Bw4'.out bb)
                  clear ol ot bb Sw4
                  obtain ⟨n4, hn4⟩ : ∃ n, l4.length = n := ⟨_, rfl⟩
                  obtain ⟨r4, hr4⟩ : ∃ n, t4.length = n := ⟨_, rfl⟩
                  rw [hn4] at hl44 hfl ⊢
                  rw [hr4] at ht44 hft ⊢
                  have HN4 := Lib.hid hn4
                  have HR4 := Lib.hid hr4
                  clear hn4 hr4
                  obtain ⟨known, hkn⟩ : ∃ x, quayOK l4 t4 z4 = x := ⟨_, rfl⟩
                  obtain ⟨Z, hZ⟩ : ∃ x, daysP l4 t4 z4 = x := ⟨_, rfl⟩
                  obtain ⟨m4, hm4⟩ : ∃ n, Z.length = n := ⟨_, rfl⟩
                  have hm44 : m4 ≤ 1000000 := by rw [← hm4, ← hZ]; exact daysP_length _ _ _
                  have HKN := Lib.hid hkn
                  have HZ := Lib.hid hZ
                  have HM4 := Lib.hid hm4
                  clear hkn hZ hm4
                  go_wp2_with fail
                  refine (impl_DaysAtQuay_any l4 t4 n4 r4 HN4.out HR4.out _ _ _ _ z4 _ hfl (by omega) (by omega) Ew1.out Tw1.out).mono ?_
                  rintro e w2 ⟨v2, rfl, ov, bb⟩
                  rw [HZ.out] at ov
                  rw [HKN.out]
                  obtain ⟨A7, c7, rfl, _, _, _⟩ := ov.slice
                  rw [HM4.out] at ov ⊢
                  have OV := Lib.hid ov
                  have Ew2 := Lib.hid (Ew1.out.past bb)
                  have Tw2 := Lib.hid (Tw1.out.past bb)
                  have Sw6 := Lib.hid (Sw5.out.past bb)
                  have Bw6 := Lib.hid (below_step Bw5.out bb)
                  clear ov bb Sw5
                  go_wp2_with fail
                  refine (spec_DaysAtQuay_any l4 t4 n4 r4 HN4.out HR4.out _ _ _ _ z4 _ hfl (by omega) (by omega) Ew2.out Tw2.out).mono ?_
                  rintro e w3 ⟨v3, rfl, ov, bb⟩
                  rw [HZ.out] at ov
                  rw [HKN.out]
                  obtain ⟨A8, c8, rfl, _, _, _⟩ := ov.slice
                  rw [HM4.out] at ov ⊢
                  have PV := Lib.hid ov.rd
                  have RV := Lib.hid (OV.out.past bb (Nat.le_refl _)).rd
                  have Sw7 := Lib.hid (Sw6.out.past bb)
                  have Bw7 := Lib.hid (below_step Bw6.out bb)
                  clear ov bb OV Sw6 Ew1 Ew2 Tw1 Tw2
                  go_wp2_with fail
                  refine (drawShipText_any A n c _ (HC.out.past Bw7.out)).mono ?_
                  rintro e w4 ⟨a0, a1, a2, a3, a4, a5, rfl, bb⟩
                  have B8 := Lib.hid (below_step Bw7.out bb)
                  have Sw8 := Lib.hid (Sw7.out.past bb)
                  have PV8 := Lib.hid (PV.out.past bb)
                  have RV8 := Lib.hid (RV.out.past bb)
                  clear bb PV RV Sw7
                  obtain ⟨cok, hcok⟩ : ∃ x, shipOK ⟨a0, a1, a2, a3, a4, a5⟩ = x := ⟨_, rfl⟩
                  obtain ⟨tx, htx⟩ : ∃ x, shipT ⟨a0, a1, a2, a3, a4, a5⟩ = x := ⟨_, rfl⟩
                  obtain ⟨ar, har⟩ : ∃ x, areShips l3 = x := ⟨_, rfl⟩
                  have HCO := Lib.hid hcok
                  have HTX := Lib.hid htx
                  have HAR := Lib.hid har
                  have HNU4 := Lib.hid (HNU.out.past B8.out)
                  clear hcok htx har
                  go_wp2_with (first
                    | (go_at_call 7; refine (impl_ShipText_any _ _ _ _ _ _ _ (HNU4.out.past (by repeat (first | assumption | exact Below.refl _ _ | apply bl_gw | apply bl_alloc | apply bl_drewN | apply bl_drew)))).mono ?_; rintro e w5 ⟨rfl, hb⟩; rw [HCO.out, HTX.out]; obtain ⟨p5, rfl⟩ := below_gw hb; clear hb)
                    | (go_at_call 5; refine (spec_ShipText_any _ _ _ _ _ _ _).mono ?_; rintro e w5 ⟨rfl, hb⟩; rw [HCO.out, HTX.out]; obtain ⟨p5, rfl⟩ := below_gw hb; clear hb)
                    | (go_at_call 24; refine (IsShip_any _ _ _ _ _ _ _).mono ?_; rintro e w5 ⟨rfl, hb⟩; rw [HCO.out]; obtain ⟨p5, rfl⟩ := below_gw hb; clear hb)
                    | (go_at_call 12; refine (rInts_same Z m4 HM4.out _ _ _ _ _ (by omega) (RV8.out.past (by repeat (first | assumption | exact Below.refl _ _ | apply bl_gw | apply bl_alloc | apply bl_drewN | apply bl_drew))) (PV8.out.past (by repeat (first | assumption | exact Below.refl _ _ | apply bl_gw | apply bl_alloc | apply bl_drewN | apply bl_drew)))).mono ?_; rintro e w1 ⟨rfl, hb⟩; obtain ⟨p, rfl⟩ := below_gw hb; clear hb)
                    | (go_at_call 25; refine (impl_AreShips_any l3 n3 HN3.out _ _ _ hel (by omega) (Sw8.out.past (by repeat (first | assumption | exact Below.refl _ _ | apply bl_gw | apply bl_alloc | apply bl_drewN | apply bl_drew)))).mono ?_; rintro e w5 ⟨rfl, hb⟩; rw [HAR.out]; obtain ⟨p5, rfl⟩ := below_gw hb; clear hb)
                    | (go_at_call 26; refine (specAreShips_any l3 n3 HN3.out _ _ _ hel (by omega) (Sw8.out.past (by repeat (first | assumption | exact Below.refl _ _ | apply bl_gw | apply bl_alloc | apply bl_drewN | apply bl_drew)))).mono ?_; rintro e w5 ⟨rfl, hb⟩; rw [HAR.out]; obtain ⟨p5, rfl⟩ := below_gw hb; clear hb))
                  go_ret
                  exact ⟨by first | rfl | (simp; done), below_step B8.out (by repeat (first | assumption | exact Below.refl _ _ | apply bl_gw | apply bl_alloc | apply bl_drewN | apply bl_drew))⟩
end Go.Proofs.YtggdcjajiaeklaaDoor
