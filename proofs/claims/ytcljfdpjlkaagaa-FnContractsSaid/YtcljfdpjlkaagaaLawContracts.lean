/- The law FnContracts: the walk. No ton is lost, where it is enough all is given, and the best choice earns no less. -/
import Derived.Test.YtcljfdpjlkaagaaLawConB
namespace Go.Proofs.Ytcljfdpjlkaagaa
open Go.RowKit
theorem one_yes {s : List Int} {x : Contract} (h : oneOK s x = true) : 0 ≤ oneN s x ∧ oneN s x ≤ x.tons := by
  have h' := h
  simp only [oneOK, Bool.and_eq_true] at h'
  rw [oneN, if_pos h]
  exact (serveP_in (stockOK_in h'.1) h'.2).2
theorem one_no {s : List Int} {x : Contract} (h : oneOK s x = false) : oneN s x = 0 ∧ oneS s x = [] := by
  unfold oneN oneS
  rw [h]
  exact ⟨rfl, rfl⟩
/-- Two lists that can be read. -/
structure Two (w : World) (As Al : Option Addr) (s : List Int) (l : List Contract) : Prop where
  ss : Sl encInt w w.heap.size As s
  sl : Sl encContract w w.heap.size Al l
theorem Two.past {w w' : World} {As Al : Option Addr} {s : List Int} {l : List Contract} (h : Two w As Al s l) (hb : Below w.heap.size w w') : Two w' As Al s l :=
  ⟨h.ss.past hb, h.sl.past hb⟩
/-- What stands once a stock and a contract are drawn. -/
def DrawnC (w : World) (u v : Value) (wx : World) : Prop :=
  ∃ (As : Option Addr) (cs : Nat) (s : List Int) (bk : Nat) (a0 a1 a2 a3 a4 a5 a6 : Int), u = .slice As s.length cs ∧ s.length ≤ 4 ∧ v = .pointer (some ⟨bk, 0, none⟩) ∧ Blk wx bk 25 #[.int .i64 a0, .int .i64 a1, .int .i64 a2, .int .i64 a3, .int .i64 a4, .int .i64 a5, .int .i64 a6] ∧ Sl encInt wx wx.heap.size As s ∧ Below w.heap.size w wx
set_option maxRecDepth 4000 in
set_option maxHeartbeats 16000000 in
theorem FnContracts_walk (A : Option Addr) (n c : Nat) (w : World) (hc : Bytes w A n) :
    Calls Try.prog 13 #[.slice A n c] w fun e w' => e = .returned (.bool true) ∧ Below w.heap.size w w' := by
  have HC := Lib.hid hc
  clear hc
  by_cases hbig : (65536 : Int) < n
  · go_enter Try.func13, Try.ntmps13
    go_wp2_with (go_at_call 44; refine (rBig_any _ _ _ _).mono ?_; rintro e w1 ⟨rfl, rfl⟩)
    go_ret
    exact ⟨rfl, Below.refl _ _⟩
  · have B00 := Lib.hid (Below.refl w.heap.size w)
    go_enter Try.func13, Try.ntmps13
    go_wp2_with (go_at_call 44; refine (rBig_any _ _ _ _).mono ?_; rintro e w1 ⟨rfl, rfl⟩)
    refine (drawServeAll_any A n c _ HC.out).mono ?_
    rintro e w1 ⟨sv, lv, s1, l1, rfl, hs4, hl11, os, ol, bb⟩
    obtain ⟨As, cs, rfl, hcs, _, _⟩ := os.slice
    obtain ⟨Al, cl, rfl, hcl, _, _⟩ := ol.slice
    have Fw1 := Lib.hid (Two.mk os.rd ol.rd)
    have Bw1 := Lib.hid (below_step B00.out bb)
    clear os ol bb
    obtain ⟨m1, hm1⟩ : ∃ n, s1.length = n := ⟨_, rfl⟩
    obtain ⟨n1, hn1⟩ : ∃ n, l1.length = n := ⟨_, rfl⟩
    rw [hm1] at hs4 hcs ⊢
    rw [hn1] at hl11 hcl ⊢
    have HM := Lib.hid hm1
    have HN := Lib.hid hn1
    clear hm1 hn1
    obtain ⟨ok, hok⟩ : ∃ x, allOK s1 l1 = x := ⟨_, rfl⟩
    obtain ⟨R, hR⟩ : ∃ x, allS s1 l1 = x := ⟨_, rfl⟩
    obtain ⟨G, hG⟩ : ∃ x, allG s1 l1 = x := ⟨_, rfl⟩
    have HOK := Lib.hid hok
    have HR := Lib.hid hR
    have HG := Lib.hid hG
    have hRG : R.length ≤ 11 ∧ G.length ≤ 11 := by
      cases h : allOK s1 l1 with
      | true =>
        obtain ⟨_, _, _, h4, _, h6⟩ := all_tons h
        rw [hR] at h4
        rw [hG] at h6
        have := HN.out
        omega
      | false =>
        rw [← hR, ← hG, allS, allG, h]
        simp
    clear hok hR hG
    go_wp2_with fail
    refine (impl_ServeAll_any s1 l1 m1 n1 HM.out HN.out _ _ _ _ _ (by omega) (by omega) Fw1.out.ss Fw1.out.sl).mono ?_
    rintro e w2 ⟨v2, u2, rfl, ov, ou, _, bb⟩
    rw [HR.out] at ov
    rw [HG.out] at ou
    rw [HOK.out]
    obtain ⟨A2, c2, rfl, _, _, _⟩ := ov.slice
    obtain ⟨A3, c3, rfl, _, _, _⟩ := ou.slice
    obtain ⟨r2, hr2⟩ : ∃ n, R.length = n := ⟨_, rfl⟩
    obtain ⟨g2, hg2⟩ : ∃ n, G.length = n := ⟨_, rfl⟩
    rw [hr2, hg2] at hRG
    rw [hr2] at ov ⊢
    rw [hg2] at ou ⊢
    have HRL := Lib.hid hr2
    have HGL := Lib.hid hg2
    have OV := Lib.hid ov
    have OU := Lib.hid ou
    have Fw2 := Lib.hid (Fw1.out.past bb)
    have Bw2 := Lib.hid (below_step Bw1.out bb)
    obtain ⟨hr11, hg11⟩ := hRG
    clear ov ou bb hr2 hg2
    go_wp2_with fail
    refine (spec_ServeAll_any s1 l1 m1 n1 HM.out HN.out _ _ _ _ _ (by omega) (by omega) Fw2.out.ss Fw2.out.sl).mono ?_
    rintro e w3 ⟨v3, u3, rfl, ov, ou, bb⟩
    rw [HR.out] at ov
    rw [HG.out] at ou
    rw [HOK.out]
    obtain ⟨A4, c4, rfl, _, _, _⟩ := ov.slice
    obtain ⟨A5, c5, rfl, _, _, _⟩ := ou.slice
    rw [HRL.out] at ov ⊢
    rw [HGL.out] at ou ⊢
    have PV := Lib.hid ov.rd
    have PU := Lib.hid ou.rd
    have RV := Lib.hid (OV.out.past bb (Nat.le_refl _)).rd
    have RU := Lib.hid (OU.out.past bb (Nat.le_refl _)).rd
    have Fw3 := Lib.hid (Fw2.out.past bb)
    have Bw3 := Lib.hid (below_step Bw2.out bb)
    clear ov ou bb OV OU
    go_upto_region 6 with (fail)
    go_cut [83] from 35 (fun u wx => u = .bool false ∧ Below w3.heap.size w3 wx)
    case first => as_aux_lemma =>
      cases ok
      · go_wp2_with (first | (go_at_call_of 46 A2; refine (rInts_same R r2 HRL.out _ _ _ _ _ (by omega) (RV.out.past (by repeat (first | assumption | exact Below.refl _ _ | apply bl_gw | apply bl_alloc | apply bl_drewN | apply bl_drew))) (PV.out.past (by repeat (first | assumption | exact Below.refl _ _ | apply bl_gw | apply bl_alloc | apply bl_drewN | apply bl_drew)))).mono ?_; rintro e w1 ⟨rfl, hb⟩; obtain ⟨p, rfl⟩ := below_gw hb; clear hb) | (go_at_call_of 46 A3; refine (rInts_same G g2 HGL.out _ _ _ _ _ (by omega) (RU.out.past (by repeat (first | assumption | exact Below.refl _ _ | apply bl_gw | apply bl_alloc | apply bl_drewN | apply bl_drew))) (PU.out.past (by repeat (first | assumption | exact Below.refl _ _ | apply bl_gw | apply bl_alloc | apply bl_drewN | apply bl_drew)))).mono ?_; rintro e w1 ⟨rfl, hb⟩; obtain ⟨p, rfl⟩ := below_gw hb; clear hb))
        go_meet
        exact ⟨by first | rfl | (simp; done), (by repeat (first | assumption | exact Below.refl _ _ | apply bl_gw | apply bl_alloc | apply bl_drewN | apply bl_drew))⟩
      · obtain ⟨t1, t2, t3, _, _, _⟩ := all_tons HOK.out
        have hsum := all_sum HOK.out
        rw [HR.out] at t2 hsum
        rw [HG.out] at t3 hsum
        have q1 := sumTo_rng t2 R.length (Nat.le_refl _)
        have q2 := sumTo_rng t3 G.length (Nat.le_refl _)
        unfold sumTo at q1 q2
        rw [List.take_length, HRL.out] at q1
        rw [List.take_length, HGL.out] at q2
        have T1 := Lib.hid (fun (W : World) (hb : Below w3.heap.size w3 W) => rSum_any R r2 HRL.out A2 c2 W (by omega) t2 (RV.out.past hb))
        have T2 := Lib.hid (fun (W : World) (hb : Below w3.heap.size w3 W) => rSum_any G g2 HGL.out A3 c3 W (by omega) t3 (RU.out.past hb))
        have T3 := Lib.hid (fun (W : World) (hb : Below w3.heap.size w3 W) => rSum_any s1 m1 HM.out As cs W (by omega) t1 (Fw3.out.ss.past hb))
        obtain ⟨a, ha⟩ : ∃ a, sumI R = a := ⟨_, rfl⟩
        obtain ⟨b, hb⟩ : ∃ a, sumI G = a := ⟨_, rfl⟩
        rw [ha] at T1 hsum q1
        rw [hb] at T2 hsum q2
        rw [← hsum] at T3
        have e1 : IntKind.i64.wrap (a + b) = a + b := IntWalk.i64_in _ (by omega)
        clear ha hb hsum t1 t2 t3 q1 q2
        go_wp2_with (first | (go_at_call_of 46 A2; refine (rInts_same R r2 HRL.out _ _ _ _ _ (by omega) (RV.out.past (by repeat (first | assumption | exact Below.refl _ _ | apply bl_gw | apply bl_alloc | apply bl_drewN | apply bl_drew))) (PV.out.past (by repeat (first | assumption | exact Below.refl _ _ | apply bl_gw | apply bl_alloc | apply bl_drewN | apply bl_drew)))).mono ?_; rintro e w1 ⟨rfl, hb⟩; obtain ⟨p, rfl⟩ := below_gw hb; clear hb) | (go_at_call_of 46 A3; refine (rInts_same G g2 HGL.out _ _ _ _ _ (by omega) (RU.out.past (by repeat (first | assumption | exact Below.refl _ _ | apply bl_gw | apply bl_alloc | apply bl_drewN | apply bl_drew))) (PU.out.past (by repeat (first | assumption | exact Below.refl _ _ | apply bl_gw | apply bl_alloc | apply bl_drewN | apply bl_drew)))).mono ?_; rintro e w1 ⟨rfl, hb⟩; obtain ⟨p, rfl⟩ := below_gw hb; clear hb) | (go_at_call_of 47 A2; refine (T1.out _ (by repeat (first | assumption | exact Below.refl _ _ | apply bl_gw | apply bl_alloc | apply bl_drewN | apply bl_drew))).mono ?_; rintro e w1 ⟨rfl, rfl⟩) | (go_at_call_of 47 A3; refine (T2.out _ (by repeat (first | assumption | exact Below.refl _ _ | apply bl_gw | apply bl_alloc | apply bl_drewN | apply bl_drew))).mono ?_; rintro e w1 ⟨rfl, rfl⟩) | (go_at_call_of 47 As; refine (T3.out _ (by repeat (first | assumption | exact Below.refl _ _ | apply bl_gw | apply bl_alloc | apply bl_drewN | apply bl_drew))).mono ?_; rintro e w1 ⟨rfl, rfl⟩))
        go_meet
        exact ⟨by first | rfl | (simp; done), (by repeat (first | assumption | exact Below.refl _ _ | apply bl_gw | apply bl_alloc | apply bl_drewN | apply bl_drew))⟩
    case rest => as_aux_lemma =>
      obtain ⟨rfl, bb⟩ := hcut
      have RU4 := Lib.hid (RU.out.past bb)
      have Fwc := Lib.hid (Fw3.out.past bb)
      have Bwc := Lib.hid (below_step Bw3.out bb)
      clear bb RV RU PV PU
      obtain ⟨en, hen⟩ : ∃ x, enoughP s1 l1 = x := ⟨_, rfl⟩
      have HEN := Lib.hid hen
      clear hen
      go_wp2_with fail
      refine (impl_IsEnough_any s1 l1 m1 n1 HM.out HN.out _ _ _ _ _ (by omega) (by omega) Fwc.out.ss Fwc.out.sl).mono ?_
      rintro e w5 ⟨rfl, bb⟩
      rw [HEN.out, HOK.out]
      have RU5 := Lib.hid (RU4.out.past bb)
      have Fw5 := Lib.hid (Fwc.out.past bb)
      have Bw5 := Lib.hid (below_step Bwc.out bb)
      clear bb RU4
      go_wp2_with fail
      refine (spec_IsEnough_any s1 l1 m1 n1 HM.out HN.out _ _ _ _ _ (by omega) (by omega) Fw5.out.ss Fw5.out.sl).mono ?_
      rintro e w6 ⟨rfl, bb⟩
      rw [HEN.out, HOK.out]
      have RU6 := Lib.hid (RU5.out.past bb)
      have Fw6 := Lib.hid (Fw5.out.past bb)
      have Bw6 := Lib.hid (below_step Bw5.out bb)
      clear bb RU5
      go_upto_region 10 with (fail)
      go_cut [108] from 35 (fun u wx => u = .bool false ∧ wx = w6)
      case first => as_aux_lemma =>
        go_wp2
        go_meet
        exact ⟨by first | rfl | (simp; done), rfl⟩
      case rest => as_aux_lemma =>
        obtain ⟨rfl, rfl⟩ := hcut
        obtain ⟨ac, hac⟩ : ∃ x, areContracts l1 = x := ⟨_, rfl⟩
        obtain ⟨D, hD⟩ : ∃ x, neededP l1 = x := ⟨_, rfl⟩
        have HAC := Lib.hid hac
        have HD := Lib.hid hD
        have hd4 : D.length ≤ 4 := by rw [← hD]; unfold neededP; split <;> simp
        clear hac hD
        go_wp2_with fail
        refine (impl_NeededStock_any l1 n1 HN.out _ _ _ (by omega) Fw6.out.sl).mono ?_
        rintro e w7 ⟨v7, rfl, ov, bb⟩
        rw [HAC.out]
        rw [HD.out] at ov
        obtain ⟨A7, c7, rfl, _, _, _⟩ := ov.slice
        obtain ⟨d7, hd7⟩ : ∃ n, D.length = n := ⟨_, rfl⟩
        rw [hd7] at ov hd4 ⊢
        have HDL := Lib.hid hd7
        have OV := Lib.hid ov
        have RU7 := Lib.hid (RU6.out.past bb)
        have Fw7 := Lib.hid (Fw6.out.past bb)
        have Bw7 := Lib.hid (below_step Bw6.out bb)
        clear bb RU6 ov hd7
        go_wp2_with fail
        refine (spec_NeededStock_any l1 n1 HN.out _ _ _ (by omega) Fw7.out.sl).mono ?_
        rintro e w8 ⟨v8, rfl, ov, bb⟩
        rw [HAC.out]
        rw [HD.out] at ov
        obtain ⟨A8, c8, rfl, _, _, _⟩ := ov.slice
        rw [HDL.out] at ov ⊢
        have PV := Lib.hid ov.rd
        have RV := Lib.hid (OV.out.past bb (Nat.le_refl _)).rd
        have RU8 := Lib.hid (RU7.out.past bb)
        have Fw8 := Lib.hid (Fw7.out.past bb)
        have Bw8 := Lib.hid (below_step Bw7.out bb)
        clear bb RU7 ov OV
        go_upto_region 14 with (fail)
        go_cut [137] from 35 (fun u wx => u = .bool false ∧ Below w8.heap.size w8 wx)
        case first => as_aux_lemma =>
          cases en
          · go_wp2_with ((go_at_call_of 46 A7; refine (rInts_same D d7 HDL.out _ _ _ _ _ (by omega) (RV.out.past (by repeat (first | assumption | exact Below.refl _ _ | apply bl_gw | apply bl_alloc | apply bl_drewN | apply bl_drew))) (PV.out.past (by repeat (first | assumption | exact Below.refl _ _ | apply bl_gw | apply bl_alloc | apply bl_drewN | apply bl_drew)))).mono ?_; rintro e w1 ⟨rfl, hb⟩; obtain ⟨p, rfl⟩ := below_gw hb; clear hb))
            go_meet
            exact ⟨by first | rfl | (simp; done), (by repeat (first | assumption | exact Below.refl _ _ | apply bl_gw | apply bl_alloc | apply bl_drewN | apply bl_drew))⟩
          · have hok2 := (enough_at HEN.out).1
            have t1 := (need_tons hok2).1
            obtain ⟨_, _, t3, _, _, _⟩ := all_tons hok2
            have hsum := need_given HEN.out
            rw [HD.out] at t1 hsum
            rw [HG.out] at t3 hsum
            have T1 := Lib.hid (fun (W : World) (hb : Below w8.heap.size w8 W) => rSum_any D d7 HDL.out A7 c7 W (by omega) t1 (RV.out.past hb))
            have T2 := Lib.hid (fun (W : World) (hb : Below w8.heap.size w8 W) => rSum_any G g2 HGL.out A3 c3 W (by omega) t3 (RU8.out.past hb))
            rw [hsum] at T1
            obtain ⟨a, ha⟩ : ∃ a, sumI G = a := ⟨_, rfl⟩
            rw [ha] at T1 T2
            clear ha hsum t1 t3 hok2
            go_wp2_with (first | (go_at_call_of 46 A7; refine (rInts_same D d7 HDL.out _ _ _ _ _ (by omega) (RV.out.past (by repeat (first | assumption | exact Below.refl _ _ | apply bl_gw | apply bl_alloc | apply bl_drewN | apply bl_drew))) (PV.out.past (by repeat (first | assumption | exact Below.refl _ _ | apply bl_gw | apply bl_alloc | apply bl_drewN | apply bl_drew)))).mono ?_; rintro e w1 ⟨rfl, hb⟩; obtain ⟨p, rfl⟩ := below_gw hb; clear hb) | (go_at_call_of 47 A7; refine (T1.out _ (by repeat (first | assumption | exact Below.refl _ _ | apply bl_gw | apply bl_alloc | apply bl_drewN | apply bl_drew))).mono ?_; rintro e w1 ⟨rfl, rfl⟩) | (go_at_call_of 47 A3; refine (T2.out _ (by repeat (first | assumption | exact Below.refl _ _ | apply bl_gw | apply bl_alloc | apply bl_drewN | apply bl_drew))).mono ?_; rintro e w1 ⟨rfl, rfl⟩))
            go_meet
            exact ⟨by first | rfl | (simp; done), (by repeat (first | assumption | exact Below.refl _ _ | apply bl_gw | apply bl_alloc | apply bl_drewN | apply bl_drew))⟩
        case rest => as_aux_lemma =>
          obtain ⟨rfl, bb⟩ := hcut
          have Fwc := Lib.hid (Fw8.out.past bb)
          have Bwc := Lib.hid (below_step Bw8.out bb)
          clear bb RV PV RU8
          obtain ⟨ea, hea⟩ : ∃ x, earnP s1 l1 = x := ⟨_, rfl⟩
          obtain ⟨be, hbe⟩ : ∃ x, bestA s1 l1 = x := ⟨_, rfl⟩
          have HEA := Lib.hid hea
          have HBE := Lib.hid hbe
          clear hea hbe
          go_wp2_with fail
          refine (impl_EarnedBy_any s1 l1 m1 n1 HM.out HN.out _ _ _ _ _ (by omega) (by omega) Fwc.out.ss Fwc.out.sl).mono ?_
          rintro e w5 ⟨rfl, bb⟩
          rw [HEA.out, HOK.out]
          have Fw5 := Lib.hid (Fwc.out.past bb)
          have Bw5 := Lib.hid (below_step Bwc.out bb)
          clear bb
          go_wp2_with fail
          refine (spec_EarnedBy_any s1 l1 m1 n1 HM.out HN.out _ _ _ _ _ (by omega) (by omega) Fw5.out.ss Fw5.out.sl).mono ?_
          rintro e w6 ⟨rfl, bb⟩
          rw [HEA.out, HOK.out]
          have Fw6 := Lib.hid (Fw5.out.past bb)
          have Bw6 := Lib.hid (below_step Bw5.out bb)
          clear bb
          go_upto_region 18 with (fail)
          go_cut [157] from 35 (fun u wx => u = .bool false ∧ wx = w6)
          case first => as_aux_lemma =>
            go_wp2
            go_meet
            exact ⟨by first | rfl | (simp; done), rfl⟩
          case rest => as_aux_lemma =>
            obtain ⟨rfl, rfl⟩ := hcut
            go_wp2_with fail
            refine (impl_BestServed_any s1 l1 m1 n1 HM.out HN.out _ _ _ _ _ (by omega) (by omega) Fw6.out.ss Fw6.out.sl).mono ?_
            rintro e w7 ⟨rfl, bb⟩
            rw [HBE.out, HOK.out]
            have Fw7 := Lib.hid (Fw6.out.past bb)
            have Bw7 := Lib.hid (below_step Bw6.out bb)
            clear bb
            go_wp2_with fail
            refine (spec_BestServed_any s1 l1 m1 n1 HM.out HN.out _ _ _ _ _ (by omega) (by omega) Fw7.out.ss Fw7.out.sl).mono ?_
            rintro e w8 ⟨rfl, bb⟩
            rw [HBE.out, HOK.out]
            have Fw8 := Lib.hid (Fw7.out.past bb)
            have Bw8 := Lib.hid (below_step Bw7.out bb)
            clear bb
            go_upto_region 22 with (fail)
            go_cut [190] from 35 (fun u wx => u = .bool false ∧ wx = w8)
            case first => as_aux_lemma =>
              cases en
              · go_wp2
                go_meet
                exact ⟨by first | rfl | (simp; done), rfl⟩
              · have hle := earn_best HEN.out
                rw [HEA.out, HBE.out] at hle
                have k1 : ¬ be < ea := by omega
                go_wp2
                go_meet
                exact ⟨by first | rfl | (simp; done) | (simp; omega), rfl⟩
            case rest => as_aux_lemma =>
              obtain ⟨rfl, rfl⟩ := hcut
              go_upto_region 24 with (fail)
              go_cut [27, 28] from 35 (fun u v wx => DrawnC wc u v wx)
              case first => as_aux_lemma =>
                go_wp2_with fail
                refine (drawServeOne_any A n c _ (HC.out.past Bw8.out)).mono ?_
                rintro e w9 ⟨sv, s2, a0, a1, a2, a3, a4, a5, a6, rfl, hs4', os, bb⟩
                obtain ⟨As2, cs2, rfl, hcs2, _, _⟩ := os.slice
                have OS := Lib.hid os.rd
                have B9 := Lib.hid bb
                clear os bb
                go_wp2
                have KE := Blk.new w9 25 #[.int .i64 a0, .int .i64 a1, .int .i64 a2, .int .i64 a3, .int .i64 a4, .int .i64 a5, .int .i64 a6]
                have BE := bl_alloc (Below.refl w9.heap.size w9) (.cells #[.int .i64 a0, .int .i64 a1, .int .i64 a2, .int .i64 a3, .int .i64 a4, .int .i64 a5, .int .i64 a6] 25)
                go_meet
                exact ⟨As2, cs2, s2, w9.heap.size, a0, a1, a2, a3, a4, a5, a6, rfl, hs4', rfl, KE, OS.out.past BE, below_step B9.out BE⟩
              case rest => as_aux_lemma =>
                obtain ⟨As2, cs2, s2, bk, a0, a1, a2, a3, a4, a5, a6, rfl, hs4', rfl, kk, os, bb⟩ := hcut
                have KK := Lib.hid kk
                have OS := Lib.hid os
                have B9 := Lib.hid (below_step Bw8.out bb)
                clear kk os bb
                obtain ⟨m2, hm2⟩ : ∃ n, s2.length = n := ⟨_, rfl⟩
                rw [hm2] at hs4' ⊢
                have HM2 := Lib.hid hm2
                clear hm2
                have hbk := KK.out.lt
                have c0 : wc.cell? ⟨bk, 0, none⟩ = some (.int .i64 a0) := KK.out.cell 0
                have c1 : wc.cell? ⟨bk, 1, none⟩ = some (.int .i64 a1) := KK.out.cell 1
                have c2' : wc.cell? ⟨bk, 2, none⟩ = some (.int .i64 a2) := KK.out.cell 2
                have c3' : wc.cell? ⟨bk, 3, none⟩ = some (.int .i64 a3) := KK.out.cell 3
                have c4' : wc.cell? ⟨bk, 4, none⟩ = some (.int .i64 a4) := KK.out.cell 4
                have c5' : wc.cell? ⟨bk, 5, none⟩ = some (.int .i64 a5) := KK.out.cell 5
                have c6 : wc.cell? ⟨bk, 6, none⟩ = some (.int .i64 a6) := KK.out.cell 6
                go_wp2_with fail
                refine (impl_ServeOne_any s2 m2 HM2.out _ _ _ _ _ _ _ _ _ _ (by omega) OS.out).mono ?_
                rintro e w5 ⟨v5, rfl, ov, bb⟩
                clear c0 c1 c2' c3' c4' c5' c6
                have hyes := one_yes (s := s2) (x := ⟨a0, a1, a2, a3, a4, a5, a6⟩)
                have hno := one_no (s := s2) (x := ⟨a0, a1, a2, a3, a4, a5, a6⟩)
                have hlen := oneS_length s2 ⟨a0, a1, a2, a3, a4, a5, a6⟩
                obtain ⟨on, hon⟩ : ∃ x, oneN s2 ⟨a0, a1, a2, a3, a4, a5, a6⟩ = x := ⟨_, rfl⟩
                obtain ⟨ob, hob⟩ : ∃ x, oneOK s2 ⟨a0, a1, a2, a3, a4, a5, a6⟩ = x := ⟨_, rfl⟩
                obtain ⟨ol, hol⟩ : ∃ x, oneS s2 ⟨a0, a1, a2, a3, a4, a5, a6⟩ = x := ⟨_, rfl⟩
                rw [hol] at ov hlen
                rw [hon, hob]
                rw [hon, hob] at hyes
                rw [hon, hob, hol] at hno
                dsimp only at hyes
                have HON := Lib.hid hon
                have HOB := Lib.hid hob
                have HOL := Lib.hid hol
                have HY := Lib.hid hyes
                have HNO := Lib.hid hno
                clear hon hob hol hyes hno
                obtain ⟨A5, c5, rfl, _, _, _⟩ := ov.slice
                obtain ⟨k5, hk5⟩ : ∃ n, ol.length = n := ⟨_, rfl⟩
                rw [hk5] at ov hlen ⊢
                have HL5 := Lib.hid hk5
                have OV := Lib.hid ov
                have K5 := Lib.hid (KK.out.past bb)
                have OS5 := Lib.hid (OS.out.past bb)
                have B10 := Lib.hid (below_step B9.out bb)
                clear ov bb hk5 OS
                have c0 : w5.cell? ⟨bk, 0, none⟩ = some (.int .i64 a0) := K5.out.cell 0
                have c1 : w5.cell? ⟨bk, 1, none⟩ = some (.int .i64 a1) := K5.out.cell 1
                have c2' : w5.cell? ⟨bk, 2, none⟩ = some (.int .i64 a2) := K5.out.cell 2
                have c3' : w5.cell? ⟨bk, 3, none⟩ = some (.int .i64 a3) := K5.out.cell 3
                have c4' : w5.cell? ⟨bk, 4, none⟩ = some (.int .i64 a4) := K5.out.cell 4
                have c5' : w5.cell? ⟨bk, 5, none⟩ = some (.int .i64 a5) := K5.out.cell 5
                have c6 : w5.cell? ⟨bk, 6, none⟩ = some (.int .i64 a6) := K5.out.cell 6
                have hbk5 := K5.out.lt
                go_wp2_with fail
                refine (spec_ServeOne_any s2 m2 HM2.out _ _ _ _ _ _ _ _ _ _ (by omega) OS5.out).mono ?_
                rintro e w6 ⟨v6, rfl, ov, bb⟩
                clear c0 c1 c2' c3' c4' c5' c6
                rw [HON.out, HOB.out]
                rw [HOL.out] at ov
                obtain ⟨A6, c6, rfl, _, _, _⟩ := ov.slice
                rw [HL5.out] at ov ⊢
                have PV := Lib.hid ov.rd
                have RV := Lib.hid (OV.out.past bb (Nat.le_refl _)).rd
                have K6 := Lib.hid (K5.out.past bb)
                have B11 := Lib.hid (below_step B10.out bb)
                clear ov bb OV OS5
                have T1 := Lib.hid (rInts_same ol k5 HL5.out A5 A6 c5 c6 w6 (by omega) RV.out PV.out)
                have c2' : w6.cell? ⟨bk, 2, none⟩ = some (.int .i64 a2) := K6.out.cell 2
                have hbk6 := K6.out.lt
                have HW := Lib.hid (fun (W : World) (hb : Below w6.heap.size w6 W) => show W.cell? ⟨bk, 2, none⟩ = some (.int .i64 a2) from (K6.out.past hb).cell 2)
                cases ob
                · obtain ⟨rfl, rfl⟩ := HNO.out rfl
                  obtain rfl : k5 = 0 := by have := HL5.out; simp at this; omega
                  by_cases h2 : 0 ≤ a2
                  all_goals
                    go_wp2_with (go_at_call 46; refine (T1.out).mono ?_; rintro e w7 ⟨rfl, hb⟩; have m2 := HW.out w7 hb; have hbk7 : bk < w7.heap.size := (Nat.lt_of_lt_of_le hbk6 hb.size); have HB7 := Lib.hid hb; clear hb)
                    go_ret
                    exact ⟨by first | rfl | (simp; done), below_step B11.out HB7.out⟩
                · obtain ⟨q1, q2⟩ := HY.out rfl
                  go_wp2_with (go_at_call 46; refine (T1.out).mono ?_; rintro e w7 ⟨rfl, hb⟩; have m2 := HW.out w7 hb; have hbk7 : bk < w7.heap.size := (Nat.lt_of_lt_of_le hbk6 hb.size); have HB7 := Lib.hid hb; clear hb)
                  go_ret
                  exact ⟨by first | rfl | (simp; done), below_step B11.out HB7.out⟩
end Go.Proofs.Ytcljfdpjlkaagaa
