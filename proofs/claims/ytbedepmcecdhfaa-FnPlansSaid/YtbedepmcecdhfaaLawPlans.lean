/- The law FnPlans: the walk. There are levels after each load of a plan that is told, and no plan has fewer loads. -/
import Derived.Test.YtbedepmcecdhfaaLawPlansA
namespace Go.Proofs.Ytbedepmcecdhfaa
open Go.RowKit
/-- Four lists that can be read. -/
structure Four (w : World) (Ag Ad Al At : Option Addr) (g : List Gauge) (D : List Ditch) (l t : List Int) : Prop where
  sg : Sl encGauge w w.heap.size Ag g
  sd : Sl encDitch w w.heap.size Ad D
  sl : Sl encInt w w.heap.size Al l
  st : Sl encInt w w.heap.size At t
theorem Four.past {w w' : World} {Ag Ad Al At : Option Addr} {g : List Gauge} {D : List Ditch} {l t : List Int} (h : Four w Ag Ad Al At g D l t) (hb : Below w.heap.size w w') : Four w' Ag Ad Al At g D l t :=
  ⟨h.sg.past hb, h.sd.past hb, h.sl.past hb, h.st.past hb⟩
set_option maxRecDepth 4000 in
set_option maxHeartbeats 16000000 in
theorem FnPlans_walk (A : Option Addr) (n c : Nat) (w : World) (hc : Bytes w A n) :
    Calls Try.prog 3 #[.slice A n c] w fun e w' => e = .returned (.bool true) ∧ Below w.heap.size w w' := by
  have HC := Lib.hid hc
  clear hc
  by_cases hbig : (65536 : Int) < n
  · go_enter Try.func3, Try.ntmps3
    go_wp2_with (go_at_call 14; refine (vBig_any _ _ _ _).mono ?_; rintro e w1 ⟨rfl, rfl⟩)
    go_ret
    exact ⟨rfl, Below.refl _ _⟩
  · have B00 := Lib.hid (Below.refl w.heap.size w)
    go_enter Try.func3, Try.ntmps3
    go_wp2_with (go_at_call 14; refine (vBig_any _ _ _ _).mono ?_; rintro e w1 ⟨rfl, rfl⟩)
    refine (drawShortestPlan_any A n c _ HC.out).mono ?_
    rintro e w1 ⟨gv, dv, lv, tv, g1, D1, l1, t1, rfl, hg6, hd9, hl7, ht7, og, od, ol, ot, bb⟩
    obtain ⟨Ag1, cg1, rfl, hcg1, _, _⟩ := og.slice
    obtain ⟨Ad1, cd1, rfl, hcd1, _, _⟩ := od.slice
    obtain ⟨Al1, cl1, rfl, hcl1, _, _⟩ := ol.slice
    obtain ⟨At1, ct1, rfl, hct1, _, _⟩ := ot.slice
    have Fw1 := Lib.hid (Four.mk og.rd od.rd ol.rd ot.rd)
    have Bw1 := Lib.hid (below_step B00.out bb)
    clear og od ol ot bb
    obtain ⟨n1, hn1⟩ : ∃ n, g1.length = n := ⟨_, rfl⟩
    obtain ⟨m1, hm1⟩ : ∃ n, D1.length = n := ⟨_, rfl⟩
    obtain ⟨r1, hr1⟩ : ∃ n, l1.length = n := ⟨_, rfl⟩
    obtain ⟨q1, hq1⟩ : ∃ n, t1.length = n := ⟨_, rfl⟩
    rw [hn1] at hg6 hcg1 ⊢
    rw [hm1] at hd9 hcd1 ⊢
    rw [hr1] at hl7 hcl1 ⊢
    rw [hq1] at ht7 hct1 ⊢
    have HN1 := Lib.hid hn1
    have HM1 := Lib.hid hm1
    have HR1 := Lib.hid hr1
    have HQ1 := Lib.hid hq1
    clear hn1 hm1 hr1 hq1
    go_wp2_with fail
    refine (impl_ShortestPlan_any g1 D1 l1 t1 n1 m1 r1 q1 HN1.out HM1.out HR1.out HQ1.out _ _ _ _ _ _ _ _ _ (by omega) (by omega) (by omega) (by omega) hcl1 hct1 Fw1.out.sg Fw1.out.sd Fw1.out.sl Fw1.out.st).mono ?_
    rintro e w2 ⟨v2, rfl, oo, bb⟩
    have hpl := shortP_length g1 D1 l1 t1
    obtain ⟨⟨pl, ok⟩, hsp⟩ : ∃ x, shortP g1 D1 l1 t1 = x := ⟨_, rfl⟩
    rw [hsp] at hpl oo ⊢
    dsimp only at hpl oo ⊢
    have HSP := Lib.hid hsp
    clear hsp
    obtain ⟨A2, c2, rfl, hcA2, _, _⟩ := oo.slice
    have O2 := Lib.hid oo
    have Fw2 := Lib.hid (Fw1.out.past bb)
    have Bw2 := Lib.hid (below_step Bw1.out bb)
    clear oo bb
    go_wp2_with fail
    refine (spec_ShortestPlan_any g1 D1 l1 t1 n1 m1 r1 q1 HN1.out HM1.out HR1.out HQ1.out _ _ _ _ _ _ _ _ _ (by omega) (by omega) (by omega) (by omega) hcl1 hct1 Fw2.out.sg Fw2.out.sd Fw2.out.sl Fw2.out.st).mono ?_
    rintro e w3 ⟨v3, rfl, oo, bb⟩
    rw [HSP.out] at oo ⊢
    dsimp only at oo ⊢
    have O2' := Lib.hid (O2.out.past bb (Nat.le_refl _))
    obtain ⟨A3, c3, rfl, hcA3, _, _⟩ := oo.slice
    have O3 := Lib.hid oo
    have Fw3 := Lib.hid (Fw2.out.past bb)
    have Bw3 := Lib.hid (below_step Bw2.out bb)
    clear oo bb O2
    go_upto_region 6 with (fail)
    go_cut [81] from 39 (fun u wx => u = .bool false ∧ Below w3.heap.size w3 wx)
    case first => as_aux_lemma =>
      go_wp2_with (first | (go_at_call 18; refine (vInts_same pl pl.length rfl _ _ _ _ _ (by omega) (O2'.out.rd.past (by repeat (first | assumption | exact Below.refl _ _ | apply bl_gw | apply bl_alloc | apply bl_drewN | apply bl_drew))) (O3.out.rd.past (by repeat (first | assumption | exact Below.refl _ _ | apply bl_gw | apply bl_alloc | apply bl_drewN | apply bl_drew)))).mono ?_; rintro e w1 ⟨rfl, hb⟩; obtain ⟨p, rfl⟩ := below_gw hb; clear hb) | (go_at_call 19; refine (impl_IsField_any g1 D1 n1 m1 HN1.out HM1.out _ _ _ _ _ (by omega) (by omega) (Fw3.out.sg.past (by repeat (first | assumption | exact Below.refl _ _ | apply bl_gw | apply bl_alloc | apply bl_drewN | apply bl_drew))) (Fw3.out.sd.past (by repeat (first | assumption | exact Below.refl _ _ | apply bl_gw | apply bl_alloc | apply bl_drewN | apply bl_drew)))).mono ?_; rintro e w1 ⟨rfl, hb⟩; obtain ⟨p, rfl⟩ := below_gw hb; clear hb) | (go_at_call 20; refine (spec_IsField_any g1 D1 n1 m1 HN1.out HM1.out _ _ _ _ _ (by omega) (by omega) (Fw3.out.sg.past (by repeat (first | assumption | exact Below.refl _ _ | apply bl_gw | apply bl_alloc | apply bl_drewN | apply bl_drew))) (Fw3.out.sd.past (by repeat (first | assumption | exact Below.refl _ _ | apply bl_gw | apply bl_alloc | apply bl_drewN | apply bl_drew)))).mono ?_; rintro e w1 ⟨rfl, hb⟩; obtain ⟨p, rfl⟩ := below_gw hb; clear hb))
      go_meet
      exact ⟨by first | rfl | simp, (by repeat (first | assumption | exact Below.refl _ _ | apply bl_gw | apply bl_alloc | apply bl_drewN | apply bl_drew))⟩
    case rest => as_aux_lemma =>
      obtain ⟨rfl, hb5⟩ := hcut
      have O4 := Lib.hid (O2'.out.past hb5 (Nat.le_refl _))
      have bb := hb5
      have Fwc := Lib.hid (Fw3.out.past bb)
      have Bwc := Lib.hid (below_step Bw3.out bb)
      clear bb hb5 O2' O3
      go_wp2_with fail
      refine (impl_WhyNoPlan_any g1 D1 l1 t1 n1 m1 r1 q1 HN1.out HM1.out HR1.out HQ1.out _ _ _ _ _ _ _ _ _ (by omega) (by omega) (by omega) (by omega) hcl1 hct1 Fwc.out.sg Fwc.out.sd Fwc.out.sl Fwc.out.st).mono ?_
      rintro e w5 ⟨rfl, bb⟩
      have hsw := short_why g1 D1 l1 t1
      rw [HSP.out] at hsw
      obtain ⟨rs, hrs⟩ : ∃ rs, whyP g1 D1 l1 t1 = rs := ⟨_, rfl⟩
      have HRS := Lib.hid hrs
      rw [hrs] at hsw ⊢
      dsimp only at hsw
      have HSW := Lib.hid hsw
      have O5 := Lib.hid (O4.out.past bb (Nat.le_refl _))
      have Fw5 := Lib.hid (Fwc.out.past bb)
      have Bw5 := Lib.hid (below_step Bwc.out bb)
      clear bb hrs hsw O4
      go_wp2_with fail
      refine (spec_WhyNoPlan_any g1 D1 l1 t1 n1 m1 r1 q1 HN1.out HM1.out HR1.out HQ1.out _ _ _ _ _ _ _ _ _ (by omega) (by omega) (by omega) (by omega) hcl1 Fw5.out.sg Fw5.out.sd Fw5.out.sl Fw5.out.st).mono ?_
      rintro e w6 ⟨rfl, bb⟩
      rw [HRS.out]
      have O6 := Lib.hid (O5.out.past bb (Nat.le_refl _))
      have Fw6 := Lib.hid (Fw5.out.past bb)
      have Bw6 := Lib.hid (below_step Bw5.out bb)
      clear bb O5
      go_upto_region 10 with (fail)
      go_cut [114] from 39 (fun u wx => u = .bool false ∧ wx = w6)
      case first => as_aux_lemma =>
        have hsw := HSW.out
        subst hsw
        cases rs
        all_goals
          go_wp2
          go_meet
          exact ⟨by first | rfl | (simp; done) | (simp; exact (text_none _).symm), rfl⟩
      case rest => as_aux_lemma =>
        obtain ⟨rfl, rfl⟩ := hcut
        go_upto_if 115 with (fail)
        go_cut [] from 39 (fun wx => Below w.heap.size w wx)
        case first => as_aux_lemma =>
          cases ok
          · go_wp2
            go_meet
            exact Bw6.out
          · have ha := short_after (g := g1) (D := D1) (s := l1) (t := t1) (by rw [HSP.out])
            rw [HSP.out] at ha
            have HAF := Lib.hid ha
            clear ha
            go_wp2_with fail
            refine (impl_AfterPlan_any g1 D1 l1 pl n1 m1 r1 pl.length HN1.out HM1.out HR1.out rfl _ _ _ _ _ _ _ _ _ (by omega) (by omega) (by omega) (by omega) hcl1 Fw6.out.sg Fw6.out.sd Fw6.out.sl O6.out.rd).mono ?_
            rintro e w7 ⟨v7, rfl, oo, bb⟩
            rw [HAF.out] at oo ⊢
            dsimp only at oo ⊢
            obtain ⟨A7, c7, rfl, _, _, _⟩ := oo.slice
            rw [HQ1.out] at oo ⊢
            have O7 := Lib.hid oo
            have F7 := Lib.hid (Fw6.out.past bb)
            have B7 := Lib.hid (below_step Bw6.out bb)
            clear oo bb
            go_wp2_with (go_at_call 18; refine (vInts_same t1 q1 HQ1.out _ _ _ _ _ (by omega) O7.out.rd F7.out.st).mono ?_; rintro e w8 ⟨rfl, b8⟩; have B8 := Lib.hid (below_step B7.out b8); clear b8)
            go_meet
            exact B8.out
        case rest => as_aux_lemma =>
          have B8 := Lib.hid hcut
          clear hcut
          go_wp2_with fail
          refine (drawAfterPlan_any A n c _ (HC.out.past B8.out)).mono ?_
          rintro e w1 ⟨gv, dv, lv, tv, g2, D2, l2, t2, rfl, hg6, hd9, hl7, ht7, og, od, ol, ot, bb⟩
          obtain ⟨Ag2, cg2, rfl, hcg2, _, _⟩ := og.slice
          obtain ⟨Ad2, cd2, rfl, hcd2, _, _⟩ := od.slice
          obtain ⟨Al2, cl2, rfl, hcl2, _, _⟩ := ol.slice
          obtain ⟨At2, ct2, rfl, hct2, _, _⟩ := ot.slice
          have Fw1 := Lib.hid (Four.mk og.rd od.rd ol.rd ot.rd)
          have Bw1 := Lib.hid (below_step B8.out bb)
          clear og od ol ot bb
          obtain ⟨n2, hn2⟩ : ∃ n, g2.length = n := ⟨_, rfl⟩
          obtain ⟨m2, hm2⟩ : ∃ n, D2.length = n := ⟨_, rfl⟩
          obtain ⟨r2, hr2⟩ : ∃ n, l2.length = n := ⟨_, rfl⟩
          obtain ⟨q2, hq2⟩ : ∃ n, t2.length = n := ⟨_, rfl⟩
          rw [hn2] at hg6 hcg2 ⊢
          rw [hm2] at hd9 hcd2 ⊢
          rw [hr2] at hl7 hcl2 ⊢
          rw [hq2] at ht7 hct2 ⊢
          have HN2 := Lib.hid hn2
          have HM2 := Lib.hid hm2
          have HR2 := Lib.hid hr2
          have HQ2 := Lib.hid hq2
          clear hn2 hm2 hr2 hq2
          go_wp2_with fail
          refine (impl_AfterPlan_any g2 D2 l2 t2 n2 m2 r2 q2 HN2.out HM2.out HR2.out HQ2.out _ _ _ _ _ _ _ _ _ (by omega) (by omega) (by omega) (by omega) hcl2 Fw1.out.sg Fw1.out.sd Fw1.out.sl Fw1.out.st).mono ?_
          rintro e w2 ⟨v2, rfl, oo, bb⟩
          have hl5 := afterP_len5 g2 D2 l2 t2
          obtain ⟨⟨lf, fine⟩, haf⟩ : ∃ x, afterP g2 D2 l2 t2 = x := ⟨_, rfl⟩
          rw [haf] at hl5 oo ⊢
          dsimp only at hl5 oo ⊢
          have HAF := Lib.hid haf
          clear haf
          obtain ⟨A2, c2, rfl, hcA2, _, _⟩ := oo.slice
          have O2 := Lib.hid oo
          have Fw2 := Lib.hid (Fw1.out.past bb)
          have Bw2 := Lib.hid (below_step Bw1.out bb)
          obtain ⟨f2, hf2⟩ : ∃ n, lf.length = n := ⟨_, rfl⟩
          rw [hf2] at hl5 O2 hcA2 ⊢
          have HLF := Lib.hid hf2
          clear oo bb hf2
          go_wp2_with fail
          refine (spec_AfterPlan_any g2 D2 l2 t2 n2 m2 r2 q2 HN2.out HM2.out HR2.out HQ2.out _ _ _ _ _ _ _ _ _ (by omega) (by omega) (by omega) (by omega) Fw2.out.sg Fw2.out.sd Fw2.out.sl Fw2.out.st).mono ?_
          rintro e w3 ⟨v3, rfl, oo, bb⟩
          rw [HAF.out] at oo ⊢
          dsimp only at oo ⊢
          have O3 := Lib.hid (O2.out.past bb (Nat.le_refl _))
          obtain ⟨A3, c3, rfl, _, _, _⟩ := oo.slice
          rw [HLF.out] at oo ⊢
          have P3 := Lib.hid oo
          have Fw3 := Lib.hid (Fw2.out.past bb)
          have Bw3 := Lib.hid (below_step Bw2.out bb)
          clear oo bb O2
          go_upto_if 164 with (go_at_call 18; refine (vInts_same lf f2 HLF.out _ _ _ _ _ (by omega) O3.out.rd P3.out.rd).mono ?_; rintro e w4 ⟨rfl, bb⟩; have O4 := Lib.hid (O3.out.past bb (Nat.le_refl _)); have Fw4 := Lib.hid (Fw3.out.past bb); have Bw4 := Lib.hid (below_step Bw3.out bb); clear bb)
          go_cut [] from 39 (fun wx => Below w.heap.size w wx)
          case first => as_aux_lemma =>
            cases fine
            · go_wp2
              go_meet
              exact Bw4.out
            · obtain ⟨x1, x2, x3, x4, x5, x6⟩ := after_facts (g := g2) (D := D2) (s := l2) (p := t2) (by rw [HAF.out])
              rw [HAF.out] at x1 x4 x5 x6
              dsimp only at x1 x4 x5 x6
              rw [HQ2.out] at x6
              have X1 := Lib.hid x1
              have X2 := Lib.hid x2
              have X3 := Lib.hid x3
              have X4 := Lib.hid x4
              have hr5 := (areGauges_len x2).2
              have hlr := areLevels_len x3
              rw [HR2.out] at hlr
              have hr25 : r2 ≤ 5 := by omega
              obtain ⟨⟨sp, one⟩, hsp⟩ : ∃ x, shortP g2 D2 l2 lf = x := ⟨_, rfl⟩
              rw [hsp] at x5 x6
              dsimp only at x5 x6
              subst x5
              have HSP2 := Lib.hid hsp
              clear x1 x2 x3 x4 hr5 hlr hsp
              go_wp2_with fail
              refine (impl_ShortestPlan_any g2 D2 l2 lf n2 m2 r2 f2 HN2.out HM2.out HR2.out HLF.out _ _ _ _ _ _ _ _ _ (by omega) (by omega) (by omega) (by omega) hcl2 (by have := O4.out.cap; omega) Fw4.out.sg Fw4.out.sd Fw4.out.sl O4.out.rd).mono ?_
              rintro e w5 ⟨v5, rfl, oo, bb⟩
              rw [HSP2.out] at oo ⊢
              dsimp only at oo ⊢
              obtain ⟨A5, c5, rfl, _, _, _⟩ := oo.slice
              have O5 := Lib.hid (O4.out.past bb (Nat.le_refl _))
              have Fw5 := Lib.hid (Fw4.out.past bb)
              have Bw5 := Lib.hid (below_step Bw4.out bb)
              clear oo bb
              have hlen : ¬ (q2 : Int) < sp.length := by omega
              go_wp2_with fail
              refine (impl_AreLevels_any g2 lf n2 f2 HN2.out HLF.out _ _ _ _ _ (by omega) (by omega) Fw5.out.sg O5.out.rd).mono ?_
              rintro e w6 ⟨rfl, bb⟩
              rw [show areLevelsP g2 lf = (true, true) by unfold areLevelsP; rw [if_pos X2.out, X1.out]]
              have O6 := Lib.hid (O5.out.past bb (Nat.le_refl _))
              have Fw6 := Lib.hid (Fw5.out.past bb)
              have Bw6 := Lib.hid (below_step Bw5.out bb)
              clear bb O5
              have HS1 := Lib.hid (vSum_any lf f2 HLF.out A2 c2 w6 hl5 (areLevels_small X2.out X1.out) O6.out.rd)
              have HS2 := Lib.hid (vSum_any l2 r2 HR2.out Al2 cl2 w6 hr25 (areLevels_small X2.out X3.out) Fw6.out.sl)
              have hs1 := HS1.out
              rw [X4.out] at hs1
              have HS1 := Lib.hid hs1
              clear hs1
              obtain ⟨sm, hsm⟩ : ∃ sm, sumI l2 = sm := ⟨_, rfl⟩
              rw [hsm] at HS1 HS2
              clear hsm
              go_wp2_with (first | (go_at_call_of 27 A2; refine (HS1.out).mono ?_; rintro e w7 ⟨rfl, rfl⟩) | (go_at_call_of 27 Al2; refine (HS2.out).mono ?_; rintro e w7 ⟨rfl, rfl⟩))
              go_meet
              exact Bw6.out
          case rest => as_aux_lemma =>
            have B9 := Lib.hid hcut
            clear hcut
            go_wp2_with fail
            refine (drawWhyNoPlan_any A n c _ (HC.out.past B9.out)).mono ?_
            rintro e w1 ⟨gv, dv, lv, tv, g3, D3, l3, t3, rfl, hg6, hd9, hl7, ht7, og, od, ol, ot, bb⟩
            obtain ⟨Ag3, cg3, rfl, hcg3, _, _⟩ := og.slice
            obtain ⟨Ad3, cd3, rfl, hcd3, _, _⟩ := od.slice
            obtain ⟨Al3, cl3, rfl, hcl3, _, _⟩ := ol.slice
            obtain ⟨At3, ct3, rfl, hct3, _, _⟩ := ot.slice
            have Fw1 := Lib.hid (Four.mk og.rd od.rd ol.rd ot.rd)
            have Bw1 := Lib.hid (below_step B9.out bb)
            clear og od ol ot bb
            obtain ⟨n3, hn3⟩ : ∃ n, g3.length = n := ⟨_, rfl⟩
            obtain ⟨m3, hm3⟩ : ∃ n, D3.length = n := ⟨_, rfl⟩
            obtain ⟨r3, hr3⟩ : ∃ n, l3.length = n := ⟨_, rfl⟩
            obtain ⟨q3, hq3⟩ : ∃ n, t3.length = n := ⟨_, rfl⟩
            rw [hn3] at hg6 hcg3 ⊢
            rw [hm3] at hd9 hcd3 ⊢
            rw [hr3] at hl7 hcl3 ⊢
            rw [hq3] at ht7 hct3 ⊢
            have HN3 := Lib.hid hn3
            have HM3 := Lib.hid hm3
            have HR3 := Lib.hid hr3
            have HQ3 := Lib.hid hq3
            clear hn3 hm3 hr3 hq3
            go_wp2_with fail
            refine (impl_WhyNoPlan_any g3 D3 l3 t3 n3 m3 r3 q3 HN3.out HM3.out HR3.out HQ3.out _ _ _ _ _ _ _ _ _ (by omega) (by omega) (by omega) (by omega) hcl3 hct3 Fw1.out.sg Fw1.out.sd Fw1.out.sl Fw1.out.st).mono ?_
            rintro e w5 ⟨rfl, bb⟩
            have hsw := short_why g3 D3 l3 t3
            obtain ⟨rs, hrs⟩ : ∃ rs, whyP g3 D3 l3 t3 = rs := ⟨_, rfl⟩
            have HRS := Lib.hid hrs
            rw [hrs] at hsw ⊢
            have HSW := Lib.hid hsw
            have Fw5 := Lib.hid (Fw1.out.past bb)
            have Bw5 := Lib.hid (below_step Bw1.out bb)
            clear bb hrs hsw
            go_wp2_with fail
            refine (spec_WhyNoPlan_any g3 D3 l3 t3 n3 m3 r3 q3 HN3.out HM3.out HR3.out HQ3.out _ _ _ _ _ _ _ _ _ (by omega) (by omega) (by omega) (by omega) hcl3 Fw5.out.sg Fw5.out.sd Fw5.out.sl Fw5.out.st).mono ?_
            rintro e w6 ⟨rfl, bb⟩
            rw [HRS.out]
            have Fw6 := Lib.hid (Fw5.out.past bb)
            have Bw6 := Lib.hid (below_step Bw5.out bb)
            clear bb
            cases rs
            case' bad =>
              go_wp2
              go_ret
              exact ⟨rfl, Bw6.out⟩
            all_goals
              go_wp2_with fail
              refine (impl_ShortestPlan_any g3 D3 l3 t3 n3 m3 r3 q3 HN3.out HM3.out HR3.out HQ3.out _ _ _ _ _ _ _ _ _ (by omega) (by omega) (by omega) (by omega) hcl3 hct3 Fw6.out.sg Fw6.out.sd Fw6.out.sl Fw6.out.st).mono ?_
              rintro e w7 ⟨v7, rfl, _, bb⟩
              rw [HSW.out]
              have B10 := Lib.hid (below_step Bw6.out bb)
              clear bb
              go_wp2
              go_ret
              exact ⟨by first | rfl | (simp; done) | (simp; exact (text_none _).symm), B10.out⟩
end Go.Proofs.Ytbedepmcecdhfaa
