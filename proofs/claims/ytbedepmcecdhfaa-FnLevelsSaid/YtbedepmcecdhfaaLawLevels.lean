/- The law FnLevels: the walk. A plan leads to the farthest levels and has as many loads; what can be reached is counted among all levels. -/
import Derived.Test.YtbedepmcecdhfaaLawLevelsA
namespace Go.Proofs.Ytbedepmcecdhfaa
open Go.RowKit
set_option maxRecDepth 4000 in
set_option maxHeartbeats 16000000 in
theorem FnLevels_walk (A : Option Addr) (n c : Nat) (w : World) (hc : Bytes w A n) :
    Calls Try.prog 13 #[.slice A n c] w fun e w' => e = .returned (.bool true) ∧ Below w.heap.size w w' := by
  have HC := Lib.hid hc
  clear hc
  by_cases hbig : (65536 : Int) < n
  · go_enter Try.func13, Try.ntmps13
    go_wp2_with (go_at_call 14; refine (vBig_any _ _ _ _).mono ?_; rintro e w1 ⟨rfl, rfl⟩)
    go_ret
    exact ⟨rfl, Below.refl _ _⟩
  · have B00 := Lib.hid (Below.refl w.heap.size w)
    go_enter Try.func13, Try.ntmps13
    go_wp2_with (go_at_call 14; refine (vBig_any _ _ _ _).mono ?_; rintro e w1 ⟨rfl, rfl⟩)
    refine (drawFarthestLevels_any A n c _ HC.out).mono ?_
    rintro e w1 ⟨gv, dv, lv, g1, D1, l1, rfl, hg6, hd9, hl7, og, od, ol, bb⟩
    obtain ⟨Ag1, cg1, rfl, hcg1, _, _⟩ := og.slice
    obtain ⟨Ad1, cd1, rfl, hcd1, _, _⟩ := od.slice
    obtain ⟨Al1, cl1, rfl, hcl1, _, _⟩ := ol.slice
    have Fw1 := Lib.hid (Three.mk og.rd od.rd ol.rd)
    have Bw1 := Lib.hid (below_step B00.out bb)
    clear og od ol bb
    obtain ⟨n1, hn1⟩ : ∃ n, g1.length = n := ⟨_, rfl⟩
    obtain ⟨m1, hm1⟩ : ∃ n, D1.length = n := ⟨_, rfl⟩
    obtain ⟨r1, hr1⟩ : ∃ n, l1.length = n := ⟨_, rfl⟩
    rw [hn1] at hg6 hcg1 ⊢
    rw [hm1] at hd9 hcd1 ⊢
    rw [hr1] at hl7 hcl1 ⊢
    have HN1 := Lib.hid hn1
    have HM1 := Lib.hid hm1
    have HR1 := Lib.hid hr1
    clear hn1 hm1 hr1
    go_wp2_with fail
    refine (impl_FarthestLevels_any g1 D1 l1 n1 m1 r1 HN1.out HM1.out HR1.out _ _ _ _ _ _ _ (by omega) (by omega) (by omega) hcl1 Fw1.out.sg Fw1.out.sd Fw1.out.sl).mono ?_
    rintro e w2 ⟨v2, rfl, oo, bb⟩
    have hfl := farthP_length g1 D1 l1
    obtain ⟨⟨far, loads, ok⟩, hfp⟩ : ∃ x, farthP g1 D1 l1 = x := ⟨_, rfl⟩
    rw [hfp] at hfl oo ⊢
    dsimp only at hfl oo ⊢
    have HFP := Lib.hid hfp
    have hrf := reach_far g1 D1 l1
    rw [hfp] at hrf
    dsimp only at hrf
    have HRF := Lib.hid hrf
    clear hfp hrf
    obtain ⟨A2, c2, rfl, hcA2, _, _⟩ := oo.slice
    obtain ⟨q2, hq2⟩ : ∃ n, far.length = n := ⟨_, rfl⟩
    rw [hq2] at hfl hcA2 oo ⊢
    have HQ2 := Lib.hid hq2
    have O2 := Lib.hid oo
    have Fw2 := Lib.hid (Fw1.out.past bb)
    have Bw2 := Lib.hid (below_step Bw1.out bb)
    clear oo bb hq2
    go_wp2_with fail
    refine (spec_FarthestLevels_any g1 D1 l1 n1 m1 r1 HN1.out HM1.out HR1.out _ _ _ _ _ _ _ (by omega) (by omega) (by omega) hcl1 Fw2.out.sg Fw2.out.sd Fw2.out.sl).mono ?_
    rintro e w3 ⟨v3, rfl, oo, bb⟩
    rw [HFP.out] at oo ⊢
    dsimp only at oo ⊢
    have O2' := Lib.hid (O2.out.past bb (Nat.le_refl _))
    obtain ⟨A3, c3, rfl, hcA3, _, _⟩ := oo.slice
    rw [HQ2.out] at hcA3 oo ⊢
    have O3 := Lib.hid oo
    have Fw3 := Lib.hid (Fw2.out.past bb)
    have Bw3 := Lib.hid (below_step Bw2.out bb)
    clear oo bb O2
    go_upto_region 6 with (fail)
    go_cut [77] from 40 (fun u wx => u = .bool false ∧ Below w3.heap.size w3 wx)
    case first => as_aux_lemma =>
      go_wp2_with ((go_at_call 18; refine (vInts_same far q2 HQ2.out _ _ _ _ _ (by omega) (O2'.out.rd.past (by repeat (first | assumption | exact Below.refl _ _ | apply bl_gw | apply bl_alloc | apply bl_drewN | apply bl_drew))) (O3.out.rd.past (by repeat (first | assumption | exact Below.refl _ _ | apply bl_gw | apply bl_alloc | apply bl_drewN | apply bl_drew)))).mono ?_; rintro e w1 ⟨rfl, hb⟩; obtain ⟨p, rfl⟩ := below_gw hb; clear hb))
      go_meet
      exact ⟨by first | rfl | simp, (by repeat (first | assumption | exact Below.refl _ _ | apply bl_gw | apply bl_alloc | apply bl_drewN | apply bl_drew))⟩
    case rest => as_aux_lemma =>
      obtain ⟨rfl, hb5⟩ := hcut
      have O4 := Lib.hid (O2'.out.past hb5 (Nat.le_refl _))
      have bb := hb5
      have Fwc := Lib.hid (Fw3.out.past bb)
      have Bwc := Lib.hid (below_step Bw3.out bb)
      clear bb hb5 O2' O3
      go_wp2_with fail
      refine (impl_ReachedCount_any g1 D1 l1 n1 m1 r1 HN1.out HM1.out HR1.out _ _ _ _ _ _ _ (by omega) (by omega) (by omega) hcl1 Fwc.out.sg Fwc.out.sd Fwc.out.sl).mono ?_
      rintro e w5 ⟨rfl, bb⟩
      rw [HRF.out]
      obtain ⟨cn, hcn⟩ : ∃ x, (reachP g1 D1 l1).1 = x := ⟨_, rfl⟩
      rw [hcn]
      have HCN := Lib.hid hcn
      have O5 := Lib.hid (O4.out.past bb (Nat.le_refl _))
      have Fw5 := Lib.hid (Fwc.out.past bb)
      have Bw5 := Lib.hid (below_step Bwc.out bb)
      clear bb hcn O4
      go_wp2_with fail
      refine (spec_ReachedCount_any g1 D1 l1 n1 m1 r1 HN1.out HM1.out HR1.out _ _ _ _ _ _ _ (by omega) (by omega) (by omega) hcl1 Fw5.out.sg Fw5.out.sd Fw5.out.sl).mono ?_
      rintro e w6 ⟨rfl, bb⟩
      rw [HRF.out, HCN.out]
      have O6 := Lib.hid (O5.out.past bb (Nat.le_refl _))
      have Fw6 := Lib.hid (Fw5.out.past bb)
      have Bw6 := Lib.hid (below_step Bw5.out bb)
      clear bb O5
      go_upto_region 10 with (fail)
      go_cut [104] from 40 (fun u wx => u = .bool false ∧ wx = w6)
      case first => as_aux_lemma =>
        go_wp2
        go_meet
        exact ⟨by first | rfl | (simp; done), rfl⟩
      case rest => as_aux_lemma =>
        obtain ⟨rfl, rfl⟩ := hcut
        go_upto_if 105 with (fail)
        go_cut [] from 40 (fun wx => Below w.heap.size w wx)
        case first => as_aux_lemma =>
          cases ok
          · go_wp2
            go_meet
            exact Bw6.out
          · have HFA := Lib.hid (far_facts HFP.out HCN.out)
            obtain ⟨pl, hpl⟩ : ∃ x, (shortP g1 D1 l1 far).1 = x := ⟨_, rfl⟩
            obtain ⟨al, hal⟩ : ∃ x, countP g1 (sumI l1) = x := ⟨_, rfl⟩
            rw [hpl, hal] at HFA
            have HAL := Lib.hid hal
            clear hpl hal
            have hr5 := (areGauges_len HFA.out.gauges).2
            have hlr := areLevels_len HFA.out.levels
            rw [HR1.out] at hlr
            have hr15 : r1 ≤ 5 := by omega
            clear hr5 hlr
            go_wp2_with fail
            refine (impl_ShortestPlan_any g1 D1 l1 far n1 m1 r1 q2 HN1.out HM1.out HR1.out HQ2.out Ag1 Ad1 Al1 A2 cg1 cd1 cl1 c2 wc (Nat.le_trans hg6 (by decide)) (Nat.le_trans hd9 (by decide)) (Nat.le_trans hl7 (by decide)) (Nat.le_trans hfl (by decide)) hcl1 hcA2 Fw6.out.sg Fw6.out.sd Fw6.out.sl O6.out.rd).mono ?_
            rintro e w7 ⟨v7, rfl, oo, bb⟩
            rw [HFA.out.plan] at oo ⊢
            dsimp only at oo ⊢
            obtain ⟨A7, c7, rfl, _, _, _⟩ := oo.slice
            have Fw7 := Lib.hid (Fw6.out.past bb)
            have Bw7 := Lib.hid (below_step Bw6.out bb)
            clear oo bb
            have HS := Lib.hid (vSum_any l1 r1 HR1.out Al1 cl1 w7 hr15 (areLevels_small HFA.out.gauges HFA.out.levels) Fw7.out.sl)
            have hsb := sumTo_rng (areLevels_small HFA.out.gauges HFA.out.levels) l1.length (Nat.le_refl _)
            unfold sumTo at hsb
            rw [List.take_length, HR1.out] at hsb
            have h1 := HFA.out.loads
            have h2 := HFA.out.pos
            have h3 := HFA.out.all
            have h4 := HFA.out.below
            have HSM := Lib.hid HFA.out.sum
            obtain ⟨sm, hsm⟩ : ∃ sm, sumI l1 = sm := ⟨_, rfl⟩
            rw [hsm] at HS HSM hsb HAL
            clear hsm HFA
            go_wp2_with fail
            refine (HS.out).mono ?_
            rintro e w8 ⟨rfl, rfl⟩
            go_wp2_with fail
            refine (impl_LevelsCount_any g1 n1 HN1.out _ _ _ _ hcg1 (by omega) (by omega) Fw7.out.sg).mono ?_
            rintro e w9 ⟨rfl, bb⟩
            rw [HAL.out, HSM.out]
            have Fw9 := Lib.hid (Fw7.out.past bb)
            have Bw9 := Lib.hid (below_step Bw7.out bb)
            clear bb HS
            obtain ⟨ln, hln⟩ : ∃ ln, pl.length = ln := ⟨_, rfl⟩
            rw [hln] at h1 ⊢
            clear hln
            subst h1
            have k1 : ¬ cn < 1 := by omega
            have k2 : ¬ al < cn := by omega
            have k3 : ¬ cn ≤ ((ln : Int)) := by omega
            go_wp2
            go_meet
            exact Bw9.out
        case rest => as_aux_lemma =>
          have B8 := Lib.hid hcut
          clear hcut
          go_wp2_with fail
          refine (drawFullestPond_any A n c _ (HC.out.past B8.out)).mono ?_
          rintro e w1 ⟨gv, dv, lv, pd, g2, D2, l2, rfl, hg6, hd9, hl7, og, od, ol, bb⟩
          obtain ⟨Ag2, cg2, rfl, hcg2, _, _⟩ := og.slice
          obtain ⟨Ad2, cd2, rfl, hcd2, _, _⟩ := od.slice
          obtain ⟨Al2, cl2, rfl, hcl2, _, _⟩ := ol.slice
          have Fw1 := Lib.hid (Three.mk og.rd od.rd ol.rd)
          have Bw1 := Lib.hid (below_step B8.out bb)
          clear og od ol bb
          obtain ⟨n2, hn2⟩ : ∃ n, g2.length = n := ⟨_, rfl⟩
          obtain ⟨m2, hm2⟩ : ∃ n, D2.length = n := ⟨_, rfl⟩
          obtain ⟨r2, hr2⟩ : ∃ n, l2.length = n := ⟨_, rfl⟩
          rw [hn2] at hg6 hcg2 ⊢
          rw [hm2] at hd9 hcd2 ⊢
          rw [hr2] at hl7 hcl2 ⊢
          have HN2 := Lib.hid hn2
          have HM2 := Lib.hid hm2
          have HR2 := Lib.hid hr2
          clear hn2 hm2 hr2
          go_wp2_with fail
          refine (impl_FullestPond_any g2 D2 l2 pd n2 m2 r2 HN2.out HM2.out HR2.out _ _ _ _ _ _ _ (by omega) (by omega) (by omega) hcl2 Fw1.out.sg Fw1.out.sd Fw1.out.sl).mono ?_
          rintro e w2 ⟨rfl, bb⟩
          obtain ⟨⟨mo, ok2⟩, hfu⟩ : ∃ x, fullP g2 D2 l2 pd = x := ⟨_, rfl⟩
          rw [hfu]
          dsimp only
          have HFU := Lib.hid hfu
          have Fw2 := Lib.hid (Fw1.out.past bb)
          have Bw2 := Lib.hid (below_step Bw1.out bb)
          clear bb hfu
          go_wp2_with fail
          refine (spec_FullestPond_any g2 D2 l2 pd n2 m2 r2 HN2.out HM2.out HR2.out _ _ _ _ _ _ _ (by omega) (by omega) (by omega) hcl2 Fw2.out.sg Fw2.out.sd Fw2.out.sl).mono ?_
          rintro e w3 ⟨rfl, bb⟩
          rw [HFU.out]
          dsimp only
          have Fw3 := Lib.hid (Fw2.out.past bb)
          have Bw3 := Lib.hid (below_step Bw2.out bb)
          clear bb
          go_upto_region 20 with (fail)
          go_cut [188] from 40 (fun u wx => u = .bool false ∧ wx = w3)
          case first => as_aux_lemma =>
            cases ok2
            · go_wp2
              go_meet
              exact ⟨by first | rfl | (simp; done), rfl⟩
            · obtain ⟨i, x, rfl, hi, hlg, hx, hxz⟩ := full_first HFU.out
              rw [HN2.out] at hi hlg
              rw [HR2.out] at hlg
              subst hlg
              obtain ⟨b, off, rfl, hb, hcs⟩ := Fw3.out.sl.int_ (by rw [HR2.out]; omega)
              have c0 := hcs i x hx
              clear hcs hx
              have k1 : ¬ mo < x := by omega
              have k2 : (i : Int) < r2 := by omega
              have k3 : (0 : Int) ≤ i := by omega
              go_wp2
              go_meet
              exact ⟨by first | rfl | (simp; done) | (simp; omega), rfl⟩
          case rest => as_aux_lemma =>
            obtain ⟨rfl, rfl⟩ := hcut
            go_wp2_with fail
            refine (drawAreLevels_any A n c _ (HC.out.past Bw3.out)).mono ?_
            rintro e w4 ⟨gv, lv, g, l, rfl, hg6, hl7, og, ol, bb⟩
            obtain ⟨Ag, cg, rfl, hcg, _, _⟩ := og.slice
            obtain ⟨Al, cl, rfl, hcl, _, _⟩ := ol.slice
            have OG := Lib.hid og.rd
            have OL := Lib.hid ol.rd
            have B4 := Lib.hid (below_step Bw3.out bb)
            clear og ol bb
            obtain ⟨n4, hn⟩ : ∃ n, g.length = n := ⟨_, rfl⟩
            obtain ⟨r4, hr⟩ : ∃ n, l.length = n := ⟨_, rfl⟩
            rw [hn] at hg6 hcg ⊢
            rw [hr] at hl7 hcl ⊢
            have HN := Lib.hid hn
            have HR := Lib.hid hr
            clear hn hr
            go_wp2_with fail
            refine (impl_AreLevels_any g l n4 r4 HN.out HR.out _ _ _ _ _ (by omega) (by omega) OG.out OL.out).mono ?_
            rintro e w5 ⟨rfl, bb⟩
            obtain ⟨⟨la, lb⟩, hlp⟩ : ∃ x, areLevelsP g l = x := ⟨_, rfl⟩
            rw [hlp]
            dsimp only
            have HLP := Lib.hid hlp
            have OG5 := Lib.hid (OG.out.past bb)
            have OL5 := Lib.hid (OL.out.past bb)
            have B5 := Lib.hid (below_step B4.out bb)
            clear bb OG OL hlp
            go_wp2_with fail
            refine (spec_AreLevels_any g l n4 r4 HN.out HR.out _ _ _ _ _ (by omega) (by omega) OG5.out OL5.out).mono ?_
            rintro e w6 ⟨rfl, bb⟩
            rw [HLP.out]
            dsimp only
            have B6 := Lib.hid (below_step B5.out bb)
            clear bb OG5 OL5
            go_upto_region 25 with (fail)
            go_cut [213] from 40 (fun u wx => u = .bool false ∧ wx = w6)
            case first => as_aux_lemma =>
              go_wp2
              go_meet
              exact ⟨by first | rfl | (simp; done), rfl⟩
            case rest => as_aux_lemma =>
              obtain ⟨rfl, rfl⟩ := hcut
              go_wp2_with fail
              refine (drawLevelsCount_any A n c _ (HC.out.past B6.out)).mono ?_
              rintro e w7 ⟨gv, z, g, rfl, hg6, hz1, hz2, og, bb⟩
              obtain ⟨Ag, cg, rfl, hcg, _, _⟩ := og.slice
              have OG := Lib.hid og.rd
              have B7 := Lib.hid (below_step B6.out bb)
              clear og bb
              obtain ⟨n5, hn⟩ : ∃ n, g.length = n := ⟨_, rfl⟩
              rw [hn] at hg6 hcg ⊢
              have HN := Lib.hid hn
              clear hn
              go_wp2_with fail
              refine (impl_LevelsCount_any g n5 HN.out _ _ _ _ hcg (by omega) (by omega) OG.out).mono ?_
              rintro e w8 ⟨rfl, bb⟩
              have OG5 := Lib.hid (OG.out.past bb)
              have B8 := Lib.hid (below_step B7.out bb)
              clear bb OG
              obtain ⟨cz, hcz⟩ : ∃ x, countP g z = x := ⟨_, rfl⟩
              obtain ⟨ck, hck⟩ : ∃ x, countOK g z = x := ⟨_, rfl⟩
              have HCZ := Lib.hid hcz
              have HCK := Lib.hid hck
              rw [hcz, hck]
              clear hcz hck
              go_wp2_with fail
              refine (spec_LevelsCount_any g n5 HN.out _ _ _ _ hcg (by omega) (by omega) OG5.out).mono ?_
              rintro e w9 ⟨rfl, bb⟩
              rw [HCZ.out, HCK.out]
              have B9 := Lib.hid (below_step B8.out bb)
              clear bb OG5
              go_wp2
              go_ret
              exact ⟨by first | rfl | (simp; done), B9.out⟩
end Go.Proofs.Ytbedepmcecdhfaa
