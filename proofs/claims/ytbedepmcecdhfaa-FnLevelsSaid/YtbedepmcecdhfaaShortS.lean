/- The shortest plan: the reference's walk. -/
import Derived.Test.YtbedepmcecdhfaaShort
namespace Go.Proofs.Ytbedepmcecdhfaa
open Go.RowKit
def fvI (L : List (List Int × Nat)) (y : List Int) : Int := match dOf L y with | some d => (d : Int) | none => -1
theorem farL_fv {L : List (List Int × Nat)} {c : Nat} {y : List Int} (hs : SmallIn y) (hl : y.length = c) : (farL L c)[numN y]? = some (fvI L y) := by
  rw [farL_at hs hl]
  unfold fvI
  cases dOf L y <;> rfl
theorem hit_far {g : List Gauge} {D : List Ditch} {L : List (List Int × Nat)} {t k : Nat} {x Y : List Int} {z : Int} (hY : mvP D true k x = Y) (hQ : areLevels g Y = true) (hz : fvI L Y = z) :
    hitP g D (dOf L) t x k = decide (z = t) := by
  subst hY hz
  unfold hitP fvI
  rw [hQ, Bool.true_and]
  cases dOf L (mvP D true k x) with
  | none => simp
  | some d => simp; exact ⟨fun h => by omega, fun h => by omega⟩
theorem hit_no {g : List Gauge} {D : List Ditch} {F : List Int → Option Nat} {t k : Nat} {x Y : List Int} (hY : mvP D true k x = Y) (hQ : areLevels g Y = false) : hitP g D F t x k = false := by
  unfold hitP
  rw [hY, hQ]; rfl
set_option maxRecDepth 4000 in
set_option maxHeartbeats 16000000 in
theorem spec_ShortestPlan_any (g : List Gauge) (D : List Ditch) (s t : List Int) (n m r u : Nat) (hn : g.length = n) (hm : D.length = m) (hr : s.length = r) (hq : t.length = u) (A A' R S : Option Addr) (cap cap' cr cs : Nat) (w : World) (hl : n ≤ 1048576) (hl' : m ≤ 1048576) (hl2 : r ≤ 1048576) (hl3 : u ≤ 1048576) (hcr : r ≤ cr) (hcs : u ≤ cs)
    (hc : Sl encGauge w w.heap.size A g) (hd : Sl encDitch w w.heap.size A' D) (hs : Sl encInt w w.heap.size R s) (ht : Sl encInt w w.heap.size S t) :
    Calls Try.prog 17 #[.slice A n cap, .slice A' m cap', .slice R r cr, .slice S u cs] w fun e w' => ∃ v, e = .returned (.tuple #[v, .bool (shortP g D s t).2]) ∧ Own encInt w' w.heap.size 3 v (shortP g D s t).1 ∧ Below w.heap.size w w' := by
  have HT := Lib.hid ht; clear ht
  have HTL := Lib.hid hq; clear hq
  obtain ⟨i0, hinf, hi0, hi1, hi2⟩ := info_parts info_Int
  have HC := Lib.hid hc; clear hc
  have HD := Lib.hid hd; clear hd
  have HS := Lib.hid hs; clear hs
  have HN := Lib.hid hn; clear hn
  have HM := Lib.hid hm; clear hm
  have HR := Lib.hid hr; clear hr
  have O0 := Lib.hid (own_nil1 (Nat.le_refl w.heap.size))
  rcases sp2 (asked g D s) (areLevels g t) with q | ⟨q, t1⟩ | ⟨q, t1⟩
  · rw [shortP_no (by rw [q]; rfl)]
    have HQ := Lib.hid q
    clear q
    go_enter Try.func17, Try.ntmps17
    go_wp2_with fail
    refine (l16Asked_any g D s _ _ _ HN.out HM.out HR.out _ _ _ _ _ _ _ hl hl' hl2 (HC.out.past (by repeat (first | assumption | exact Below.refl _ _ | apply bl_gw | apply bl_alloc | apply bl_drewN | apply bl_drew))) (HD.out.past (by repeat (first | assumption | exact Below.refl _ _ | apply bl_gw | apply bl_alloc | apply bl_drewN | apply bl_drew))) (HS.out.past (by repeat (first | assumption | exact Below.refl _ _ | apply bl_gw | apply bl_alloc | apply bl_drewN | apply bl_drew)))).mono ?_
    rintro e w1 ⟨rfl, b1⟩
    rw [HQ.out]
    have B1 := Lib.hid (below_step (show Below w.heap.size w _ from (by repeat (first | assumption | exact Below.refl _ _ | apply bl_gw | apply bl_alloc | apply bl_drewN | apply bl_drew))) b1)
    have O1 := Lib.hid (O0.out.past b1 (Nat.le_refl _))
    clear b1
    go_wp2
    go_ret2
    exact ⟨_, rfl, O1.out, B1.out⟩
  · rw [shortP_no (by rw [q, t1]; rfl)]
    have HQ := Lib.hid q
    have HT1 := Lib.hid t1
    clear q t1
    go_enter Try.func17, Try.ntmps17
    go_wp2_with fail
    refine (l16Asked_any g D s _ _ _ HN.out HM.out HR.out _ _ _ _ _ _ _ hl hl' hl2 (HC.out.past (by repeat (first | assumption | exact Below.refl _ _ | apply bl_gw | apply bl_alloc | apply bl_drewN | apply bl_drew))) (HD.out.past (by repeat (first | assumption | exact Below.refl _ _ | apply bl_gw | apply bl_alloc | apply bl_drewN | apply bl_drew))) (HS.out.past (by repeat (first | assumption | exact Below.refl _ _ | apply bl_gw | apply bl_alloc | apply bl_drewN | apply bl_drew)))).mono ?_
    rintro e w1 ⟨rfl, b1⟩
    rw [HQ.out]
    have B1 := Lib.hid (below_step (show Below w.heap.size w _ from (by repeat (first | assumption | exact Below.refl _ _ | apply bl_gw | apply bl_alloc | apply bl_drewN | apply bl_drew))) b1)
    have O1 := Lib.hid (O0.out.past b1 (Nat.le_refl _))
    clear b1
    go_wp2_with fail
    refine (l16Levels_any g t _ _ HN.out HTL.out _ _ _ _ _ hl hl3 (HC.out.past B1.out) (HT.out.past B1.out)).mono ?_
    rintro e w2 ⟨rfl, b2⟩
    rw [HT1.out]
    have B2 := Lib.hid (below_step B1.out b2)
    have O2 := Lib.hid (O1.out.past b2 (Nat.le_refl _))
    clear b2
    go_wp2
    go_ret2
    exact ⟨_, rfl, O2.out, B2.out⟩
  · obtain rfl : n = u := by have := areLevels_len t1; rw [HN.out, HTL.out] at this; exact this.symm
    have HTV := Lib.hid t1
    clear t1
    obtain ⟨hF, hg, hlv⟩ := asked_at q
    have hn5 := areGauges_len hg
    rw [HN.out] at hn5
    obtain rfl : n = r := by have := areLevels_len hlv; rw [HN.out, HR.out] at this; exact this.symm
    have HG := Lib.hid hg
    have HLV := Lib.hid hlv
    have HFI := Lib.hid hF
    have HQ := Lib.hid q
    clear hg hlv hF q
    go_enter Try.func17, Try.ntmps17
    go_wp2_with fail
    refine (l16Asked_any g D s _ _ _ HN.out HM.out HR.out _ _ _ _ _ _ _ hl hl' hl2 (HC.out.past (by repeat (first | assumption | exact Below.refl _ _ | apply bl_gw | apply bl_alloc | apply bl_drewN | apply bl_drew))) (HD.out.past (by repeat (first | assumption | exact Below.refl _ _ | apply bl_gw | apply bl_alloc | apply bl_drewN | apply bl_drew))) (HS.out.past (by repeat (first | assumption | exact Below.refl _ _ | apply bl_gw | apply bl_alloc | apply bl_drewN | apply bl_drew)))).mono ?_
    rintro e w1 ⟨rfl, b1⟩
    rw [HQ.out]
    have B1 := Lib.hid (below_step (show Below w.heap.size w _ from (by repeat (first | assumption | exact Below.refl _ _ | apply bl_gw | apply bl_alloc | apply bl_drewN | apply bl_drew))) b1)
    have O1 := Lib.hid (O0.out.past b1 (Nat.le_refl _))
    have hz1 : w.heap.size < w1.heap.size := by have := b1.size; simp at this; omega
    clear b1
    go_wp2_with fail
    refine (l16Levels_any g t _ _ HN.out HTL.out _ _ _ _ _ hl hl3 (HC.out.past B1.out) (HT.out.past B1.out)).mono ?_
    rintro e w2 ⟨rfl, b2⟩
    rw [HTV.out]
    have B2 := Lib.hid (below_step B1.out b2)
    have O2 := Lib.hid (O1.out.past b2 (Nat.le_refl _))
    have hz2 : w.heap.size < w2.heap.size := by have := b2.size; omega
    clear b2 B1 O1 hz1
    go_wp2_with fail
    refine (l16Far_any g D t true n m HN.out HM.out HTL.out _ _ _ _ _ _ _ hl hl' hcs HFI.out HTV.out (HC.out.past B2.out) (HD.out.past B2.out) (HT.out.past B2.out)).mono ?_
    rintro e w3 ⟨v3, rfl, o3, b3⟩
    rw [Bool.not_true] at o3
    have hfa : ∀ k, v3.ownBlock = some k → (Value.slice (some ⟨w.heap.size, 0, none⟩) 0 0).ownBlock ≠ some k := fun k hk e => by
      have := o3.row k hk
      simp [Value.ownBlock] at e
      omega
    have B3 := Lib.hid (below_step B2.out b3)
    have O3 := Lib.hid (O2.out.past b3 (Nat.le_refl _))
    have VF := Lib.hid (o3.lower B2.out.size)
    clear o3 b3 B2 O2
    obtain ⟨P, hP⟩ : ∃ P, 7 ^ n = P := ⟨_, rfl⟩
    have hP1 : 1 ≤ P := by rw [← hP]; exact Nat.pow_pos (by decide)
    have hP2 : P ≤ 16807 := by rw [← hP]; exact pow7 hn5.2
    have HP := Lib.hid hP
    clear hP
    obtain ⟨Af, cf, hv3, _, _, _⟩ := VF.out.slice
    rw [farL_length, HP.out] at hv3
    subst hv3
    obtain ⟨gf, rfl⟩ := VF.out.some_ (by omega)
    have hss := areLevels_small HG.out HLV.out
    have HNS := Lib.hid (l16Number_any s n HR.out R cr w3 hn5.2 hss (HS.out.past B3.out))
    have hat := farL_at (L := finP g D t false) hss HR.out
    obtain ⟨hgw, d0⟩ := VF.out.int hat
    have hZ : numN s < P := by have := numN_lt' hss HR.out; rw [HP.out] at this; exact this
    obtain ⟨Z, hZ'⟩ : ∃ Z, numN s = Z := ⟨_, rfl⟩
    rw [hZ'] at hZ HNS d0
    have z1 : (Z : Int) < P := by omega
    have z2 : (0 : Int) ≤ Z := by omega
    clear hat hss hZ'
    have HFA := Lib.hid hfa
    clear hfa
    cases hds : dOf (finP g D t false) s with
    | none =>
      have HSP := Lib.hid (shortP_none hds)
      rw [hds] at d0
      dsimp only at d0
      clear hds
      go_wp2_with (go_at_call 65; refine (HNS.out).mono ?_; rintro e w1 ⟨rfl, rfl⟩)
      go_ret2
      rw [HSP.out]
      exact ⟨_, rfl, O3.out, B3.out⟩
    | some d =>
      have hd7 := dist_le HG.out HTV.out hds
      have HSP := Lib.hid (shortP_some HQ.out HTV.out hds)
      have HDS := Lib.hid hds
      rw [hds] at d0
      dsimp only at d0
      clear hds
      have hdn : ¬ (d : Int) < 0 := by omega
      go_wp2_with (go_at_call 65; refine (HNS.out).mono ?_; rintro e w1 ⟨rfl, rfl⟩)
      clear HNS d0 hgw hdn
      have HS3 := Lib.hid (show FromG w.heap.size (.slice (some ⟨w.heap.size, 0, none⟩) 0 0) w3 (.slice R n cr) s from .inl ⟨R, cr, by rw [HR.out], by rw [HR.out]; exact hcr, HS.out.below B3.out⟩)
      go_loopw [10, 12, 13] (fun pv lv left wr => ∃ (j : Nat) (pw lw : Value), j ≤ d ∧ left = .int .i64 ((d : Int) - j) ∧ pw = pv ∧ lw = lv ∧ Own encInt wr w.heap.size 3 pw (planTo g D (dOf (finP g D t false)) s d j).1 ∧ FromG w.heap.size pw wr lw (planTo g D (dOf (finP g D t false)) s d j).2 ∧ Own encInt wr w.heap.size 3 (.slice (some ⟨gf, 0, none⟩) P cf) (farL (finP g D t false) n) ∧ (∀ k, (Value.slice (some ⟨gf, 0, none⟩) P cf).ownBlock = some k → pw.ownBlock ≠ some k) ∧ Below w.heap.size w wr) (fun _ _ left _ => (intOf left).toNat)
      case atStart => exact ⟨0, _, _, Nat.zero_le _, by simp, rfl, rfl, O3.out, HS3.out, VF.out, HFA.out, B3.out⟩
      case round =>
        clear O3 HS3 VF HFA B3
        obtain ⟨j, pw, lw, hj, rfl, rfl, rfl, ho, hf, hvf, hfa, hbel⟩ := hrel
        have HO := Lib.hid ho
        have HF := Lib.hid hf
        have HVF := Lib.hid hvf
        have HFA := Lib.hid hfa
        have HBL := Lib.hid hbel
        clear ho hf hvf hfa hbel
        by_cases hlt : j < d
        · obtain ⟨k0, hpa⟩ := plan_at HFI.out HLV.out HTV.out HDS.out hlt
          obtain ⟨hxo, hpl⟩ := plan_ok HFI.out HLV.out HTV.out HDS.out hj
          have HPA := Lib.hid hpa
          clear hpa
          obtain ⟨px, hpx⟩ : ∃ px, planTo g D (dOf (finP g D t false)) s d j = px := ⟨_, rfl⟩
          have HFT := HPA.out.first
          have HNX := HPA.out.next
          rw [hpx] at hxo hpl HO HF HFT HNX
          have HFT := Lib.hid HFT
          have HNX := Lib.hid HNX
          clear hpx
          obtain ⟨pl, x⟩ := px
          dsimp only at hxo hpl HO HF HFT HNX
          have HXO := Lib.hid hxo
          have HPLL := Lib.hid hpl
          clear hxo hpl
          have kd : ¬ (d : Int) - j ≤ 0 := by omega
          have kd' : (0 : Int) < (d : Int) - j := by omega
          have kd2 : IntKind.i64.wrap ((d : Int) - j - 1) = (d : Int) - j - 1 := IntWalk.i64_in _ (by omega)
          go_wp2
          obtain ⟨wo, hwo⟩ : ∃ wo : World, wo = wr := ⟨_, rfl⟩
          subst hwo
          go_loopw [10, 12, 14] (fun pv' lv' i wr => ∃ k : Nat, k ≤ m ∧ i = .int .i64 k ∧ firstTo (hitP g D (dOf (finP g D t false)) (d - (j + 1)) x) k = none ∧ pw = pv' ∧ lw = lv' ∧ Own encInt wr w.heap.size 3 pw pl ∧ FromG w.heap.size pw wr lw x ∧ Own encInt wr w.heap.size 3 (.slice (some ⟨gf, 0, none⟩) P cf) (farL (finP g D t false) n) ∧ Below w.heap.size w wr) (fun _ _ i _ => m - (intOf i).toNat)
          case atStart => exact ⟨0, Nat.zero_le _, rfl, rfl, rfl, rfl, HO.out, HF.out, HVF.out, HBL.out⟩
          case round =>
            clear HO HF HBL HVF
            obtain ⟨k, hk, rfl, hno, rfl, rfl, ho, hf, hvf, hbel⟩ := hrel
            have HNO := Lib.hid hno
            have HO := Lib.hid ho
            have HF := Lib.hid hf
            have HVF := Lib.hid hvf
            have HBL := Lib.hid hbel
            have hsz := hbel.size
            clear hno ho hf hvf hbel
            by_cases hkm : k < m
            · obtain ⟨p, q, hpq, hp, hq, hne, hmv⟩ := mvP_ends HFI.out (show k < D.length by rw [HM.out]; exact hkm) true x
              rw [HN.out] at hp hq
              obtain ⟨db, dof, rfl, hdb, hds'⟩ := (HD.out.past HBL.out).ditch (by rw [HM.out]; omega)
              obtain ⟨e0, e1⟩ := hds' k _ hpq
              dsimp only at e0 e1
              have hxl := areLevels_len HXO.out
              rw [HN.out] at hxl
              obtain ⟨Ax, cx, rfl, hcx, hsx⟩ := (fromG w.heap.size _).val hsz HF.out
              rw [hxl] at hcx HF ⊢
              have HSX := Lib.hid hsx
              have HXL := Lib.hid hxl
              have HXS := Lib.hid (areLevels_small HG.out HXO.out)
              rw [if_pos rfl] at hmv
              obtain ⟨Y, hY⟩ : ∃ Y, mv x p q = Y := ⟨_, rfl⟩
              obtain ⟨Q, hQ⟩ : ∃ Q, areLevels g Y = Q := ⟨_, rfl⟩
              have HMV := Lib.hid (hmv.trans hY)
              have HYL := Lib.hid (show Y.length = n by rw [← hY, mv_length]; exact HXL.out)
              have HY := Lib.hid hY
              have HQ2 := Lib.hid hQ
              clear hmv hQ hY hds' hpq hsx hxl
              have k1 : (k : Int) < m := by omega
              have k2 : (0 : Int) ≤ k := by omega
              go_wp2_with fail
              refine (l16Moved_any x n HXL.out _ _ p q _ hl hp hq hne HXS.out (HSX.out.past (by repeat (first | assumption | exact Below.refl _ _ | apply bl_gw | apply bl_alloc | apply bl_drewN | apply bl_drew)))).mono ?_
              rintro e w5 ⟨v5, rfl, o5, b5⟩
              rw [HY.out] at o5
              obtain ⟨A5, c5, rfl, _, _, _⟩ := o5.slice
              rw [HYL.out] at o5 ⊢
              have hb5 := below_step (show Below wr.heap.size wr _ from (by repeat (first | assumption | exact Below.refl _ _ | apply bl_gw | apply bl_alloc | apply bl_drewN | apply bl_drew))) b5
              have O5 := Lib.hid (o5.lower (b := wr.heap.size) (by simp))
              have P5 := Lib.hid (HO.out.past hb5 (Nat.le_refl _))
              have V5 := Lib.hid (HVF.out.past hb5 (Nat.le_refl _))
              have G5 := Lib.hid ((fromG w.heap.size _).past hsz HF.out hb5 (Nat.le_refl _))
              have B5 := Lib.hid (HBL.out.trans (hb5.mono hsz))
              have hz5 := B5.out.size
              have hwr5 := hb5.size
              clear o5 b5 hb5 HF HBL HSX HVF e0 e1 hdb
              go_wp2_with fail
              refine (l16Levels_any g Y n n HN.out HYL.out _ _ _ _ _ hl hl (HC.out.past B5.out) O5.out.rd).mono ?_
              rintro e w6 ⟨rfl, b6⟩
              rw [HQ2.out]
              have O6 := Lib.hid (O5.out.past b6 (Nat.le_refl _))
              have P6 := Lib.hid (P5.out.past b6 (Nat.le_refl _))
              have V6 := Lib.hid (V5.out.past b6 (Nat.le_refl _))
              have G6 := Lib.hid ((fromG w.heap.size _).past hz5 G5.out b6 (Nat.le_refl _))
              have B6 := Lib.hid (below_step B5.out b6)
              have hz6 := B6.out.size
              have HAP := Lib.hid (show ∀ k, (Value.slice A5 n c5).ownBlock = some k → pw.ownBlock ≠ some k from fun k hk e => by
                have h1 := O5.out.row k hk
                have h2 := HO.out.blkLt e
                omega)
              clear b6 O5 P5 V5 G5 B5 hz5 HO
              cases Q
              · have HN2 := Lib.hid (firstTo_miss HNO.out (hit_no HMV.out HQ2.out))
                go_wp2
                go_roundw
                case rel => exact ⟨k + 1, by omega, by go_num, HN2.out, rfl, rfl, P6.out, G6.out, V6.out, B6.out⟩
                case measure => simp [intOf]; omega
              · have hys := areLevels_small HG.out HQ2.out
                have hat := farL_fv (L := finP g D t false) hys HYL.out
                obtain ⟨hgw, d0⟩ := V6.out.int hat
                have hZy : numN Y < P := by have := numN_lt' hys HYL.out; rw [HP.out] at this; exact this
                have HNS := Lib.hid (l16Number_any Y n HYL.out A5 c5 w6 hn5.2 hys O6.out.rd)
                obtain ⟨z, hz⟩ : ∃ z, fvI (finP g D t false) Y = z := ⟨_, rfl⟩
                have HHIT := Lib.hid (hit_far (t := d - (j + 1)) HMV.out HQ2.out hz)
                rw [hz] at d0
                obtain ⟨Z, hZ'⟩ : ∃ Z, numN Y = Z := ⟨_, rfl⟩
                rw [hZ'] at hZy HNS d0
                have y1 : (Z : Int) < P := by omega
                have y2 : (0 : Int) ≤ Z := by omega
                clear hat hys hZ' hz
                by_cases hzd : z = (d : Int) - j - 1
                · have HN2 := Lib.hid (HHIT.out.trans (decide_eq_true (show z = ((d - (j + 1) : Nat) : Int) by omega)))
                  have hk0 : k0 = k := by
                    have h1 := HFT.out
                    rw [firstTo_hit HNO.out HN2.out _ (by rw [HM.out]; exact hkm)] at h1
                    injection h1 with h1
                    exact h1.symm
                  have HNX2 := Lib.hid (show planTo g D (dOf (finP g D t false)) s d (j + 1) = (pl ++ [(k : Int)], Y) by rw [HNX.out, hk0, HMV.out])
                  clear hk0
                  go_wp2_with (first | (go_at_call 65; refine (HNS.out).mono ?_; rintro e w1 ⟨rfl, rfl⟩) | (at_builtin; refine halt ?_))
                  unfold Halt
                  refine wpList_app3 (E := encInt) rfl (.tmp 75) (.tmp 77) 26 rfl w.heap.size 3 i0 _ 8 Try.underlying26 hinf hi0 hi1 hi2 rfl (by decide) pw pl rfl P6.out (k : Int) #[.int .i64 k] rfl rfl (by rw [HPLL.out]; simp [maxLen]; omega) (by rw [HPLL.out]; omega) hz6 ?_
                  intro v7 w7 ho7 hb7 hap7
                  have hq7 := hap7 O6.out HAP.out
                  have hq8 := hap7 V6.out HFA.out
                  have P7 := Lib.hid ho7
                  have G7 := Lib.hid (show FromG w.heap.size v7 w7 (.slice A5 n c5) Y from .inr ⟨hq7.1.lower hsz, hq7.2⟩)
                  have V7 := Lib.hid hq8.1
                  have A7 := Lib.hid hq8.2
                  have B7 := Lib.hid (B6.out.trans (hb7 _ (Nat.le_refl _)))
                  clear ho7 hb7 hap7 hq7 hq8
                  go_wp2
                  go_roundw
                  case rel => exact ⟨j + 1, _, _, by omega, by first | (go_num; done) | (congr 1; omega), rfl, rfl, by rw [HNX2.out]; exact P7.out, by rw [HNX2.out]; exact G7.out, V7.out, A7.out, B7.out⟩
                  case measure => simp [intOf]; omega
                · have HN2 := Lib.hid (firstTo_miss HNO.out (HHIT.out.trans (decide_eq_false (show ¬ z = ((d - (j + 1) : Nat) : Int) by omega))))
                  go_wp2_with (go_at_call 65; refine (HNS.out).mono ?_; rintro e w1 ⟨rfl, rfl⟩)
                  go_roundw
                  case rel => exact ⟨k + 1, by omega, by go_num, HN2.out, rfl, rfl, P6.out, G6.out, V6.out, B6.out⟩
                  case measure => simp [intOf]; omega
            · obtain rfl : k = m := by omega
              have := HFT.out
              rw [HM.out, HNO.out] at this
              cases this
        · obtain rfl : j = d := by omega
          have kd : ¬ (0 : Int) < (j : Int) - j := by omega
          go_wp2
          go_ret2
          rw [HSP.out]
          exact ⟨_, rfl, HO.out, HBL.out⟩
end Go.Proofs.Ytbedepmcecdhfaa
