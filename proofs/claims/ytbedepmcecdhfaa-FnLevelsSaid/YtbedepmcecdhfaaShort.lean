/- The shortest plan: plain facts, and the program's walk. -/
import Derived.Test.YtbedepmcecdhfaaFull
namespace Go.Proofs.Ytbedepmcecdhfaa
open Go.RowKit
def shortP (g : List Gauge) (D : List Ditch) (s t : List Int) : List Int × Bool := if asked g D s && areLevels g t then match planP g D s t with | some p => (p, true) | none => ([], false) else ([], false)
theorem shortP_no {g : List Gauge} {D : List Ditch} {s t : List Int} (h : (asked g D s && areLevels g t) = false) : shortP g D s t = ([], false) := by unfold shortP; rw [h]; rfl
theorem shortP_none {g : List Gauge} {D : List Ditch} {s t : List Int} (h : dOf (finP g D t false) s = none) : shortP g D s t = ([], false) := by
  unfold shortP planP
  rw [h]
  split <;> rfl
theorem shortP_some {g : List Gauge} {D : List Ditch} {s t : List Int} {d : Nat} (hq : asked g D s = true) (ht : areLevels g t = true) (h : dOf (finP g D t false) s = some d) : shortP g D s t = ((planTo g D (dOf (finP g D t false)) s d d).1, true) := by
  unfold shortP planP
  rw [h, hq, ht]
  rfl
theorem dist_le {g : List Gauge} {D : List Ditch} {s t : List Int} {d : Nat} {fwd : Bool} (hg : areGauges g = true) (ht : areLevels g t = true) (h : dOf (finP g D t fwd) s = some d) : d ≤ 16807 := by
  obtain ⟨i, hi⟩ := List.getElem?_of_mem (dOf_mem h)
  have h1 := (fin_found (g := g) (D := D) (s := t) (fwd := fwd)).low _ _ hi
  have h2 := fin_le (D := D) (fwd := fwd) hg ht
  have h3 := (List.getElem?_eq_some_iff.1 hi).1
  simp only at h1
  omega
structure PlanAt (g : List Gauge) (D : List Ditch) (F : List Int → Option Nat) (s : List Int) (d j k0 : Nat) : Prop where
  lt : k0 < D.length
  first : firstTo (hitP g D F (d - (j + 1)) (planTo g D F s d j).2) D.length = some k0
  next : planTo g D F s d (j + 1) = ((planTo g D F s d j).1 ++ [(k0 : Int)], mvP D true k0 (planTo g D F s d j).2)
theorem plan_at {g : List Gauge} {D : List Ditch} {s t : List Int} (hF : isField g D = true) (hs : areLevels g s = true) (ht : areLevels g t = true) {d : Nat} (hd : dOf (finP g D t false) s = some d) {j : Nat} (hj : j < d) :
    ∃ k0, PlanAt g D (dOf (finP g D t false)) s d j k0 := by
  obtain ⟨h1, _, _, _⟩ := plan_inv hF hs ht hd j (by omega)
  obtain ⟨h5, _, _, _⟩ := plan_inv hF hs ht hd (j + 1) (by omega)
  cases hf : firstTo (hitP g D (dOf (finP g D t false)) (d - (j + 1)) (planTo g D (dOf (finP g D t false)) s d j).2) D.length with
  | none =>
    rw [planTo, hf] at h5
    simp only at h5
    omega
  | some k0 => exact ⟨k0, (firstTo_some hf).1, hf, by rw [planTo, hf]⟩
theorem plan_ok {g : List Gauge} {D : List Ditch} {s t : List Int} (hF : isField g D = true) (hs : areLevels g s = true) (ht : areLevels g t = true) {d : Nat} (hd : dOf (finP g D t false) s = some d) {j : Nat} (hj : j ≤ d) :
    areLevels g (planTo g D (dOf (finP g D t false)) s d j).2 = true ∧ (planTo g D (dOf (finP g D t false)) s d j).1.length = j := by
  obtain ⟨h1, _, h3, _⟩ := plan_inv hF hs ht hd j hj
  exact ⟨h3, h1⟩
theorem shortP_length (g : List Gauge) (D : List Ditch) (s t : List Int) : (shortP g D s t).1.length ≤ 1000000 := by
  unfold shortP
  split
  · rename_i h
    rw [Bool.and_eq_true] at h
    obtain ⟨hF, hg, hs⟩ := asked_at h.1
    unfold planP
    cases hd : dOf (finP g D t false) s with
    | none => simp
    | some d =>
      have := (plan_ok hF hs h.2 hd (Nat.le_refl d)).2
      have := dist_le hg h.2 hd
      simp only
      omega
  · simp
theorem hit_of {g : List Gauge} {D : List Ditch} {L : List (List Int × Nat)} {t k : Nat} {x Y : List Int} {Q : Bool} {z : Int} {M : Bool} (hY : mvP D true k x = Y) (hQ : areLevels g Y = Q) (hM : (dOf L Y).isSome = M) (hz : valOf L Y = z) :
    hitP g D (dOf L) t x k = (Q && (M && decide (z = t))) := by
  subst hY hQ hM hz
  unfold hitP valOf
  congr 1
  cases dOf L (mvP D true k x) with
  | none => rfl
  | some d =>
    simp
    exact ⟨fun h => by omega, fun h => by omega⟩
theorem IsFar.pastLt {w w' : World} {bm c B : Nat} {L : List (List Int × Nat)} (h : IsFar w bm c L) (hb : Below B w w') (hB : bm < B) : IsFar w' bm c L := by
  obtain ⟨kf, n, D, K, hn, ho, hm⟩ := h
  obtain ⟨es, ck, h1, r⟩ := ho
  exact ⟨kf, n, D, K, hn, ⟨es, ck, by rw [hb.block bm hB]; exact h1, r⟩, hm⟩
theorem from_row2 {w : World} {R S : Option Addr} {r q cr cs : Nat} {s t : List Int} (hr : s.length = r) (hq : t.length = q) (hcr : r ≤ cr) (hcs : q ≤ cs) (hs : Sl encInt w w.heap.size R s) (ht : Sl encInt w w.heap.size S t) :
    SlR (w.alloc (.cells #[.slice R r cr, .slice S q cs] 26)) (w.alloc (.cells #[.slice R r cr, .slice S q cs] 26)).heap.size (some ⟨w.heap.size, 0, none⟩) [s, t] := fun _ =>
  ⟨w.heap.size, 0, rfl, by simp, fun i l hl => by
    match i, hl with
    | 0, hl =>
      simp at hl; subst hl
      exact ⟨R, cr, by rw [hr]; exact (Blk.new w 26 #[.slice R r cr, .slice S q cs]).cell 0, by rw [hr]; exact hcr, hs.past (bl_alloc (Below.refl _ _) _)⟩
    | 1, hl =>
      simp at hl; subst hl
      exact ⟨S, cs, by rw [hq]; exact (Blk.new w 26 #[.slice R r cr, .slice S q cs]).cell 1, by rw [hq]; exact hcs, ht.past (bl_alloc (Below.refl _ _) _)⟩⟩
set_option maxRecDepth 4000 in
set_option maxHeartbeats 16000000 in
theorem impl_ShortestPlan_any (g : List Gauge) (D : List Ditch) (s t : List Int) (n m r u : Nat) (hn : g.length = n) (hm : D.length = m) (hr : s.length = r) (hq : t.length = u) (A A' R S : Option Addr) (cap cap' cr cs : Nat) (w : World) (hl : n ≤ 1048576) (hl' : m ≤ 1048576) (hl2 : r ≤ 1048576) (hl3 : u ≤ 1048576) (hcr : r ≤ cr) (hcs : u ≤ cs)
    (hc : Sl encGauge w w.heap.size A g) (hd : Sl encDitch w w.heap.size A' D) (hs : Sl encInt w w.heap.size R s) (ht : Sl encInt w w.heap.size S t) :
    Calls Try.prog 16 #[.slice A n cap, .slice A' m cap', .slice R r cr, .slice S u cs] w fun e w' => ∃ v, e = .returned (.tuple #[v, .bool (shortP g D s t).2]) ∧ Own encInt w' w.heap.size 3 v (shortP g D s t).1 ∧ Below w.heap.size w w' := by
  have HW1 := Lib.hid (from_row2 hr hq hcr hcs hs ht)
  have HT := Lib.hid ht; clear ht
  have HTL := Lib.hid hq; clear hq
  obtain ⟨i0, hinf, hi0, hi1, hi2⟩ := info_parts info_Int
  have HC := Lib.hid hc; clear hc
  have HD := Lib.hid hd; clear hd
  have HS := Lib.hid hs; clear hs
  have HN := Lib.hid hn; clear hn
  have HM := Lib.hid hm; clear hm
  have HR := Lib.hid hr; clear hr
  rcases sp1 (asked g D s && areLevels g t) with q0 | q0
  · rw [shortP_no q0]
    have HQ := Lib.hid q0
    clear q0
    go_enter Try.func16, Try.ntmps16
    go_wp2_with fail
    refine (areFrom_any g D [s, t] _ _ 2 HN.out HM.out rfl _ _ _ _ _ _ _ hl hl' (by omega) (fun l h => by simp at h; rcases h with h | h <;> (rw [h]; first | (rw [HR.out]; exact hl2) | (rw [HTL.out]; exact hl3))) (HC.out.past (by repeat (first | assumption | exact Below.refl _ _ | apply bl_gw | apply bl_alloc | apply bl_drewN | apply bl_drew))) (HD.out.past (by repeat (first | assumption | exact Below.refl _ _ | apply bl_gw | apply bl_alloc | apply bl_drewN | apply bl_drew))) HW1.out).mono ?_
    rintro e w1 ⟨rfl, b1⟩
    rw [from_two, HQ.out]
    have B1 := Lib.hid (below_step (bl_alloc (Below.refl w.heap.size w) _) b1)
    clear b1 HW1
    go_wp2
    go_ret2
    exact ⟨_, rfl, Own.none_, B1.out⟩
  · have HQ := Lib.hid q0
    obtain ⟨q, htv⟩ := Bool.and_eq_true_iff.1 q0
    have HTV := Lib.hid htv
    obtain rfl : n = u := by have := areLevels_len htv; rw [HN.out, HTL.out] at this; exact this.symm
    clear q0 htv
    have HQ0 := HQ
    obtain ⟨hF, hg, hlv⟩ := asked_at q
    have hn5 := areGauges_len hg
    rw [HN.out] at hn5
    obtain rfl : n = r := by have := areLevels_len hlv; rw [HN.out, HR.out] at this; exact this.symm
    have HG := Lib.hid hg
    have HLV := Lib.hid hlv
    have HFI := Lib.hid hF
    have HQ := Lib.hid q
    clear hg hlv hF q
    go_enter Try.func16, Try.ntmps16
    go_wp2_with fail
    refine (areFrom_any g D [s, t] _ _ 2 HN.out HM.out rfl _ _ _ _ _ _ _ hl hl' (by omega) (fun l h => by simp at h; rcases h with h | h <;> (rw [h]; first | (rw [HR.out]; exact hl2) | (rw [HTL.out]; exact hl3))) (HC.out.past (by repeat (first | assumption | exact Below.refl _ _ | apply bl_gw | apply bl_alloc | apply bl_drewN | apply bl_drew))) (HD.out.past (by repeat (first | assumption | exact Below.refl _ _ | apply bl_gw | apply bl_alloc | apply bl_drewN | apply bl_drew))) HW1.out).mono ?_
    rintro e w1 ⟨rfl, b1⟩
    rw [from_two, HQ0.out]
    have B1 := Lib.hid (below_step (bl_alloc (Below.refl w.heap.size w) _) b1)
    clear b1 HW1
    go_wp2_with fail
    refine (search_any g D t false n m HN.out HM.out HTL.out _ _ _ _ _ _ _ hl hl' HFI.out HTV.out (HC.out.past B1.out) (HD.out.past B1.out) (HT.out.past B1.out)).mono ?_
    rintro e w2 ⟨v2, bm, rfl, _, f2, _, b2⟩
    have F2 := Lib.hid f2
    have B2 := Lib.hid (below_step B1.out b2)
    clear f2 b2
    go_wp2_with fail
    refine (keyOf_any s n HR.out _ _ _ hn5.1 hn5.2 (HS.out.past B2.out)).mono ?_
    rintro e w3 ⟨rfl, b3⟩
    have F3 := Lib.hid (F2.out.past b3 (Nat.le_refl _))
    have B3 := Lib.hid (below_step B2.out b3)
    have HSN := Lib.hid (areLevels_small HG.out HLV.out).near
    have hlk := F3.out.lookOk HR.out HSN.out
    have hbm := F3.out.lt
    clear b3 F2 B2 B1
    cases hds : dOf (finP g D t false) s with
    | none =>
      have HSP := Lib.hid (shortP_none hds)
      have hv0 : valOf (finP g D t false) s = 0 := by unfold valOf; rw [hds]
      rw [hds, hv0] at hlk
      clear hds hv0
      go_wp2
      go_ret2
      rw [HSP.out]
      exact ⟨_, rfl, Own.none_, B3.out⟩
    | some d =>
      have hv0 : valOf (finP g D t false) s = d := by unfold valOf; rw [hds]
      have hd7 := dist_le HG.out HTV.out hds
      have HSP := Lib.hid (shortP_some HQ.out HTV.out hds)
      have HDS := Lib.hid hds
      rw [hds, hv0] at hlk
      clear hds hv0
      go_wp2_with fail
      refine (cloneInt_any s n HR.out _ _ _ hl (HS.out.past B3.out)).mono ?_
      rintro e w4 ⟨v4, rfl, o4, b4⟩
      have O4 := Lib.hid o4
      have B4 := Lib.hid b4
      have hz3 := B3.out.size
      clear o4 b4 hlk
      go_wp2
      go_loopw [12, 14, 15] (fun left pv lv wr => ∃ (j : Nat) (pw lw : Value), j ≤ d ∧ left = .int .i64 ((d : Int) - j) ∧ pw = pv ∧ lw = lv ∧ Own encInt wr w3.heap.size 3 pw (planTo g D (dOf (finP g D t false)) s d j).1 ∧ FromG w3.heap.size pw wr lw (planTo g D (dOf (finP g D t false)) s d j).2 ∧ Below w3.heap.size w3 wr) (fun left _ _ _ => (intOf left).toNat)
      case atStart => exact ⟨0, _, _, Nat.zero_le _, by simp, rfl, rfl, Own.none_, .inr ⟨O4.out, fun k _ h => by simp [Value.ownBlock] at h⟩, B4.out⟩
      case round =>
        clear O4 B4
        obtain ⟨j, pw, lw, hj, rfl, rfl, rfl, ho, hf, hbel⟩ := hrel
        have HO := Lib.hid ho
        have HF := Lib.hid hf
        have HBL := Lib.hid hbel
        clear ho hf hbel
        by_cases hlt : j < d
        · obtain ⟨k0, hpa⟩ := plan_at HFI.out HLV.out HTV.out HDS.out hlt
          obtain ⟨hxo, hpl⟩ := plan_ok HFI.out HLV.out HTV.out HDS.out hj
          have HPA := Lib.hid hpa
          clear hpa
          obtain ⟨px, hpx⟩ : ∃ px, planTo g D (dOf (finP g D t false)) s d j = px := ⟨_, rfl⟩
          have HFT := HPA.out.first
          have HNX := HPA.out.next
          rw [hpx] at hxo hpl HO HF HFT HNX
          have HFT := Lib.hid HFT
          have HNX := Lib.hid HNX
          clear hpx
          obtain ⟨pl, x⟩ := px
          dsimp only at hxo hpl HO HF HFT HNX
          have HXO := Lib.hid hxo
          have HPLL := Lib.hid hpl
          clear hxo hpl
          have kd : ¬ (d : Int) - j ≤ 0 := by omega
          have kd' : (0 : Int) < (d : Int) - j := by omega
          have kd2 : IntKind.i64.wrap ((d : Int) - j - 1) = (d : Int) - j - 1 := IntWalk.i64_in _ (by omega)
          go_wp2
          obtain ⟨wo, hwo⟩ : ∃ wo : World, wo = wr := ⟨_, rfl⟩
          subst hwo
          go_loopw [14, 15, 51] (fun pv' lv' i wr => ∃ k : Nat, k ≤ m ∧ i = .int .i64 k ∧ firstTo (hitP g D (dOf (finP g D t false)) (d - (j + 1)) x) k = none ∧ pw = pv' ∧ lw = lv' ∧ Own encInt wr w3.heap.size 3 pw pl ∧ FromG w3.heap.size pw wr lw x ∧ Below w3.heap.size w3 wr) (fun _ _ i _ => m - (intOf i).toNat)
          case atStart => exact ⟨0, Nat.zero_le _, rfl, rfl, rfl, rfl, HO.out, HF.out, HBL.out⟩
          case round =>
            clear HO HF HBL
            obtain ⟨k, hk, rfl, hno, rfl, rfl, ho, hf, hbel⟩ := hrel
            have HNO := Lib.hid hno
            have HO := Lib.hid ho
            have HF := Lib.hid hf
            have HBL := Lib.hid hbel
            have hsz := hbel.size
            clear hno ho hf hbel
            by_cases hkm : k < m
            · obtain ⟨p, q, hpq, hp, hq, hne, hmv⟩ := mvP_ends HFI.out (show k < D.length by rw [HM.out]; exact hkm) true x
              rw [HN.out] at hp hq
              have hbw : Below w.heap.size w wr := B3.out.trans (HBL.out.mono hz3)
              obtain ⟨db, dof, rfl, hdb, hds'⟩ := (HD.out.past hbw).ditch (by rw [HM.out]; omega)
              obtain ⟨e0, e1⟩ := hds' k _ hpq
              dsimp only at e0 e1
              have hxl := areLevels_len HXO.out
              rw [HN.out] at hxl
              obtain ⟨Ax, cx, rfl, hcx, hsx⟩ := (fromG w3.heap.size _).val hsz HF.out
              rw [hxl] at hcx HF ⊢
              have HSX := Lib.hid hsx
              have HXL := Lib.hid hxl
              have HXS := Lib.hid (areLevels_small HG.out HXO.out)
              rw [if_pos rfl] at hmv
              obtain ⟨Y, hY⟩ : ∃ Y, mv x p q = Y := ⟨_, rfl⟩
              obtain ⟨Q, hQ⟩ : ∃ Q, areLevels g Y = Q := ⟨_, rfl⟩
              obtain ⟨M, hM'⟩ : ∃ M, (dOf (finP g D t false) Y).isSome = M := ⟨_, rfl⟩
              obtain ⟨z, hz⟩ : ∃ z, valOf (finP g D t false) Y = z := ⟨_, rfl⟩
              have HMV := Lib.hid (hmv.trans hY)
              have HHIT := Lib.hid (hit_of (t := d - (j + 1)) HMV.out hQ hM' hz)
              have HYL := Lib.hid (show Y.length = n by rw [← hY, mv_length]; exact HXL.out)
              have HYN := Lib.hid (show NearIn Y by rw [← hY]; exact near_mv HXS.out (by rw [HXL.out]; exact hp) (by rw [HXL.out]; exact hq) hne)
              have HY := Lib.hid hY
              have HQ2 := Lib.hid hQ
              have HMM := Lib.hid hM'
              have HZ := Lib.hid hz
              have HCW := Lib.hid (HC.out.past hbw)
              clear hmv hQ hM' hz hY hds' hpq hsx hxl hbw
              have k1 : (k : Int) < m := by omega
              have k2 : (0 : Int) ≤ k := by omega
              go_wp2_with fail
              refine (moved_any g x n n HN.out HXL.out _ _ _ _ _ _ _ hl hl hp hq hne HXS.out (HCW.out.past (by repeat (first | assumption | exact Below.refl _ _ | apply bl_gw | apply bl_alloc | apply bl_drewN | apply bl_drew))) (HSX.out.past (by repeat (first | assumption | exact Below.refl _ _ | apply bl_gw | apply bl_alloc | apply bl_drewN | apply bl_drew)))).mono ?_
              rintro e w5 ⟨v5, rfl, o5, b5⟩
              rw [HY.out] at o5 ⊢
              rw [HQ2.out]
              obtain ⟨A5, c5, rfl, _, _, _⟩ := o5.slice
              rw [HYL.out] at o5 ⊢
              have hb5 := below_step (show Below wr.heap.size wr _ from (by repeat (first | assumption | exact Below.refl _ _ | apply bl_gw | apply bl_alloc | apply bl_drewN | apply bl_drew))) b5
              have O5 := Lib.hid (o5.lower (b := wr.heap.size) (by simp))
              have P5 := Lib.hid (HO.out.past hb5 (Nat.le_refl _))
              have G5 := Lib.hid ((fromG w3.heap.size _).past hsz HF.out hb5 (Nat.le_refl _))
              have B5 := Lib.hid (HBL.out.trans (hb5.mono hsz))
              have hz5 := B5.out.size
              have hwr5 := hb5.size
              clear o5 b5 hb5 HF HBL HSX HCW e0 e1 hdb
              go_wp2_with fail
              refine (keyOf_any Y n HYL.out _ _ _ hn5.1 hn5.2 O5.out.rd).mono ?_
              rintro e w6 ⟨rfl, b6⟩
              have O6 := Lib.hid (O5.out.past b6 (Nat.le_refl _))
              have P6 := Lib.hid (P5.out.past b6 (Nat.le_refl _))
              have G6 := Lib.hid ((fromG w3.heap.size _).past hz5 G5.out b6 (Nat.le_refl _))
              have B6 := Lib.hid (below_step B5.out b6)
              have hz6 := B6.out.size
              have F6 := F3.out.pastLt B6.out hbm
              have hlk := F6.lookOk HYL.out HYN.out
              rw [HZ.out, HMM.out] at hlk
              have HAP := Lib.hid (show ∀ k, (Value.slice A5 n c5).ownBlock = some k → pw.ownBlock ≠ some k from fun k hk e => by
                have h1 := O5.out.row k hk
                have h2 := HO.out.blkLt e
                omega)
              clear b6 O5 P5 G5 B5 hz5 HO F6
              rcases sp1 (Q && (M && decide (z = ((d - (j + 1) : Nat) : Int)))) with h | h
              · have HN2 := Lib.hid (firstTo_miss HNO.out (HHIT.out.trans h))
                rcases (show Q = false ∨ (Q = true ∧ M = false) ∨ (Q = true ∧ M = true ∧ ¬ z = (d : Int) - j - 1) by
                  cases Q <;> cases M <;> simp at h ⊢
                  intro h'
                  exact h (by omega)) with rfl | ⟨rfl, rfl⟩ | ⟨rfl, rfl, hzd⟩
                all_goals
                  clear h
                  go_wp2
                  go_roundw
                  case rel => exact ⟨k + 1, by omega, by go_num, HN2.out, rfl, rfl, P6.out, G6.out, B6.out⟩
                  case measure => simp [intOf]; omega
              · have HN2 := Lib.hid (HHIT.out.trans h)
                obtain ⟨rfl, rfl, hzd⟩ : Q = true ∧ M = true ∧ z = (d : Int) - j - 1 := by
                  simp only [Bool.and_eq_true, decide_eq_true_eq] at h
                  exact ⟨h.1, h.2.1, by omega⟩
                have hk0 : k0 = k := by
                  have h1 := HFT.out
                  rw [firstTo_hit HNO.out HN2.out _ (by rw [HM.out]; exact hkm)] at h1
                  injection h1 with h1
                  exact h1.symm
                have HNX2 := Lib.hid (show planTo g D (dOf (finP g D t false)) s d (j + 1) = (pl ++ [(k : Int)], Y) by rw [HNX.out, hk0, HMV.out])
                clear h hk0
                go_wp2_with (at_builtin; refine halt ?_)
                unfold Halt
                refine wpList_app3 (E := encInt) rfl (.tmp 83) (.tmp 85) 26 rfl w3.heap.size 3 i0 _ 8 Try.underlying26 hinf hi0 hi1 hi2 rfl (by decide) pw pl rfl P6.out (k : Int) #[.int .i64 k] rfl rfl (by rw [HPLL.out]; simp [maxLen]; omega) (by rw [HPLL.out]; omega) hz6 ?_
                intro v7 w7 ho7 hb7 hap7
                have hq7 := hap7 O6.out HAP.out
                have P7 := Lib.hid ho7
                have G7 := Lib.hid (show FromG w3.heap.size v7 w7 (.slice A5 n c5) Y from .inr ⟨hq7.1.lower hsz, hq7.2⟩)
                have B7 := Lib.hid (B6.out.trans (hb7 _ (Nat.le_refl _)))
                clear ho7 hb7 hap7 hq7
                go_wp2
                go_roundw
                case rel => exact ⟨j + 1, _, _, by omega, by first | (go_num; done) | (congr 1; omega), rfl, rfl, by rw [HNX2.out]; exact P7.out, by rw [HNX2.out]; exact G7.out, B7.out⟩
                case measure => simp [intOf]; omega
            · obtain rfl : k = m := by omega
              have := HFT.out
              rw [HM.out, HNO.out] at this
              cases this
        · obtain rfl : j = d := by omega
          have kd : ¬ (0 : Int) < (j : Int) - j := by omega
          go_wp2
          go_ret2
          rw [HSP.out]
          exact ⟨_, rfl, HO.out.lower hz3, B3.out.trans (HBL.out.mono hz3)⟩
end Go.Proofs.Ytbedepmcecdhfaa
