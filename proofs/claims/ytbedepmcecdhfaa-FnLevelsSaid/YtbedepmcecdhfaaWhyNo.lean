/- Why there is no plan: both sides. -/
import Derived.Test.YtbedepmcecdhfaaWhy
namespace Go.Proofs.Ytbedepmcecdhfaa
open Go.RowKit
theorem whyP_none {g : List Gauge} {D : List Ditch} {s t : List Int} (h : (asked g D s && areLevels g t) = true) (h1 : (dOf (finP g D t false) s).isSome = true) : whyP g D s t = .none := by rw [whyP_at h, if_pos h1]
theorem whyP_sum {g : List Gauge} {D : List Ditch} {s t : List Int} (h : (asked g D s && areLevels g t) = true) (h1 : (dOf (finP g D t false) s).isSome = false) (h2 : sumI s ≠ sumI t) : whyP g D s t = .sum := by
  rw [whyP_at h, if_neg (by rw [h1]; decide), if_neg h2]
theorem whyP_served {g : List Gauge} {D : List Ditch} {s t : List Int} (h : (asked g D s && areLevels g t) = true) (h1 : (dOf (finP g D t false) s).isSome = false) (h2 : sumI s = sumI t) : whyP g D s t = if servedP D s t g.length then .gauge else .ditch := by
  rw [whyP_at h, if_neg (by rw [h1]; decide), if_pos h2]
set_option maxRecDepth 4000 in
set_option maxHeartbeats 16000000 in
theorem impl_WhyNoPlan_any (g : List Gauge) (D : List Ditch) (s t : List Int) (n m r u : Nat) (hn : g.length = n) (hm : D.length = m) (hr : s.length = r) (hq : t.length = u) (A A' R S : Option Addr) (cap cap' cr cs : Nat) (w : World) (hl : n ≤ 1048576) (hl' : m ≤ 1048576) (hl2 : r ≤ 1048576) (hl3 : u ≤ 1048576) (hcr : r ≤ cr) (hcs : u ≤ cs)
    (hc : Sl encGauge w w.heap.size A g) (hd : Sl encDitch w w.heap.size A' D) (hs : Sl encInt w w.heap.size R s) (ht : Sl encInt w w.heap.size S t) :
    Calls Try.prog 21 #[.slice A n cap, .slice A' m cap', .slice R r cr, .slice S u cs] w fun e w' => e = .returned (.tuple #[.string (whyP g D s t).text, .bool (whyP g D s t).ok]) ∧ Below w.heap.size w w' := by
  have HW1 := Lib.hid (from_row2 hr hq hcr hcs hs ht)
  have HT := Lib.hid ht; clear ht
  have HTL := Lib.hid hq; clear hq
  have HC := Lib.hid hc; clear hc
  have HD := Lib.hid hd; clear hd
  have HS := Lib.hid hs; clear hs
  have HN := Lib.hid hn; clear hn
  have HM := Lib.hid hm; clear hm
  have HR := Lib.hid hr; clear hr
  rcases sp1 (asked g D s && areLevels g t) with q0 | q0
  · rw [whyP_bad q0]
    have HQ := Lib.hid q0
    clear q0
    go_enter Try.func21, Try.ntmps21
    go_wp2_with fail
    refine (areFrom_any g D [s, t] _ _ 2 HN.out HM.out rfl _ _ _ _ _ _ _ hl hl' (by omega) (fun l h => by simp at h; rcases h with h | h <;> (rw [h]; first | (rw [HR.out]; exact hl2) | (rw [HTL.out]; exact hl3))) (HC.out.past (by repeat (first | assumption | exact Below.refl _ _ | apply bl_gw | apply bl_alloc | apply bl_drewN | apply bl_drew))) (HD.out.past (by repeat (first | assumption | exact Below.refl _ _ | apply bl_gw | apply bl_alloc | apply bl_drewN | apply bl_drew))) HW1.out).mono ?_
    rintro e w1 ⟨rfl, b1⟩
    rw [from_two, HQ.out]
    have B1 := Lib.hid (below_step (bl_alloc (Below.refl w.heap.size w) _) b1)
    clear b1 HW1
    go_wp2
    go_ret2
    exact ⟨rfl, B1.out⟩
  · have HQ0 := Lib.hid q0
    obtain ⟨q, htv⟩ := Bool.and_eq_true_iff.1 q0
    have HTV := Lib.hid htv
    obtain rfl : n = u := by have := areLevels_len htv; rw [HN.out, HTL.out] at this; exact this.symm
    clear q0 htv
    have HSO := Lib.hid (shortP_ok HQ0.out)
    obtain ⟨fq, hfq⟩ : ∃ fq, (dOf (finP g D t false) s).isSome = fq := ⟨_, rfl⟩
    have HFQ := Lib.hid hfq
    clear hfq
    obtain ⟨hF, hg, hlv⟩ := asked_at q
    have hn5 := areGauges_len hg
    rw [HN.out] at hn5
    obtain rfl : n = r := by have := areLevels_len hlv; rw [HN.out, HR.out] at this; exact this.symm
    have HG := Lib.hid hg
    have HLV := Lib.hid hlv
    have HFI := Lib.hid hF
    have HQ := Lib.hid q
    clear hg hlv hF q
    go_enter Try.func21, Try.ntmps21
    go_wp2_with fail
    refine (areFrom_any g D [s, t] _ _ 2 HN.out HM.out rfl _ _ _ _ _ _ _ hl hl' (by omega) (fun l h => by simp at h; rcases h with h | h <;> (rw [h]; first | (rw [HR.out]; exact hl2) | (rw [HTL.out]; exact hl3))) (HC.out.past (by repeat (first | assumption | exact Below.refl _ _ | apply bl_gw | apply bl_alloc | apply bl_drewN | apply bl_drew))) (HD.out.past (by repeat (first | assumption | exact Below.refl _ _ | apply bl_gw | apply bl_alloc | apply bl_drewN | apply bl_drew))) HW1.out).mono ?_
    rintro e w1 ⟨rfl, b1⟩
    rw [from_two, HQ0.out]
    have B1 := Lib.hid (below_step (bl_alloc (Below.refl w.heap.size w) _) b1)
    clear b1 HW1
    go_wp2_with fail
    refine (impl_ShortestPlan_any g D s t n m n n HN.out HM.out HR.out HTL.out _ _ _ _ _ _ _ _ _ hl hl' hl hl hcr hcs (HC.out.past B1.out) (HD.out.past B1.out) (HS.out.past B1.out) (HT.out.past B1.out)).mono ?_
    rintro e w2 ⟨v2, rfl, _, b2⟩
    rw [HSO.out, HFQ.out]
    have B2 := Lib.hid (below_step B1.out b2)
    clear b2 B1
    cases fq
    rotate_left
    · have HV := Lib.hid (whyP_none HQ0.out HFQ.out)
      go_wp2
      go_ret2
      rw [HV.out]
      exact ⟨rfl, B2.out⟩
    have HSU := Lib.hid (fun W (h : Sl encInt W W.heap.size R s) => sumOf_any s n HR.out R cr W hn5.2 (areLevels_small HG.out HLV.out) h)
    have HSV := Lib.hid (fun W (h : Sl encInt W W.heap.size S t) => sumOf_any t n HTL.out S cs W hn5.2 (areLevels_small HG.out HTV.out) h)
    obtain ⟨sa, hsa⟩ : ∃ sa, sumI s = sa := ⟨_, rfl⟩
    obtain ⟨sb, hsb⟩ : ∃ sb, sumI t = sb := ⟨_, rfl⟩
    rw [hsa] at HSU
    rw [hsb] at HSV
    have HSA := Lib.hid hsa
    have HSB := Lib.hid hsb
    clear hsa hsb
    by_cases hsum : sa = sb
    rotate_left
    · have HV := Lib.hid (whyP_sum HQ0.out HFQ.out (by rw [HSA.out, HSB.out]; exact hsum))
      go_wp2_with (first | (go_at_call_of 71 R; refine (HSU.out _ (HS.out.past B2.out)).mono ?_; rintro e w3 ⟨rfl, rfl⟩) | (go_at_call_of 71 S; refine (HSV.out _ (HT.out.past B2.out)).mono ?_; rintro e w3 ⟨rfl, rfl⟩))
      go_ret2
      rw [HV.out]
      exact ⟨rfl, B2.out⟩
    subst hsum
    have HV := Lib.hid (whyP_served HQ0.out HFQ.out (by rw [HSA.out, HSB.out]))
    go_wp2_with (first | (go_at_call_of 71 R; refine (HSU.out _ (HS.out.past B2.out)).mono ?_; rintro e w3 ⟨rfl, rfl⟩) | (go_at_call_of 71 S; refine (HSV.out _ (HT.out.past B2.out)).mono ?_; rintro e w3 ⟨rfl, rfl⟩))
    go_loopw [38] (fun i wr => ∃ k : Nat, k ≤ n ∧ i = .int .i64 k ∧ firstTo (badPond D s t) k = none ∧ Below w.heap.size w wr) (fun i _ => n - (intOf i).toNat)
    case atStart => exact ⟨0, Nat.zero_le _, rfl, rfl, B2.out⟩
    case round =>
      clear B2
      obtain ⟨i, hi, rfl, hall, hbel⟩ := hrel
      have HA := Lib.hid hall
      have HBL := Lib.hid hbel
      have hsz := hbel.size
      clear hall hbel
      by_cases hlt : i < n
      · have k1 : (i : Int) < n := by omega
        have k2 : (0 : Int) ≤ i := by omega
        have HK := Lib.hid (Blk.new wr 3 #[.int .i64 i])
        have HK0 := Lib.hid (bl_alloc (Below.refl wr.heap.size wr) (.cells #[.int .i64 i] 3))
        obtain ⟨qi, hqi⟩ : ∃ qi, (!(firstTo (endsAt D i) D.length).isNone) = qi := ⟨_, rfl⟩
        obtain ⟨qo, hqo⟩ : ∃ qo, (!(firstTo (startsAt D i) D.length).isNone) = qo := ⟨_, rfl⟩
        have HQI := Lib.hid hqi
        have HQO := Lib.hid hqo
        clear hqi hqo
        go_wp2_with fail
        refine (ends_has D m HM.out _ _ _ i _ hl' HK.out.lt (HK.out.cell 0) ((HD.out.past HBL.out).past HK0.out)).mono ?_
        rintro e w3 ⟨rfl, b3⟩
        rw [HQI.out]
        have HK3 := Lib.hid (HK.out.past b3)
        have HB3 := Lib.hid (below_step HK0.out b3)
        clear b3
        go_wp2_with fail
        refine (starts_has D m HM.out _ _ _ i _ hl' HK3.out.lt (HK3.out.cell 0) ((HD.out.past HBL.out).past HB3.out)).mono ?_
        rintro e w4 ⟨rfl, b4⟩
        rw [HQO.out]
        have HK4 := Lib.hid (HK3.out.past b4)
        have HB4 := Lib.hid (HBL.out.trans ((below_step HB3.out b4).mono hsz))
        have hw4 := (below_step HB3.out b4).size
        clear b4 HK HK0 HK3 HB3
        obtain ⟨b1, o1, rfl, hb1, hs1⟩ := (HS.out.past HB4.out).int_ (by rw [HR.out]; omega)
        obtain ⟨b2, o2, rfl, hb2, hs2⟩ := (HT.out.past HB4.out).int_ (by rw [HTL.out]; omega)
        have hx : s[i]? = some (s[i]'(by rw [HR.out]; exact hlt)) := List.getElem?_eq_getElem _
        have hy : t[i]? = some (t[i]'(by rw [HTL.out]; exact hlt)) := List.getElem?_eq_getElem _
        generalize s[i]'(by rw [HR.out]; exact hlt) = a at hx
        generalize t[i]'(by rw [HTL.out]; exact hlt) = b at hy
        have c0 := hs1 i a hx
        have c1 := hs2 i b hy
        have r0 : w4.cell? ⟨wr.heap.size, 0, none⟩ = some (.int .i64 i) := HK4.out.cell 0
        have hkl := HK4.out.lt
        have HBP := Lib.hid (badPond_of D (List.getElem!_of_getElem? hx) (List.getElem!_of_getElem? hy) (qi := qi) (qo := qo) HQI.out HQO.out)
        have HBAD := Lib.hid (fun h : badPond D s t i = true => show whyP g D s t = .ditch by
          have e : servedP D s t n = false := by unfold servedP; rw [firstTo_hit HA.out h n hlt]; rfl
          rw [HV.out, HN.out, e]; rfl)
        have HGOOD := Lib.hid (fun h : badPond D s t i = false => firstTo_miss HA.out h)
        clear hx hy hs1 hs2 HQI HQO
        rcases (show (a < b ∧ qi = false) ∨ (a < b ∧ qi = true) ∨ (b < a ∧ qo = false) ∨ (b < a ∧ qo = true) ∨ a = b by
          cases qi <;> cases qo <;> simp <;> omega) with ⟨h1, rfl⟩ | ⟨h1, rfl⟩ | ⟨h1, rfl⟩ | ⟨h1, rfl⟩ | rfl
        case' inl =>
          have e0 : decide (a < b) = true := decide_eq_true h1
          have HX := Lib.hid (HBAD.out (by rw [HBP.out, e0]; rfl))
        case' inr.inl =>
          have e0 : decide (a < b) = true := decide_eq_true h1
          have e1 : decide (b < a) = false := decide_eq_false (by omega)
          have HX := Lib.hid (HGOOD.out (by rw [HBP.out, e0, e1]; rfl))
        case' inr.inr.inl =>
          have e0 : decide (a < b) = false := decide_eq_false (by omega)
          have e1 : decide (b < a) = true := decide_eq_true h1
          have HX := Lib.hid (HBAD.out (by rw [HBP.out, e0, e1]; rfl))
        case' inr.inr.inr.inl =>
          have e0 : decide (a < b) = false := decide_eq_false (by omega)
          have e1 : decide (b < a) = true := decide_eq_true h1
          have HX := Lib.hid (HGOOD.out (by rw [HBP.out, e0, e1]; rfl))
        case' inr.inr.inr.inr =>
          have e0 : decide (a < a) = false := decide_eq_false (by omega)
          have HX := Lib.hid (HGOOD.out (by rw [HBP.out, e0]; rfl))
        all_goals clear HBP HBAD HGOOD
        all_goals go_wp2
        all_goals
          refine wp_region_gw (by kernel_rfl) (by kernel_rfl) ?_
          repeat (first | go_big_quiet_step ((fail)) | quiet_step ((fail)))
          refine wpQuiet_nil ?_
          rintro _ ⟨pq, rfl⟩
        all_goals go_wp2
        all_goals first
          | (go_ret2
             rw [HX.out]
             exact ⟨rfl, HB4.out.trans ((show Below w4.heap.size w4 _ from (by repeat (first | assumption | exact Below.refl _ _ | apply bl_gw | apply bl_alloc | apply bl_drewN | apply bl_drew))).mono HB4.out.size)⟩)
          | (go_roundw
             case rel => exact ⟨i + 1, by omega, by go_num, HX.out, HB4.out.trans ((show Below w4.heap.size w4 _ from (by repeat (first | assumption | exact Below.refl _ _ | apply bl_gw | apply bl_alloc | apply bl_drewN | apply bl_drew))).mono HB4.out.size)⟩
             case measure => simp [intOf]; omega)
      · obtain rfl : i = n := by omega
        have e : servedP D s t i = true := by unfold servedP; rw [HA.out]; rfl
        have HE := Lib.hid (show whyP g D s t = .gauge by rw [HV.out, HN.out, e]; rfl)
        clear e
        go_wp2
        go_ret2
        rw [HE.out]
        exact ⟨rfl, HBL.out⟩
set_option maxRecDepth 4000 in
set_option maxHeartbeats 16000000 in
theorem spec_WhyNoPlan_any (g : List Gauge) (D : List Ditch) (s t : List Int) (n m r u : Nat) (hn : g.length = n) (hm : D.length = m) (hr : s.length = r) (hq : t.length = u) (A A' R S : Option Addr) (cap cap' cr cs : Nat) (w : World) (hl : n ≤ 1048576) (hl' : m ≤ 1048576) (hl2 : r ≤ 1048576) (hl3 : u ≤ 1048576) (hcr : r ≤ cr)
    (hc : Sl encGauge w w.heap.size A g) (hd : Sl encDitch w w.heap.size A' D) (hs : Sl encInt w w.heap.size R s) (ht : Sl encInt w w.heap.size S t) :
    Calls Try.prog 22 #[.slice A n cap, .slice A' m cap', .slice R r cr, .slice S u cs] w fun e w' => e = .returned (.tuple #[.string (whyP g D s t).text, .bool (whyP g D s t).ok]) ∧ Below w.heap.size w w' := by
  have HT := Lib.hid ht; clear ht
  have HTL := Lib.hid hq; clear hq
  have HC := Lib.hid hc; clear hc
  have HD := Lib.hid hd; clear hd
  have HS := Lib.hid hs; clear hs
  have HN := Lib.hid hn; clear hn
  have HM := Lib.hid hm; clear hm
  have HR := Lib.hid hr; clear hr
  rcases sp2 (asked g D s) (areLevels g t) with q | ⟨q, t1⟩ | ⟨q, t1⟩
  · rw [whyP_bad (by rw [q]; rfl)]
    have HQ := Lib.hid q
    clear q
    go_enter Try.func22, Try.ntmps22
    go_wp2_with fail
    refine (l16Asked_any g D s _ _ _ HN.out HM.out HR.out _ _ _ _ _ _ _ hl hl' hl2 HC.out HD.out HS.out).mono ?_
    rintro e w1 ⟨rfl, b1⟩
    rw [HQ.out]
    have B1 := Lib.hid b1
    clear b1
    go_wp2
    go_ret2
    exact ⟨rfl, B1.out⟩
  · rw [whyP_bad (by rw [q, t1]; rfl)]
    have HQ := Lib.hid q
    have HT1 := Lib.hid t1
    clear q t1
    go_enter Try.func22, Try.ntmps22
    go_wp2_with fail
    refine (l16Asked_any g D s _ _ _ HN.out HM.out HR.out _ _ _ _ _ _ _ hl hl' hl2 HC.out HD.out HS.out).mono ?_
    rintro e w1 ⟨rfl, b1⟩
    rw [HQ.out]
    have B1 := Lib.hid b1
    clear b1
    go_wp2_with fail
    refine (l16Levels_any g t _ _ HN.out HTL.out _ _ _ _ _ hl hl3 (HC.out.past B1.out) (HT.out.past B1.out)).mono ?_
    rintro e w2 ⟨rfl, b2⟩
    rw [HT1.out]
    have B2 := Lib.hid (below_step B1.out b2)
    clear b2
    go_wp2
    go_ret2
    exact ⟨rfl, B2.out⟩
  · have HQ0 := Lib.hid (show (asked g D s && areLevels g t) = true by rw [q, t1]; rfl)
    obtain rfl : n = u := by have := areLevels_len t1; rw [HN.out, HTL.out] at this; exact this.symm
    have HTV := Lib.hid t1
    clear t1
    obtain ⟨hF, hg, hlv⟩ := asked_at q
    have hn5 := areGauges_len hg
    rw [HN.out] at hn5
    obtain rfl : n = r := by have := areLevels_len hlv; rw [HN.out, HR.out] at this; exact this.symm
    have HG := Lib.hid hg
    have HLV := Lib.hid hlv
    have HFI := Lib.hid hF
    have HQ := Lib.hid q
    clear hg hlv hF q
    have hft := fin_turn (fwd := true) HFI.out HLV.out HTV.out
    rw [Bool.not_true] at hft
    have HFT := Lib.hid hft
    clear hft
    go_enter Try.func22, Try.ntmps22
    go_wp2_with fail
    refine (l16Asked_any g D s _ _ _ HN.out HM.out HR.out _ _ _ _ _ _ _ hl hl' hl2 HC.out HD.out HS.out).mono ?_
    rintro e w1 ⟨rfl, b1⟩
    rw [HQ.out]
    have B1 := Lib.hid b1
    clear b1
    go_wp2_with fail
    refine (l16Levels_any g t _ _ HN.out HTL.out _ _ _ _ _ hl hl3 (HC.out.past B1.out) (HT.out.past B1.out)).mono ?_
    rintro e w1' ⟨rfl, b2⟩
    rw [HTV.out]
    have B1' := Lib.hid (below_step B1.out b2)
    clear b2 B1
    have B1 := B1'
    clear B1'
    go_wp2_with fail
    refine (l16Far_any g D s false n m HN.out HM.out HR.out _ _ _ _ _ _ _ hl hl' hcr HFI.out HLV.out (HC.out.past B1.out) (HD.out.past B1.out) (HS.out.past B1.out)).mono ?_
    rintro e w2 ⟨v2, rfl, o2, b2⟩
    rw [Bool.not_false] at o2
    have O2 := Lib.hid (o2.lower B1.out.size)
    have B2 := Lib.hid (below_step B1.out b2)
    clear o2 b2
    obtain ⟨P, hP⟩ : ∃ P, 7 ^ n = P := ⟨_, rfl⟩
    have hP1 : 1 ≤ P := by rw [← hP]; exact Nat.pow_pos (by decide)
    have hP2 : P ≤ 16807 := by rw [← hP]; exact pow7 hn5.2
    have HP := Lib.hid hP
    clear hP
    obtain ⟨Af, cf, hv2, _, _, _⟩ := O2.out.slice
    rw [farL_length, HP.out] at hv2
    subst hv2
    obtain ⟨gf, rfl⟩ := O2.out.some_ (by omega)
    have hts := areLevels_small HG.out HTV.out
    have HNS := Lib.hid (l16Number_any t n HTL.out S cs w2 hn5.2 hts (HT.out.past B2.out))
    have hat := farL_fv (L := finP g D s true) hts HTL.out
    obtain ⟨hgw, d0⟩ := O2.out.int hat
    have hZ : numN t < P := by have := numN_lt' hts HTL.out; rw [HP.out] at this; exact this
    obtain ⟨Z, hZ'⟩ : ∃ Z, numN t = Z := ⟨_, rfl⟩
    rw [hZ'] at hZ HNS d0
    have z1 : (Z : Int) < P := by omega
    have z2 : (0 : Int) ≤ Z := by omega
    clear hat hts hZ'
    cases hdt : dOf (finP g D s true) t with
    | some d =>
      have hz : fvI (finP g D s true) t = d := by unfold fvI; rw [hdt]
      rw [hz] at d0
      have HV := Lib.hid (whyP_none HQ0.out (by rw [← HFT.out, hdt]; rfl))
      have z3 : (0 : Int) ≤ d := by omega
      clear hdt hz
      go_wp2_with (go_at_call 65; refine (HNS.out).mono ?_; rintro e w1 ⟨rfl, rfl⟩)
      go_ret2
      rw [HV.out]
      exact ⟨rfl, B2.out⟩
    | none =>
      have hz : fvI (finP g D s true) t = -1 := by unfold fvI; rw [hdt]
      rw [hz] at d0
      have HFQ := Lib.hid (show (dOf (finP g D t false) s).isSome = false by rw [← HFT.out, hdt]; rfl)
      clear hdt hz
      have HSU := Lib.hid (fun W (h : Sl encInt W W.heap.size R s) => l16Sum_any s n HR.out R cr W hn5.2 (areLevels_small HG.out HLV.out) h)
      have HSV := Lib.hid (fun W (h : Sl encInt W W.heap.size S t) => l16Sum_any t n HTL.out S cs W hn5.2 (areLevels_small HG.out HTV.out) h)
      obtain ⟨sa, hsa⟩ : ∃ sa, sumI s = sa := ⟨_, rfl⟩
      obtain ⟨sb, hsb⟩ : ∃ sb, sumI t = sb := ⟨_, rfl⟩
      rw [hsa] at HSU
      rw [hsb] at HSV
      have HSA := Lib.hid hsa
      have HSB := Lib.hid hsb
      clear hsa hsb
      by_cases hsum : sa = sb
      rotate_left
      · have HV := Lib.hid (whyP_sum HQ0.out HFQ.out (by rw [HSA.out, HSB.out]; exact hsum))
        go_wp2_with (first | (go_at_call 65; refine (HNS.out).mono ?_; rintro e w1 ⟨rfl, rfl⟩) | (go_at_call_of 75 R; refine (HSU.out _ (HS.out.past B2.out)).mono ?_; rintro e w3 ⟨rfl, rfl⟩) | (go_at_call_of 75 S; refine (HSV.out _ (HT.out.past B2.out)).mono ?_; rintro e w3 ⟨rfl, rfl⟩))
        go_ret2
        rw [HV.out]
        exact ⟨rfl, B2.out⟩
      subst hsum
      have HV := Lib.hid (whyP_served HQ0.out HFQ.out (by rw [HSA.out, HSB.out]))
      go_wp2_with (first | (go_at_call 65; refine (HNS.out).mono ?_; rintro e w1 ⟨rfl, rfl⟩) | (go_at_call_of 75 R; refine (HSU.out _ (HS.out.past B2.out)).mono ?_; rintro e w3 ⟨rfl, rfl⟩) | (go_at_call_of 75 S; refine (HSV.out _ (HT.out.past B2.out)).mono ?_; rintro e w3 ⟨rfl, rfl⟩) | fail)
      go_wp2_with fail
      refine (l16Served_any D s t n m HM.out HR.out HTL.out _ _ _ _ _ _ _ hl hl' (HD.out.past B2.out) (HS.out.past B2.out) (HT.out.past B2.out)).mono ?_
      rintro e w5 ⟨rfl, b5⟩
      have HV2 := HV.out
      rw [HN.out] at HV2
      have HV2 := Lib.hid HV2
      have B5 := Lib.hid (below_step B2.out b5)
      obtain ⟨sv, hsv⟩ : ∃ sv, servedP D s t n = sv := ⟨_, rfl⟩
      rw [hsv] at HV2 ⊢
      clear b5 hsv
      cases sv
      · go_wp2
        go_ret2
        rw [HV2.out]
        exact ⟨rfl, B5.out⟩
      · go_wp2
        go_ret2
        rw [HV2.out]
        exact ⟨rfl, B5.out⟩
end Go.Proofs.Ytbedepmcecdhfaa
