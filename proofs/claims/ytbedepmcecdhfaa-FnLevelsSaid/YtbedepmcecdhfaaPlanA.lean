/- Walks of plans: the levels after a plan. -/
import Derived.Test.YtbedepmcecdhfaaFrom
import Derived.Deep.RegionWith
namespace Go.Proofs.Ytbedepmcecdhfaa
open Go.RowKit
def afterP (g : List Gauge) (D : List Ditch) (s p : List Int) : List Int × Bool := if asked g D s then match goP g D s p with | some e => (e, true) | none => ([], false) else ([], false)
theorem asked_at {g : List Gauge} {D : List Ditch} {s : List Int} (h : asked g D s = true) : isField g D = true ∧ areGauges g = true ∧ areLevels g s = true := by
  simp only [asked, Bool.and_eq_true] at h
  exact ⟨h.1, (isField_at h.1).1.1, h.2⟩
theorem goTo_none {g : List Gauge} {D : List Ditch} {s p : List Int} {i : Nat} (h : goTo g D s p i = none) : ∀ j, goTo g D s p (i + j) = none
  | 0 => h
  | j + 1 => by
    have e : goTo g D s p (i + (j + 1)) = (goTo g D s p (i + j)).bind (stepP g D p[i + j]!) := rfl
    rw [e, goTo_none h j]; rfl
theorem goP_none {g : List Gauge} {D : List Ditch} {s p : List Int} {i : Nat} (h : goTo g D s p i = none) (hi : i ≤ p.length) : goP g D s p = none := by
  have := goTo_none h (p.length - i)
  rwa [show i + (p.length - i) = p.length by omega] at this
theorem afterP_none {g : List Gauge} {D : List Ditch} {s p : List Int} (h : goP g D s p = none) : afterP g D s p = ([], false) := by
  unfold afterP; rw [h]; split <;> rfl
theorem afterP_length (g : List Gauge) (D : List Ditch) (s p : List Int) : (afterP g D s p).1.length ≤ 1000000 := by
  unfold afterP
  split
  · rename_i h
    obtain ⟨hF, hg, hs⟩ := asked_at h
    cases e : goP g D s p with
    | none => simp
    | some x =>
      have := areLevels_len (way_ok hs (goTo_way _ e))
      have := (areGauges_len hg).2
      simp only
      omega
  · simp
theorem goTo_ok {g : List Gauge} {D : List Ditch} {s p e : List Int} {i : Nat} (hs : areLevels g s = true) (h : goTo g D s p i = some e) : areLevels g e = true := way_ok hs (goTo_way i h)
set_option maxHeartbeats 1000000 in
theorem l16Asked_any (g : List Gauge) (D : List Ditch) (l : List Int) (n m r : Nat) (hn : g.length = n) (hm : D.length = m) (hr : l.length = r) (A A' R : Option Addr) (cap cap' cr : Nat) (w : World) (hl : n ≤ 1048576) (hl' : m ≤ 1048576) (hl2 : r ≤ 1048576) (hc : Sl encGauge w w.heap.size A g) (hd : Sl encDitch w w.heap.size A' D) (hR : Sl encInt w w.heap.size R l) :
    Calls Try.prog 62 #[.slice A n cap, .slice A' m cap', .slice R r cr] w fun e w' => e = .returned (.bool (asked g D l)) ∧ Below w.heap.size w w' := by
  have HC := Lib.hid hc; clear hc
  have HD := Lib.hid hd; clear hd
  have HR := Lib.hid hR; clear hR
  obtain ⟨f, hf⟩ : ∃ f, isField g D = f := ⟨_, rfl⟩
  obtain ⟨q, hq⟩ : ∃ q, areLevels g l = q := ⟨_, rfl⟩
  have HF := Lib.hid hf
  have HQ := Lib.hid hq
  rw [show asked g D l = (f && q) by rw [asked, hf, hq]]
  clear hf hq
  go_enter Try.func62, Try.ntmps62
  go_wp2_with fail
  refine (l16Field_any g D n m hn hm _ _ _ _ _ hl hl' HC.out HD.out).mono ?_
  rintro e w1 ⟨rfl, b1⟩
  rw [HF.out]
  have B1 := Lib.hid b1
  clear b1
  cases f
  · go_wp2
    go_ret
    exact ⟨rfl, B1.out⟩
  · go_wp2_with fail
    refine (l16Levels_any g l n r hn hr _ _ _ _ _ hl hl2 (HC.out.past B1.out) (HR.out.past B1.out)).mono ?_
    rintro e w2 ⟨rfl, b2⟩
    rw [HQ.out]
    have B2 := Lib.hid (below_step B1.out b2)
    clear b2
    go_wp2
    go_ret
    exact ⟨rfl, B2.out⟩
set_option maxRecDepth 4000 in
set_option maxHeartbeats 8000000 in
theorem impl_AfterPlan_any (g : List Gauge) (D : List Ditch) (s p : List Int) (n m r k : Nat) (hn : g.length = n) (hm : D.length = m) (hr : s.length = r) (hk : p.length = k) (A A' R S : Option Addr) (cap cap' cr cs : Nat) (w : World) (hl : n ≤ 1048576) (hl' : m ≤ 1048576) (hl2 : r ≤ 1048576) (hl3 : k ≤ 1048576) (hcr : r ≤ cr)
    (hc : Sl encGauge w w.heap.size A g) (hd : Sl encDitch w w.heap.size A' D) (hs : Sl encInt w w.heap.size R s) (hp : Sl encInt w w.heap.size S p) :
    Calls Try.prog 23 #[.slice A n cap, .slice A' m cap', .slice R r cr, .slice S k cs] w fun e w' => ∃ v, e = .returned (.tuple #[v, .bool (afterP g D s p).2]) ∧ Own encInt w' w.heap.size 3 v (afterP g D s p).1 ∧ Below w.heap.size w w' := by
  have HC := Lib.hid hc; clear hc
  have HD := Lib.hid hd; clear hd
  have HS := Lib.hid hs; clear hs
  have HP := Lib.hid hp; clear hp
  have HN := Lib.hid hn; clear hn
  have HM := Lib.hid hm; clear hm
  have HR := Lib.hid hr; clear hr
  have HK := Lib.hid hk; clear hk
  have HW1 := Lib.hid (show SlR (w.alloc (.cells #[.slice R r cr] 26)) (w.alloc (.cells #[.slice R r cr] 26)).heap.size (some ⟨w.heap.size, 0, none⟩) [s] from fun _ =>
    ⟨w.heap.size, 0, rfl, by simp, fun i l hl => by
      match i, hl with
      | 0, hl =>
        simp at hl; subst hl
        exact ⟨R, cr, by rw [HR.out]; exact (Blk.new w 26 #[.slice R r cr]).cell 0, by rw [HR.out]; exact hcr, HS.out.past (bl_alloc (Below.refl _ _) _)⟩⟩)
  rcases sp1 (asked g D s) with q | q
  · have hv : afterP g D s p = ([], false) := by unfold afterP; rw [q]; rfl
    rw [hv]
    have HQ := Lib.hid q
    clear hv q
    go_enter Try.func23, Try.ntmps23
    go_wp2_with fail
    refine (areFrom_any g D [s] n m 1 HN.out HM.out rfl _ _ _ _ _ _ _ hl hl' (by omega) (fun l h => by simp at h; rw [h, HR.out]; exact hl2) (HC.out.past (by repeat (first | assumption | exact Below.refl _ _ | apply bl_gw | apply bl_alloc | apply bl_drewN | apply bl_drew))) (HD.out.past (by repeat (first | assumption | exact Below.refl _ _ | apply bl_gw | apply bl_alloc | apply bl_drewN | apply bl_drew))) HW1.out).mono ?_
    rintro e w1 ⟨rfl, b1⟩
    rw [from_one, HQ.out]
    have B1 := Lib.hid (below_step (bl_alloc (Below.refl w.heap.size w) _) b1)
    clear b1
    go_wp2
    go_ret2
    exact ⟨_, rfl, Own.none_, B1.out⟩
  · have hq : asked g D s = true := q
    obtain ⟨hF, hg, hls⟩ := asked_at hq
    obtain ⟨_, hm8, hDD⟩ := isField_at hF
    rw [HM.out] at hm8
    have hn5 := areGauges_len hg
    rw [HN.out] at hn5
    have HRN := Lib.hid (show r = n by have := areLevels_len hls; rw [HN.out, HR.out] at this; exact this)
    have HDD := Lib.hid hDD
    have HG := Lib.hid hg
    have HLS := Lib.hid hls
    have HFv := Lib.hid (fun e => show goP g D s p = some e → afterP g D s p = (e, true) from fun h => by unfold afterP; rw [if_pos hq, h])
    have HNv := Lib.hid (fun i (h : goTo g D s p i = none) (hi : i ≤ p.length) => afterP_none (g := g) (D := D) (s := s) (p := p) (goP_none h hi))
    clear hF hg hls hDD hq
    have HQ := Lib.hid q
    clear q
    go_enter Try.func23, Try.ntmps23
    go_wp2_with fail
    refine (areFrom_any g D [s] n m 1 HN.out HM.out rfl _ _ _ _ _ _ _ hl hl' (by omega) (fun l h => by simp at h; rw [h, HR.out]; exact hl2) (HC.out.past (by repeat (first | assumption | exact Below.refl _ _ | apply bl_gw | apply bl_alloc | apply bl_drewN | apply bl_drew))) (HD.out.past (by repeat (first | assumption | exact Below.refl _ _ | apply bl_gw | apply bl_alloc | apply bl_drewN | apply bl_drew))) HW1.out).mono ?_
    rintro e w1 ⟨rfl, b1⟩
    rw [from_one, HQ.out]
    have B1 := Lib.hid (below_step (bl_alloc (Below.refl w.heap.size w) _) b1)
    clear b1 HW1
    go_wp2_with fail
    refine (cloneInt_any s r HR.out _ _ _ hl2 (HS.out.past B1.out)).mono ?_
    rintro e w2 ⟨v2, rfl, o2, b2⟩
    obtain ⟨A2, c2, rfl, _, _, _⟩ := o2.slice
    rw [HR.out] at o2 ⊢
    have O2 := Lib.hid (o2.lower B1.out.size)
    have B2 := Lib.hid (below_step B1.out b2)
    clear o2 b2
    go_wp2
    go_loopw [10, 25] (fun lv i wr => ∃ (j : Nat) (Ak : Option Addr) (ck : Nat) (L : List Int), j ≤ k ∧ i = .int .i64 j ∧ lv = .slice Ak r ck ∧ goTo g D s p j = some L ∧ Own encInt wr w.heap.size 3 (.slice Ak r ck) L ∧ Below w.heap.size w wr) (fun _ i _ => k - (intOf i).toNat)
    case atStart => exact ⟨0, _, _, s, Nat.zero_le _, rfl, rfl, rfl, O2.out, B2.out⟩
    case round =>
      obtain ⟨j, Ak, ck, L, hj, rfl, rfl, hgo, ho, hbel⟩ := hrel
      have HGO := Lib.hid hgo
      have HO := Lib.hid ho
      have HBL := Lib.hid hbel
      have HLO := Lib.hid (goTo_ok HLS.out hgo)
      have hsz := hbel.size
      clear hgo ho hbel O2 B2
      by_cases hlt : j < k
      · obtain ⟨pb, po, rfl, hpb, hps⟩ := (HP.out.past HBL.out).int_ (by rw [HK.out]; omega)
        have hx : p[j]? = some (p[j]'(by rw [HK.out]; exact hlt)) := List.getElem?_eq_getElem _
        generalize p[j]'(by rw [HK.out]; exact hlt) = x at hx
        have c0 := hps j x hx
        have HST := Lib.hid (show goTo g D s p (j + 1) = stepP g D x L by rw [goTo, HGO.out, List.getElem!_of_getElem? hx]; rfl)
        clear hps hx
        have k1 : (j : Int) < k := by omega
        have k2 : (0 : Int) ≤ j := by omega
        have k3 : IntKind.i64.wrap ((m : Int) - 1) = (m : Int) - 1 := IntWalk.i64_in _ (by omega)
        rcases sp1 (inB x 0 ((m : Int) - 1)) with t1 | t1
        · have HV := Lib.hid (HNv.out (j + 1) (by rw [HST.out, stepP, HM.out, t1]; rfl) (by rw [HK.out]; omega))
          have HT := Lib.hid t1
          go_wp2_with (first | (go_at_call 68; refine (within_any _ _ _ _).mono ?_; rintro e w1 ⟨rfl, rfl⟩))
          go_ret2
          rw [HV.out]
          exact ⟨_, rfl, Own.none_, HBL.out⟩
        · obtain ⟨x0, x1⟩ := inB_true t1
          obtain ⟨q, rfl⟩ : ∃ q : Nat, x = q := ⟨x.toNat, by omega⟩
          obtain ⟨a, b, hab, ha, hb, hne⟩ := HDD.out q (by rw [HM.out]; omega)
          rw [HN.out, ← HRN.out] at ha hb
          obtain ⟨db, dof, rfl, hdb, hds⟩ := (HD.out.past HBL.out).ditch (by rw [HM.out]; omega)
          obtain ⟨e0, e1⟩ := hds q _ hab
          dsimp only at e0 e1
          obtain ⟨Q, hQ⟩ : ∃ Q, areLevels g (mv L a b) = Q := ⟨_, rfl⟩
          have HQ2 := Lib.hid hQ
          have HST2 := Lib.hid (show goTo g D s p (j + 1) = if Q = true then some (mv L a b) else none by
            rw [HST.out, stepP, HM.out, if_pos t1, nbP, mvP, Int.toNat_natCast, List.getElem!_of_getElem? hab]
            simp only [if_true, Int.toNat_natCast, hQ])
          have hmn : L.length = n := by have := areLevels_len HLO.out; rw [HN.out] at this; exact this
          have HML := Lib.hid (show L.length = r by have := HRN.out; omega)
          have HSM := Lib.hid (areLevels_small HG.out HLO.out)
          have k4 : (0 : Int) ≤ q := by omega
          have k5 : (q : Int) < m := by omega
          clear hds hQ hab hmn
          have HT := Lib.hid t1
          go_upto_region 9 with (first | (go_at_call 68; refine (within_any _ _ _ _).mono ?_; rintro e w1 ⟨rfl, rfl⟩))
          go_region_with (go_at_call 61; refine (moved_any g L n r HN.out HML.out _ _ _ _ a b _ hl hl2 (by omega) (by omega) hne HSM.out ((HC.out.past HBL.out).past (by repeat (first | assumption | exact Below.refl _ _ | apply bl_gw | apply bl_alloc | apply bl_drewN | apply bl_drew))) (HO.out.rd.past (by repeat (first | assumption | exact Below.refl _ _ | apply bl_gw | apply bl_alloc | apply bl_drewN | apply bl_drew)))).mono ?_; rintro e w3 ⟨v3, rfl, o3, b3⟩; rw [HQ2.out]; obtain ⟨A3, c3, rfl, _, _, _⟩ := o3.slice; rw [mv_length, HML.out] at o3 ⊢; have O3 := Lib.hid (o3.lower (b := w.heap.size) (by simpa using hsz)); have B3 := Lib.hid (HBL.out.trans ((below_step (show Below wr.heap.size wr _ from (by repeat (first | assumption | exact Below.refl _ _ | apply bl_gw | apply bl_alloc | apply bl_drewN | apply bl_drew))) b3).mono hsz)); clear o3 b3)
          all_goals
            cases Q
            · have HV := Lib.hid (HNv.out (j + 1) (by rw [HST2.out]; rfl) (by rw [HK.out]; omega))
              go_wp2
              go_ret2
              rw [HV.out]
              exact ⟨_, rfl, Own.none_, B3.out⟩
            · go_wp2
              go_roundw
              case rel => exact ⟨j + 1, _, _, _, by omega, by go_num, rfl, HST2.out, O3.out, B3.out⟩
              case measure => simp [intOf]; omega
      · obtain rfl : j = k := by omega
        have HV := Lib.hid (HFv.out L (by unfold goP; rw [HK.out]; exact HGO.out))
        go_wp2
        go_ret2
        rw [HV.out]
        exact ⟨_, rfl, HO.out, HBL.out⟩
end Go.Proofs.Ytbedepmcecdhfaa
