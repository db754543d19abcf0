/- How full a pond can be. -/
import Derived.Test.YtbedepmcecdhfaaReach
namespace Go.Proofs.Ytbedepmcecdhfaa
open Go.RowKit
set_option maxHeartbeats 400000 in
theorem l1Most_any (a b : Int) (w : World) :
    Calls Try.prog 90 #[.int .i64 a, .int .i64 b] w fun e w' => e = .returned (.int .i64 (max a b)) ∧ w = w' := by
  go_enter Try.func90, Try.ntmps90
  go_wp2
  all_goals go_ret
  all_goals exact ⟨ret_int (by first | omega | (simp; omega)), rfl⟩
def fullP (g : List Gauge) (D : List Ditch) (s : List Int) (pond : Int) : Int × Bool := if asked g D s && inB pond 0 ((g.length : Int) - 1) then (fullTo (finP g D s true) pond.toNat (finP g D s true).length, true) else (0, false)
theorem fullP_no {g : List Gauge} {D : List Ditch} {s : List Int} {pond : Int} {n : Nat} (hn : g.length = n) (h : asked g D s = false ∨ inB pond 0 ((n : Int) - 1) = false) : fullP g D s pond = (0, false) := by
  unfold fullP
  rw [hn]
  rcases h with h | h <;> simp [h]
theorem fullTo_succ (L : List (List Int × Nat)) (p k : Nat) : fullTo L p (k + 1) = max (fullTo L p k) (L[k]!.1[p]!) := rfl
theorem fullTo_rng {g : List Gauge} {L : List (List Int × Nat)} (hg : areGauges g = true) (hok : ∀ p ∈ L, areLevels g p.1 = true) (p k : Nat) (hk : k ≤ L.length) : 0 ≤ fullTo L p k ∧ fullTo L p k ≤ 6 := by
  refine ⟨mxTo_pos _ _ _, mxTo_le (by omega) fun i hi _ => ?_⟩
  have h := hok _ (get!_mem (l := L) (i := i) (by omega))
  have hs := areLevels_small hg h
  generalize L[i]!.1 = l at hs
  rcases Nat.lt_or_ge p l.length with h | h
  · rw [getElem!_pos l p h]; exact (hs p _ (List.getElem?_eq_getElem h)).2
  · rw [getElem!_neg l p (by omega)]; decide
set_option maxRecDepth 4000 in
set_option maxHeartbeats 4000000 in
theorem impl_FullestPond_any (g : List Gauge) (D : List Ditch) (s : List Int) (pond : Int) (n m r : Nat) (hn : g.length = n) (hm : D.length = m) (hr : s.length = r) (A A' R : Option Addr) (cap cap' cr : Nat) (w : World) (hl : n ≤ 1048576) (hl' : m ≤ 1048576) (hl2 : r ≤ 1048576) (hcr : r ≤ cr)
    (hc : Sl encGauge w w.heap.size A g) (hd : Sl encDitch w w.heap.size A' D) (hs : Sl encInt w w.heap.size R s) :
    Calls Try.prog 47 #[.slice A n cap, .slice A' m cap', .slice R r cr, .int .i64 pond] w fun e w' => e = .returned (.tuple #[.int .i64 (fullP g D s pond).1, .bool (fullP g D s pond).2]) ∧ Below w.heap.size w w' := by
  have HC := Lib.hid hc; clear hc
  have HD := Lib.hid hd; clear hd
  have HS := Lib.hid hs; clear hs
  have HN := Lib.hid hn; clear hn
  have HM := Lib.hid hm; clear hm
  have HR := Lib.hid hr; clear hr
  have HW1 := Lib.hid (show SlR (w.alloc (.cells #[.slice R r cr] 26)) (w.alloc (.cells #[.slice R r cr] 26)).heap.size (some ⟨w.heap.size, 0, none⟩) [s] from fun _ =>
    ⟨w.heap.size, 0, rfl, by simp, fun i l hl => by
      match i, hl with
      | 0, hl =>
        simp at hl; subst hl
        exact ⟨R, cr, by rw [HR.out]; exact (Blk.new w 26 #[.slice R r cr]).cell 0, by rw [HR.out]; exact hcr, HS.out.past (bl_alloc (Below.refl _ _) _)⟩⟩)
  have kw : IntKind.i64.wrap ((n : Int) - 1) = (n : Int) - 1 := IntWalk.i64_in _ (by omega)
  rcases sp2 (asked g D s) (inB pond 0 ((n : Int) - 1)) with q | ⟨q, t⟩ | ⟨q, t⟩
  · rw [fullP_no HN.out (.inl q)]
    have HQ := Lib.hid q
    clear q
    go_enter Try.func47, Try.ntmps47
    go_wp2_with fail
    refine (areFrom_any g D [s] _ _ 1 HN.out HM.out rfl _ _ _ _ _ _ _ hl hl' (by omega) (fun l h => by simp at h; rw [h, HR.out]; exact hl2) (HC.out.past (by repeat (first | assumption | exact Below.refl _ _ | apply bl_gw | apply bl_alloc | apply bl_drewN | apply bl_drew))) (HD.out.past (by repeat (first | assumption | exact Below.refl _ _ | apply bl_gw | apply bl_alloc | apply bl_drewN | apply bl_drew))) HW1.out).mono ?_
    rintro e w1 ⟨rfl, b1⟩
    rw [from_one, HQ.out]
    have B1 := Lib.hid (below_step (bl_alloc (Below.refl w.heap.size w) _) b1)
    clear b1 HW1
    go_wp2
    go_ret2
    exact ⟨rfl, B1.out⟩
  · rw [fullP_no HN.out (.inr t)]
    have HQ := Lib.hid q
    clear q
    go_enter Try.func47, Try.ntmps47
    go_wp2_with fail
    refine (areFrom_any g D [s] _ _ 1 HN.out HM.out rfl _ _ _ _ _ _ _ hl hl' (by omega) (fun l h => by simp at h; rw [h, HR.out]; exact hl2) (HC.out.past (by repeat (first | assumption | exact Below.refl _ _ | apply bl_gw | apply bl_alloc | apply bl_drewN | apply bl_drew))) (HD.out.past (by repeat (first | assumption | exact Below.refl _ _ | apply bl_gw | apply bl_alloc | apply bl_drewN | apply bl_drew))) HW1.out).mono ?_
    rintro e w1 ⟨rfl, b1⟩
    rw [from_one, HQ.out]
    have B1 := Lib.hid (below_step (bl_alloc (Below.refl w.heap.size w) _) b1)
    clear b1 HW1
    go_wp2_with ((go_at_call 68; refine (within_any _ _ _ _).mono ?_; rintro e w1 ⟨rfl, rfl⟩))
    go_ret2
    exact ⟨rfl, B1.out⟩
  · have HV := Lib.hid (show fullP g D s pond = (fullTo (finP g D s true) pond.toNat (finP g D s true).length, true) by unfold fullP; rw [HN.out, q, t]; rfl)
    have hpd := inB_true t
    obtain ⟨p, rfl⟩ : ∃ p : Nat, pond = p := ⟨pond.toNat, by omega⟩
    rw [Int.toNat_natCast] at HV
    obtain ⟨hF, hg, hlv⟩ := asked_at q
    have hn5 := areGauges_len hg
    rw [HN.out] at hn5
    obtain rfl : n = r := by have := areLevels_len hlv; rw [HN.out, HR.out] at this; exact this.symm
    have HG := Lib.hid hg
    have HLV := Lib.hid hlv
    have HFI := Lib.hid hF
    have HQ := Lib.hid q
    clear hg hlv hF q
    go_enter Try.func47, Try.ntmps47
    go_wp2_with fail
    refine (areFrom_any g D [s] _ _ 1 HN.out HM.out rfl _ _ _ _ _ _ _ hl hl' (by omega) (fun l h => by simp at h; rw [h, HR.out]; exact hl2) (HC.out.past (by repeat (first | assumption | exact Below.refl _ _ | apply bl_gw | apply bl_alloc | apply bl_drewN | apply bl_drew))) (HD.out.past (by repeat (first | assumption | exact Below.refl _ _ | apply bl_gw | apply bl_alloc | apply bl_drewN | apply bl_drew))) HW1.out).mono ?_
    rintro e w1 ⟨rfl, b1⟩
    rw [from_one, HQ.out]
    have B1 := Lib.hid (below_step (bl_alloc (Below.refl w.heap.size w) _) b1)
    clear b1 HW1
    go_wp2_with (first | (go_at_call 68; refine (within_any _ _ _ _).mono ?_; rintro e w1 ⟨rfl, rfl⟩) | fail)
    go_wp2_with fail
    refine (search_any g D s true n m HN.out HM.out HR.out _ _ _ _ _ _ _ hl hl' HFI.out HLV.out (HC.out.past B1.out) (HD.out.past B1.out) (HS.out.past B1.out)).mono ?_
    rintro e w2 ⟨v2, bm, rfl, o2, f2, hbm, b2⟩
    have R2 := Lib.hid o2
    have F2 := Lib.hid f2
    have hz1 := B1.out.size
    have hz2 := b2.size
    have HB2 := Lib.hid b2
    have B2 := Lib.hid (below_step B1.out b2)
    have hlen := fin_end (D := D) (fwd := true) HG.out HLV.out
    have hpos := fin_pos (g := g) (D := D) (s := s) (fwd := true)
    have hp7 := pow7 (show g.length ≤ 5 by rw [HN.out]; exact hn5.2)
    obtain ⟨Al, cl, rfl, hcl, hAl⟩ := R2.out.slice
    clear o2 f2 b2
    rw [List.length_map] at hcl hAl R2 ⊢
    obtain ⟨N, hN⟩ : ∃ N, (finP g D s true).length = N := ⟨_, rfl⟩
    have HNL := Lib.hid hN
    rw [hN] at hcl hAl R2 hlen hpos ⊢
    clear hN
    obtain ⟨gl, rfl, hgl⟩ := hAl (by omega)
    have hN5 : N ≤ 16807 := by omega
    clear hAl hlen hp7
    clear t
    go_wp2
    go_loopw [12, 38] (fun u j wr => ∃ k : Nat, k ≤ N ∧ j = .int .i64 k ∧ u = .int .i64 (fullTo (finP g D s true) p k) ∧ wr = w2) (fun _ j _ => N - (intOf j).toNat)
    case atStart => exact ⟨0, Nat.zero_le _, rfl, rfl, rfl⟩
    case round =>
      obtain ⟨k, hk, rfl, rfl, rfl⟩ := hrel
      have HST := Lib.hid (fullTo_succ (finP g D s true) p k)
      by_cases hlt : k < N
      · have hx : (finP g D s true)[k]? = some ((finP g D s true)[k]'(by rw [HNL.out]; exact hlt)) := List.getElem?_eq_getElem _
        obtain ⟨⟨x, d⟩, hxd⟩ : ∃ q, (finP g D s true)[k]'(by rw [HNL.out]; exact hlt) = q := ⟨_, rfl⟩
        rw [hxd] at hx
        rw [List.getElem!_of_getElem? hx] at HST
        have hxl := areLevels_len (fin_ok (fwd := true) HLV.out _ (List.mem_of_getElem? hx))
        dsimp only at hxl HST
        rw [HN.out] at hxl
        obtain ⟨Ax, cx, c0, hcx, hsx, _⟩ := R2.out.cell (ownG w1.heap.size) hz2 (i := k) (l := x) (by rw [List.getElem?_map, hx]; rfl)
        rw [hxl] at c0 hcx
        obtain ⟨xb, xo, rfl, hxb, hxs⟩ := hsx.int_ (by omega)
        have hy : x[p]? = some (x[p]'(by omega)) := List.getElem?_eq_getElem _
        have c1 := hxs p _ hy
        rw [List.getElem!_of_getElem? hy] at HST
        generalize x[p]'(by omega) = y at *
        generalize fullTo (finP g D s true) p k = mt at *
        clear hx hxd hsx hxs hy
        have k1 : (k : Int) < N := by omega
        have k2 : (0 : Int) ≤ k := by omega
        have k3 : (p : Int) < n := by omega
        have k4 : (0 : Int) ≤ p := by omega
        have hM : (if mt < y then y else mt) = max mt y := by split <;> omega
        have HM2 := Lib.hid hM
        clear hM
        go_wp2
        go_roundw
        case rel => exact ⟨k + 1, by omega, by go_num, by first | (rw [HST.out, ← HM2.out]; done) | (rw [HST.out, ← HM2.out]; rfl) | (rw [HST.out, ← HM2.out]; split <;> simp [*]), trivial⟩
        case measure => simp [intOf]; omega
      · obtain rfl : k = N := by omega
        go_wp2
        go_ret2
        exact ⟨by rw [HV.out, HNL.out]; rfl, B2.out⟩
set_option maxRecDepth 4000 in
set_option maxHeartbeats 4000000 in
theorem spec_FullestPond_any (g : List Gauge) (D : List Ditch) (s : List Int) (pond : Int) (n m r : Nat) (hn : g.length = n) (hm : D.length = m) (hr : s.length = r) (A A' R : Option Addr) (cap cap' cr : Nat) (w : World) (hl : n ≤ 1048576) (hl' : m ≤ 1048576) (hl2 : r ≤ 1048576) (hcr : r ≤ cr)
    (hc : Sl encGauge w w.heap.size A g) (hd : Sl encDitch w w.heap.size A' D) (hs : Sl encInt w w.heap.size R s) :
    Calls Try.prog 46 #[.slice A n cap, .slice A' m cap', .slice R r cr, .int .i64 pond] w fun e w' => e = .returned (.tuple #[.int .i64 (fullP g D s pond).1, .bool (fullP g D s pond).2]) ∧ Below w.heap.size w w' := by
  have HC := Lib.hid hc; clear hc
  have HD := Lib.hid hd; clear hd
  have HS := Lib.hid hs; clear hs
  have HN := Lib.hid hn; clear hn
  have HM := Lib.hid hm; clear hm
  have HR := Lib.hid hr; clear hr
  have kw : IntKind.i64.wrap ((n : Int) - 1) = (n : Int) - 1 := IntWalk.i64_in _ (by omega)
  rcases sp2 (asked g D s) (inB pond 0 ((n : Int) - 1)) with q | ⟨q, t⟩ | ⟨q, t⟩
  · rw [fullP_no HN.out (.inl q)]
    have HQ := Lib.hid q
    clear q
    go_enter Try.func46, Try.ntmps46
    go_wp2_with fail
    refine (l16Asked_any g D s _ _ _ HN.out HM.out HR.out _ _ _ _ _ _ _ hl hl' hl2 HC.out HD.out HS.out).mono ?_
    rintro e w1 ⟨rfl, b1⟩
    rw [HQ.out]
    have B1 := Lib.hid b1
    clear b1
    go_wp2
    go_ret2
    exact ⟨rfl, B1.out⟩
  · rw [fullP_no HN.out (.inr t)]
    have HQ := Lib.hid q
    clear q
    go_enter Try.func46, Try.ntmps46
    go_wp2_with fail
    refine (l16Asked_any g D s _ _ _ HN.out HM.out HR.out _ _ _ _ _ _ _ hl hl' hl2 HC.out HD.out HS.out).mono ?_
    rintro e w1 ⟨rfl, b1⟩
    rw [HQ.out]
    have B1 := Lib.hid b1
    clear b1
    go_wp2_with ((go_at_call 80; refine (l1In_any _ _ _ _).mono ?_; rintro e w1 ⟨rfl, rfl⟩))
    go_ret2
    exact ⟨rfl, B1.out⟩
  · have HV := Lib.hid (show fullP g D s pond = (fullTo (finP g D s true) pond.toNat (finP g D s true).length, true) by unfold fullP; rw [HN.out, q, t]; rfl)
    have hpd := inB_true t
    obtain ⟨p, rfl⟩ : ∃ p : Nat, pond = p := ⟨pond.toNat, by omega⟩
    rw [Int.toNat_natCast] at HV
    obtain ⟨hF, hg, hlv⟩ := asked_at q
    have hn5 := areGauges_len hg
    rw [HN.out] at hn5
    obtain rfl : n = r := by have := areLevels_len hlv; rw [HN.out, HR.out] at this; exact this.symm
    have HG := Lib.hid hg
    have HLV := Lib.hid hlv
    have HFI := Lib.hid hF
    have HQ := Lib.hid q
    clear hg hlv hF q
    go_enter Try.func46, Try.ntmps46
    go_wp2_with fail
    refine (l16Asked_any g D s _ _ _ HN.out HM.out HR.out _ _ _ _ _ _ _ hl hl' hl2 HC.out HD.out HS.out).mono ?_
    rintro e w1 ⟨rfl, b1⟩
    rw [HQ.out]
    have B1 := Lib.hid b1
    clear b1
    go_wp2_with (first | (go_at_call 80; refine (l1In_any _ _ _ _).mono ?_; rintro e w1 ⟨rfl, rfl⟩) | fail)
    go_wp2_with fail
    refine (l16Far_any g D s false n m HN.out HM.out HR.out _ _ _ _ _ _ _ hl hl' hcr HFI.out HLV.out (HC.out.past B1.out) (HD.out.past B1.out) (HS.out.past B1.out)).mono ?_
    rintro e w2 ⟨v2, rfl, o2, b2⟩
    rw [Bool.not_false] at o2
    have O2 := Lib.hid (o2.lower B1.out.size)
    have B2 := Lib.hid (below_step B1.out b2)
    clear o2 b2
    obtain ⟨P, hP⟩ : ∃ P, 7 ^ n = P := ⟨_, rfl⟩
    have hP1 : 1 ≤ P := by rw [← hP]; exact Nat.pow_pos (by decide)
    have hP2 : P ≤ 16807 := by rw [← hP]; exact pow7 hn5.2
    have HP := Lib.hid hP
    clear hP
    obtain ⟨Af, cf, hv2, _, _, _⟩ := O2.out.slice
    rw [farL_length, HP.out] at hv2
    subst hv2
    obtain ⟨gf, rfl⟩ := O2.out.some_ (by omega)
    clear t
    have hFE := full_eq (D := D) (fwd := true) HG.out HLV.out p
    rw [HN.out, HP.out] at hFE
    rw [← hFE] at HV
    clear hFE
    go_wp2
    go_loopw [11, 12] (fun u j wr => ∃ k : Nat, k ≤ P ∧ j = .int .i64 k ∧ u = .int .i64 (fullN (finP g D s true) n p k) ∧ Own encInt wr w.heap.size 3 (.slice (some ⟨gf, 0, none⟩) P cf) (farL (finP g D s true) n) ∧ Below w.heap.size w wr) (fun _ j _ => P - (intOf j).toNat)
    case atStart => exact ⟨0, Nat.zero_le _, rfl, rfl, O2.out, B2.out⟩
    case round =>
      clear O2 B2
      obtain ⟨k, hk, rfl, rfl, ho, hbel⟩ := hrel
      have HO := Lib.hid ho
      have HBL := Lib.hid hbel
      have hsz := hbel.size
      clear ho hbel
      have HST := Lib.hid (show fullN (finP g D s true) n p (k + 1) = if decide (0 ≤ farI (finP g D s true) n k) = true then max (fullN (finP g D s true) n p k) ((digs n k)[p]!) else fullN (finP g D s true) n p k from rfl)
      by_cases hlt : k < P
      · have hat := farL_get (finP g D s true) (c := n) (n := k) (by rw [HP.out]; exact hlt)
        obtain ⟨hgw, d0⟩ := HO.out.int hat
        clear hat
        have hdl := digs_length n k
        have hy : (digs n k)[p]? = some ((digs n k)[p]'(by omega)) := List.getElem?_eq_getElem _
        rw [List.getElem!_of_getElem? hy] at HST
        have HAT := Lib.hid (l16At_any n k wr hn5.2 (by omega))
        obtain ⟨dg, hdg⟩ : ∃ dg, digs n k = dg := ⟨_, rfl⟩
        generalize (digs n k)[p]'(by omega) = y at hy HST
        rw [hdg] at hy HAT hdl
        have HY := Lib.hid hy
        generalize fullN (finP g D s true) n p k = mt at *
        generalize farI (finP g D s true) n k = z at *
        clear hdg hy
        have k1 : (k : Int) < P := by omega
        have k2 : (0 : Int) ≤ k := by omega
        have k3 : (p : Int) < n := by omega
        have k4 : (0 : Int) ≤ p := by omega
        by_cases hz : 0 ≤ z
        · have HS2 := Lib.hid (show fullN (finP g D s true) n p (k + 1) = max mt y by rw [HST.out, decide_eq_true hz]; rfl)
          go_wp2_with fail
          refine (HAT.out).mono ?_
          rintro e w3 ⟨v3, rfl, o3, b3⟩
          obtain ⟨A3, c3, rfl, _, _, _⟩ := o3.slice
          rw [hdl] at o3 ⊢
          obtain ⟨g3, rfl⟩ := o3.some_ (by omega)
          obtain ⟨hg3, c0⟩ := o3.int HY.out
          have O3 := Lib.hid (HO.out.past b3 (Nat.le_refl _))
          have B3 := Lib.hid (below_step HBL.out b3)
          clear o3 b3 d0
          go_wp2_with ((go_at_call 90; refine (l1Most_any _ _ _).mono ?_; rintro e w1 ⟨rfl, rfl⟩))
          go_roundw
          case rel => exact ⟨k + 1, by omega, by go_num, by rw [HS2.out], O3.out, B3.out⟩
          case measure => simp [intOf]; omega
        · have HS2 := Lib.hid (show fullN (finP g D s true) n p (k + 1) = mt by rw [HST.out, decide_eq_false hz]; rfl)
          go_wp2
          go_roundw
          case rel => exact ⟨k + 1, by omega, by go_num, by rw [HS2.out], HO.out, HBL.out⟩
          case measure => simp [intOf]; omega
      · obtain rfl : k = P := by omega
        go_wp2
        go_ret2
        exact ⟨by rw [HV.out]; rfl, HBL.out⟩
end Go.Proofs.Ytbedepmcecdhfaa
