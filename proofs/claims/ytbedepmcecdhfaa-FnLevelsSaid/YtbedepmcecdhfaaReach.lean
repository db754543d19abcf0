/- How many levels are reached; how full a pond can be. -/
import Derived.Test.YtbedepmcecdhfaaFar
namespace Go.Proofs.Ytbedepmcecdhfaa
open Go.RowKit
def reachP (g : List Gauge) (D : List Ditch) (s : List Int) : Int × Bool := if asked g D s then (((finP g D s true).length : Int), true) else (0, false)
theorem fin_le {g : List Gauge} {D : List Ditch} {s : List Int} {fwd : Bool} (hg : areGauges g = true) (hs : areLevels g s = true) : (finP g D s fwd).length ≤ 16807 := Nat.le_trans (fin_end hg hs) (pow7 (areGauges_len hg).2)
set_option maxRecDepth 4000 in
set_option maxHeartbeats 4000000 in
theorem impl_ReachedCount_any (g : List Gauge) (D : List Ditch) (s : List Int) (n m r : Nat) (hn : g.length = n) (hm : D.length = m) (hr : s.length = r) (A A' R : Option Addr) (cap cap' cr : Nat) (w : World) (hl : n ≤ 1048576) (hl' : m ≤ 1048576) (hl2 : r ≤ 1048576) (hcr : r ≤ cr)
    (hc : Sl encGauge w w.heap.size A g) (hd : Sl encDitch w w.heap.size A' D) (hs : Sl encInt w w.heap.size R s) :
    Calls Try.prog 45 #[.slice A n cap, .slice A' m cap', .slice R r cr] w fun e w' => e = .returned (.tuple #[.int .i64 (reachP g D s).1, .bool (reachP g D s).2]) ∧ Below w.heap.size w w' := by
  have HC := Lib.hid hc; clear hc
  have HD := Lib.hid hd; clear hd
  have HS := Lib.hid hs; clear hs
  have HN := Lib.hid hn; clear hn
  have HM := Lib.hid hm; clear hm
  have HR := Lib.hid hr; clear hr
  have HW1 := Lib.hid (show SlR (w.alloc (.cells #[.slice R r cr] 26)) (w.alloc (.cells #[.slice R r cr] 26)).heap.size (some ⟨w.heap.size, 0, none⟩) [s] from fun _ =>
    ⟨w.heap.size, 0, rfl, by simp, fun i l hl => by
      match i, hl with
      | 0, hl =>
        simp at hl; subst hl
        exact ⟨R, cr, by rw [HR.out]; exact (Blk.new w 26 #[.slice R r cr]).cell 0, by rw [HR.out]; exact hcr, HS.out.past (bl_alloc (Below.refl _ _) _)⟩⟩)
  rcases sp1 (asked g D s) with q | q
  · have hv : reachP g D s = (0, false) := by unfold reachP; rw [q]; rfl
    rw [hv]
    have HQ := Lib.hid q
    clear hv q
    go_enter Try.func45, Try.ntmps45
    go_wp2_with fail
    refine (areFrom_any g D [s] _ _ 1 HN.out HM.out rfl _ _ _ _ _ _ _ hl hl' (by omega) (fun l h => by simp at h; rw [h, HR.out]; exact hl2) (HC.out.past (by repeat (first | assumption | exact Below.refl _ _ | apply bl_gw | apply bl_alloc | apply bl_drewN | apply bl_drew))) (HD.out.past (by repeat (first | assumption | exact Below.refl _ _ | apply bl_gw | apply bl_alloc | apply bl_drewN | apply bl_drew))) HW1.out).mono ?_
    rintro e w1 ⟨rfl, b1⟩
    rw [from_one, HQ.out]
    have B1 := Lib.hid (below_step (bl_alloc (Below.refl w.heap.size w) _) b1)
    clear b1 HW1
    go_wp2
    go_ret2
    exact ⟨rfl, B1.out⟩
  · have hv : reachP g D s = (((finP g D s true).length : Int), true) := by unfold reachP; rw [q]; rfl
    rw [hv]
    clear hv
    obtain ⟨hF, hg, hlv⟩ := asked_at q
    have hn5 := areGauges_len hg
    rw [HN.out] at hn5
    obtain rfl : n = r := by have := areLevels_len hlv; rw [HN.out, HR.out] at this; exact this.symm
    have HG := Lib.hid hg
    have HLV := Lib.hid hlv
    have HFI := Lib.hid hF
    have HQ := Lib.hid q
    clear hg hlv hF q
    go_enter Try.func45, Try.ntmps45
    go_wp2_with fail
    refine (areFrom_any g D [s] _ _ 1 HN.out HM.out rfl _ _ _ _ _ _ _ hl hl' (by omega) (fun l h => by simp at h; rw [h, HR.out]; exact hl2) (HC.out.past (by repeat (first | assumption | exact Below.refl _ _ | apply bl_gw | apply bl_alloc | apply bl_drewN | apply bl_drew))) (HD.out.past (by repeat (first | assumption | exact Below.refl _ _ | apply bl_gw | apply bl_alloc | apply bl_drewN | apply bl_drew))) HW1.out).mono ?_
    rintro e w1 ⟨rfl, b1⟩
    rw [from_one, HQ.out]
    have B1 := Lib.hid (below_step (bl_alloc (Below.refl w.heap.size w) _) b1)
    clear b1 HW1
    go_wp2_with fail
    refine (search_any g D s true n m HN.out HM.out HR.out _ _ _ _ _ _ _ hl hl' HFI.out HLV.out (HC.out.past B1.out) (HD.out.past B1.out) (HS.out.past B1.out)).mono ?_
    rintro e w2 ⟨v2, bm, rfl, o2, f2, hbm, b2⟩
    have R2 := Lib.hid o2
    have F2 := Lib.hid f2
    have hz1 := B1.out.size
    have hz2 := b2.size
    have HB2 := Lib.hid b2
    have B2 := Lib.hid (below_step B1.out b2)
    have hlen := fin_end (D := D) (fwd := true) HG.out HLV.out
    have hpos := fin_pos (g := g) (D := D) (s := s) (fwd := true)
    have hp7 := pow7 (show g.length ≤ 5 by rw [HN.out]; exact hn5.2)
    obtain ⟨Al, cl, rfl, hcl, hAl⟩ := R2.out.slice
    clear o2 f2 b2
    rw [List.length_map] at hcl hAl R2 ⊢
    obtain ⟨N, hN⟩ : ∃ N, (finP g D s true).length = N := ⟨_, rfl⟩
    have HNL := Lib.hid hN
    rw [hN] at hcl hAl R2 hlen hpos ⊢
    clear hN
    obtain ⟨gl, rfl, hgl⟩ := hAl (by omega)
    have hN5 : N ≤ 16807 := by omega
    clear hAl hlen hp7
    go_wp2
    go_ret2
    exact ⟨by rw [HNL.out]; rfl, B2.out⟩
set_option maxRecDepth 4000 in
set_option maxHeartbeats 4000000 in
theorem spec_ReachedCount_any (g : List Gauge) (D : List Ditch) (s : List Int) (n m r : Nat) (hn : g.length = n) (hm : D.length = m) (hr : s.length = r) (A A' R : Option Addr) (cap cap' cr : Nat) (w : World) (hl : n ≤ 1048576) (hl' : m ≤ 1048576) (hl2 : r ≤ 1048576) (hcr : r ≤ cr)
    (hc : Sl encGauge w w.heap.size A g) (hd : Sl encDitch w w.heap.size A' D) (hs : Sl encInt w w.heap.size R s) :
    Calls Try.prog 44 #[.slice A n cap, .slice A' m cap', .slice R r cr] w fun e w' => e = .returned (.tuple #[.int .i64 (reachP g D s).1, .bool (reachP g D s).2]) ∧ Below w.heap.size w w' := by
  have HC := Lib.hid hc; clear hc
  have HD := Lib.hid hd; clear hd
  have HS := Lib.hid hs; clear hs
  have HN := Lib.hid hn; clear hn
  have HM := Lib.hid hm; clear hm
  have HR := Lib.hid hr; clear hr
  rcases sp1 (asked g D s) with q | q
  · have hv : reachP g D s = (0, false) := by unfold reachP; rw [q]; rfl
    rw [hv]
    have HQ := Lib.hid q
    clear hv q
    go_enter Try.func44, Try.ntmps44
    go_wp2_with fail
    refine (l16Asked_any g D s _ _ _ HN.out HM.out HR.out _ _ _ _ _ _ _ hl hl' hl2 HC.out HD.out HS.out).mono ?_
    rintro e w1 ⟨rfl, b1⟩
    rw [HQ.out]
    have B1 := Lib.hid b1
    clear b1
    go_wp2
    go_ret2
    exact ⟨rfl, B1.out⟩
  · have hv : reachP g D s = (((finP g D s true).length : Int), true) := by unfold reachP; rw [q]; rfl
    rw [hv]
    clear hv
    obtain ⟨hF, hg, hlv⟩ := asked_at q
    have hn5 := areGauges_len hg
    rw [HN.out] at hn5
    obtain rfl : n = r := by have := areLevels_len hlv; rw [HN.out, HR.out] at this; exact this.symm
    have HG := Lib.hid hg
    have HLV := Lib.hid hlv
    have HFI := Lib.hid hF
    have HQ := Lib.hid q
    clear hg hlv hF q
    go_enter Try.func44, Try.ntmps44
    go_wp2_with fail
    refine (l16Asked_any g D s _ _ _ HN.out HM.out HR.out _ _ _ _ _ _ _ hl hl' hl2 HC.out HD.out HS.out).mono ?_
    rintro e w1 ⟨rfl, b1⟩
    rw [HQ.out]
    have B1 := Lib.hid b1
    clear b1
    go_wp2_with fail
    refine (l16Far_any g D s false n m HN.out HM.out HR.out _ _ _ _ _ _ _ hl hl' hcr HFI.out HLV.out (HC.out.past B1.out) (HD.out.past B1.out) (HS.out.past B1.out)).mono ?_
    rintro e w2 ⟨v2, rfl, o2, b2⟩
    rw [Bool.not_false] at o2
    have O2 := Lib.hid (o2.lower B1.out.size)
    have B2 := Lib.hid (below_step B1.out b2)
    clear o2 b2
    obtain ⟨P, hP⟩ : ∃ P, 7 ^ n = P := ⟨_, rfl⟩
    have hP1 : 1 ≤ P := by rw [← hP]; exact Nat.pow_pos (by decide)
    have hP2 : P ≤ 16807 := by rw [← hP]; exact pow7 hn5.2
    have HP := Lib.hid hP
    clear hP
    obtain ⟨Af, cf, hv2, _, _, _⟩ := O2.out.slice
    rw [farL_length, HP.out] at hv2
    subst hv2
    obtain ⟨gf, rfl⟩ := O2.out.some_ (by omega)
    have HCF := Lib.hid (show cntTo (fun i => decide (0 ≤ farI (finP g D s true) n i)) P = (finP g D s true).length by
      have := count_fin (D := D) (fwd := true) HG.out HLV.out
      rwa [HN.out, HP.out] at this)
    go_wp2
    go_loopw [9, 10] (fun u j wr => ∃ k : Nat, k ≤ P ∧ j = .int .i64 k ∧ u = .int .i64 ((cntTo (fun i => decide (0 ≤ farI (finP g D s true) n i)) k : Nat) : Int) ∧ wr = w2) (fun _ j _ => P - (intOf j).toNat)
    case atStart => exact ⟨0, Nat.zero_le _, rfl, rfl, rfl⟩
    case round =>
      obtain ⟨k, hk, rfl, rfl, rfl⟩ := hrel
      have HST := Lib.hid (show cntTo (fun i => decide (0 ≤ farI (finP g D s true) n i)) (k + 1) = cntTo (fun i => decide (0 ≤ farI (finP g D s true) n i)) k + (if decide (0 ≤ farI (finP g D s true) n k) = true then 1 else 0) from rfl)
      have hle := cntTo_le (fun i => decide (0 ≤ farI (finP g D s true) n i)) k
      by_cases hlt : k < P
      · have hat := farL_get (finP g D s true) (c := n) (n := k) (by rw [HP.out]; exact hlt)
        obtain ⟨hgw, d0⟩ := O2.out.int hat
        clear hat
        generalize cntTo (fun i => decide (0 ≤ farI (finP g D s true) n i)) k = ct at *
        generalize farI (finP g D s true) n k = z at *
        have k1 : (k : Int) < P := by omega
        have k2 : (0 : Int) ≤ k := by omega
        have k3 : IntKind.i64.wrap ((ct : Int) + 1) = (ct : Int) + 1 := IntWalk.i64_in _ (by omega)
        by_cases hz : 0 ≤ z
        · have HS2 := Lib.hid (show cntTo (fun i => decide (0 ≤ farI (finP g D s true) n i)) (k + 1) = ct + 1 by rw [HST.out, decide_eq_true hz]; rfl)
          go_wp2
          go_roundw
          case rel => exact ⟨k + 1, by omega, by go_num, by rw [HS2.out]; go_num, trivial⟩
          case measure => simp [intOf]; omega
        · have HS2 := Lib.hid (show cntTo (fun i => decide (0 ≤ farI (finP g D s true) n i)) (k + 1) = ct by rw [HST.out, decide_eq_false hz]; rfl)
          go_wp2
          go_roundw
          case rel => exact ⟨k + 1, by omega, by go_num, by rw [HS2.out], trivial⟩
          case measure => simp [intOf]; omega
      · obtain rfl : k = P := by omega
        go_wp2
        go_ret2
        exact ⟨by rw [HCF.out]; rfl, B2.out⟩
end Go.Proofs.Ytbedepmcecdhfaa
