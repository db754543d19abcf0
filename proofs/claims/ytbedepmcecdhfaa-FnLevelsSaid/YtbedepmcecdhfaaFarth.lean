/- The farthest levels. -/
import Derived.Test.YtbedepmcecdhfaaShort
namespace Go.Proofs.Ytbedepmcecdhfaa
open Go.RowKit
def farthP (g : List Gauge) (D : List Ditch) (s : List Int) : List Int × Int × Bool :=
  if asked g D s then ((bestF (finP g D s true) (finP g D s true).length).1, ((bestF (finP g D s true) (finP g D s true).length).2 : Int), true) else ([], 0, false)
theorem farthP_no {g : List Gauge} {D : List Ditch} {s : List Int} (h : asked g D s = false) : farthP g D s = ([], 0, false) := by unfold farthP; rw [h]; rfl
theorem farthP_yes {g : List Gauge} {D : List Ditch} {s : List Int} (h : asked g D s = true) : farthP g D s = ((bestF (finP g D s true) (finP g D s true).length).1, ((bestF (finP g D s true) (finP g D s true).length).2 : Int), true) := by unfold farthP; rw [h]; rfl
theorem farthP_length (g : List Gauge) (D : List Ditch) (s : List Int) : (farthP g D s).1.length ≤ 1000000 := by
  unfold farthP
  split
  · rename_i h
    obtain ⟨_, hg, hs⟩ := asked_at h
    have := areLevels_len (fin_ok (D := D) (fwd := true) hs _ (bestF_mem fin_pos _ (Nat.le_refl _)))
    have := (areGauges_len hg).2
    simp only
    omega
  · simp
/-- What is on the list of what a search finds. -/
structure Hit (g : List Gauge) (L : List (List Int × Nat)) (x : List Int) (d : Nat) : Prop where
  ok : areLevels g x = true
  val : valOf L x = d
  le : d ≤ 16807
theorem hit_mem {g : List Gauge} {D : List Ditch} {s : List Int} {fwd : Bool} (hg : areGauges g = true) (hs : areLevels g s = true) {x : List Int} {d : Nat} (h : (x, d) ∈ finP g D s fwd) : Hit g (finP g D s fwd) x d := by
  have hd := (dOf_some (fin_found (g := g) (D := D) (s := s) (fwd := fwd)).keys).2 h
  exact ⟨fin_ok hs _ h, by unfold valOf; rw [hd], dist_le hg hs hd⟩
theorem farther_of {g : List Gauge} {x y : List Int} {dx dy n : Nat} (hg : areGauges g = true) (hx : areLevels g x = true) (hy : areLevels g y = true) (hn : g.length = n) :
    farther (x, dx) (y, dy) = (decide ((0 : Int) < (dy : Int) - dx) || (decide ((dy : Int) - dx = 0) && decide (cmpAt y x n < 0))) := by
  have hyl := areLevels_len hy
  have hc := cmpAt_num (areLevels_small hg hy) (areLevels_small hg hx) (by rw [hyl, areLevels_len hx])
  rw [hyl, hn] at hc
  unfold farther
  simp only
  congr 1
  · by_cases h : dx < dy <;> simp [h] <;> omega
  · congr 1
    · by_cases h : dy = dx <;> simp [h] <;> omega
    · by_cases h : numN y < numN x
      · rw [decide_eq_true h, decide_eq_true (hc.2 h)]
      · rw [decide_eq_false h, decide_eq_false (fun h' => h (hc.1 h'))]
set_option maxRecDepth 4000 in
set_option maxHeartbeats 16000000 in
theorem impl_FarthestLevels_any (g : List Gauge) (D : List Ditch) (s : List Int) (n m r : Nat) (hn : g.length = n) (hm : D.length = m) (hr : s.length = r) (A A' R : Option Addr) (cap cap' cr : Nat) (w : World) (hl : n ≤ 1048576) (hl' : m ≤ 1048576) (hl2 : r ≤ 1048576) (hcr : r ≤ cr)
    (hc : Sl encGauge w w.heap.size A g) (hd : Sl encDitch w w.heap.size A' D) (hs : Sl encInt w w.heap.size R s) :
    Calls Try.prog 49 #[.slice A n cap, .slice A' m cap', .slice R r cr] w fun e w' => ∃ v, e = .returned (.tuple #[v, .int .i64 (farthP g D s).2.1, .bool (farthP g D s).2.2]) ∧ Own encInt w' w.heap.size 3 v (farthP g D s).1 ∧ Below w.heap.size w w' := by
  have HC := Lib.hid hc; clear hc
  have HD := Lib.hid hd; clear hd
  have HS := Lib.hid hs; clear hs
  have HN := Lib.hid hn; clear hn
  have HM := Lib.hid hm; clear hm
  have HR := Lib.hid hr; clear hr
  have HW1 := Lib.hid (show SlR (w.alloc (.cells #[.slice R r cr] 26)) (w.alloc (.cells #[.slice R r cr] 26)).heap.size (some ⟨w.heap.size, 0, none⟩) [s] from fun _ =>
    ⟨w.heap.size, 0, rfl, by simp, fun i l hl => by
      match i, hl with
      | 0, hl =>
        simp at hl; subst hl
        exact ⟨R, cr, by rw [HR.out]; exact (Blk.new w 26 #[.slice R r cr]).cell 0, by rw [HR.out]; exact hcr, HS.out.past (bl_alloc (Below.refl _ _) _)⟩⟩)
  rcases sp1 (asked g D s) with q | q
  · rw [farthP_no q]
    have HQ := Lib.hid q
    clear q
    go_enter Try.func49, Try.ntmps49
    go_wp2_with fail
    refine (areFrom_any g D [s] _ _ 1 HN.out HM.out rfl _ _ _ _ _ _ _ hl hl' (by omega) (fun l h => by simp at h; rw [h, HR.out]; exact hl2) (HC.out.past (by repeat (first | assumption | exact Below.refl _ _ | apply bl_gw | apply bl_alloc | apply bl_drewN | apply bl_drew))) (HD.out.past (by repeat (first | assumption | exact Below.refl _ _ | apply bl_gw | apply bl_alloc | apply bl_drewN | apply bl_drew))) HW1.out).mono ?_
    rintro e w1 ⟨rfl, b1⟩
    rw [from_one, HQ.out]
    have B1 := Lib.hid (below_step (bl_alloc (Below.refl w.heap.size w) _) b1)
    clear b1 HW1
    go_wp2
    go_ret3
    exact ⟨_, rfl, Own.none_, B1.out⟩
  · have HV := Lib.hid (farthP_yes q)
    obtain ⟨hF, hg, hlv⟩ := asked_at q
    have hn5 := areGauges_len hg
    rw [HN.out] at hn5
    obtain rfl : n = r := by have := areLevels_len hlv; rw [HN.out, HR.out] at this; exact this.symm
    have HG := Lib.hid hg
    have HLV := Lib.hid hlv
    have HFI := Lib.hid hF
    have HQ := Lib.hid q
    clear hg hlv hF q
    go_enter Try.func49, Try.ntmps49
    go_wp2_with fail
    refine (areFrom_any g D [s] _ _ 1 HN.out HM.out rfl _ _ _ _ _ _ _ hl hl' (by omega) (fun l h => by simp at h; rw [h, HR.out]; exact hl2) (HC.out.past (by repeat (first | assumption | exact Below.refl _ _ | apply bl_gw | apply bl_alloc | apply bl_drewN | apply bl_drew))) (HD.out.past (by repeat (first | assumption | exact Below.refl _ _ | apply bl_gw | apply bl_alloc | apply bl_drewN | apply bl_drew))) HW1.out).mono ?_
    rintro e w1 ⟨rfl, b1⟩
    rw [from_one, HQ.out]
    have B1 := Lib.hid (below_step (bl_alloc (Below.refl w.heap.size w) _) b1)
    clear b1 HW1
    go_wp2_with fail
    refine (search_any g D s true n m HN.out HM.out HR.out _ _ _ _ _ _ _ hl hl' HFI.out HLV.out (HC.out.past B1.out) (HD.out.past B1.out) (HS.out.past B1.out)).mono ?_
    rintro e w2 ⟨v2, bm, rfl, o2, f2, hbm, b2⟩
    have R2 := Lib.hid o2
    have F2 := Lib.hid f2
    have hz1 := B1.out.size
    have hz2 := b2.size
    have HB2 := Lib.hid b2
    have B2 := Lib.hid (below_step B1.out b2)
    have hlen := fin_end (D := D) (fwd := true) HG.out HLV.out
    have hpos := fin_pos (g := g) (D := D) (s := s) (fwd := true)
    have hp7 := pow7 (show g.length ≤ 5 by rw [HN.out]; exact hn5.2)
    obtain ⟨Al, cl, rfl, hcl, hAl⟩ := R2.out.slice
    clear o2 f2 b2
    rw [List.length_map] at hcl hAl R2 ⊢
    obtain ⟨N, hN⟩ : ∃ N, (finP g D s true).length = N := ⟨_, rfl⟩
    have HNL := Lib.hid hN
    rw [hN] at hcl hAl R2 hlen hpos ⊢
    clear hN
    obtain ⟨gl, rfl, hgl⟩ := hAl (by omega)
    have hN5 : N ≤ 16807 := by omega
    clear hAl hlen hp7
    have HB0 := Lib.hid (bestF_mem (fin_pos (g := g) (D := D) (s := s) (fwd := true)))
    obtain ⟨⟨x0, d0⟩, hx0⟩ : ∃ p, bestF (finP g D s true) 0 = p := ⟨_, rfl⟩
    have hx1 : (finP g D s true)[0]? = some (x0, d0) := by
      have h := List.getElem?_eq_getElem (l := finP g D s true) (i := 0) (by rw [HNL.out]; exact hpos)
      rw [h, ← hx0]
      unfold bestF
      rw [List.getElem!_of_getElem? h]
    have hx1l := areLevels_len (hit_mem (fwd := true) HG.out HLV.out (List.mem_of_getElem? hx1)).ok
    rw [HN.out] at hx1l
    obtain ⟨Ax, cx, c0, hcx, hsx, hox⟩ := R2.out.cell (ownG w1.heap.size) hz2 (i := 0) (l := x0) (by rw [List.getElem?_map, hx1]; rfl)
    rw [hx1l] at c0 hcx hox
    have HX0 := Lib.hid hx0
    have HOX := Lib.hid hox
    have K := Lib.hid (ownG w1.heap.size)
    have kp : (0 : Int) < N := by omega
    have hbm2 := F2.out.lt
    clear hx0 hx1 hsx hox hx1l
    go_wp2
    clear c0
    go_loopw [11, 33] (fun lv i wr => ∃ (k : Nat) (lw : Value) (x : List Int) (d : Nat), k ≤ N ∧ i = .int .i64 k ∧ lw = lv ∧ bestF (finP g D s true) k = (x, d) ∧ OwnG w1.heap.size wr lw x ∧ Below w2.heap.size w2 wr) (fun _ i _ => N - (intOf i).toNat)
    case atStart => exact ⟨0, _, _, _, Nat.zero_le _, rfl, rfl, HX0.out, HOX.out, Below.refl _ _⟩
    case round =>
      clear HX0 HOX
      obtain ⟨k, lw, x, d, hk, rfl, rfl, hbf, ho, hbel⟩ := hrel
      have HX := Lib.hid (hit_mem (fwd := true) HG.out HLV.out (hbf ▸ HB0.out k (by rw [HNL.out]; exact hk)))
      have HO := Lib.hid ho
      have HBL := Lib.hid hbel
      have HRW := Lib.hid (R2.out.past K.out hz2 hbel (Nat.le_refl _))
      have HFW := Lib.hid (F2.out.past hbel (Nat.le_refl _))
      have hsz : w1.heap.size ≤ wr.heap.size := Nat.le_trans hz2 hbel.size
      have hxl := areLevels_len HX.out.ok
      rw [HN.out] at hxl
      have HXL := Lib.hid hxl
      have hd7 := HX.out.le
      have hgl2 : gl < wr.heap.size := by have := hbel.size; omega
      obtain ⟨Ax, cx, rfl, hcx, hsx⟩ := (ownG w1.heap.size).val hsz HO.out
      rw [hxl] at hcx HO ⊢
      have HSX := Lib.hid hsx
      clear ho hbel hxl hsx
      by_cases hlt : k < N
      · obtain ⟨⟨y, e⟩, hye⟩ : ∃ p, (finP g D s true)[k]'(by rw [HNL.out]; exact hlt) = p := ⟨_, rfl⟩
        have hy : (finP g D s true)[k]? = some (y, e) := by rw [← hye]; exact List.getElem?_eq_getElem _
        have HY := Lib.hid (hit_mem (fwd := true) HG.out HLV.out (List.mem_of_getElem? hy))
        have hyl := areLevels_len HY.out.ok
        rw [HN.out] at hyl
        have HYL := Lib.hid hyl
        have he7 := HY.out.le
        obtain ⟨Ay, cy, c1, hcy, hsy, hoy⟩ := HRW.out.cell K.out hsz (i := k) (l := y) (by rw [List.getElem?_map, hy]; rfl)
        rw [hyl] at c1 hcy hoy
        have HSY := Lib.hid hsy
        have HOY := Lib.hid hoy
        have hst : bestF (finP g D s true) (k + 1) = if farther (x, d) (y, e) then (y, e) else (x, d) := by
          rw [bestF, hbf, List.getElem!_of_getElem? hy]
        rw [farther_of HG.out HX.out.ok HY.out.ok HN.out] at hst
        obtain ⟨cv, hcv⟩ : ∃ cv, cmpAt y x n = cv := ⟨_, rfl⟩
        rw [hcv] at hst
        have HCV := Lib.hid hcv
        have HST := Lib.hid hst
        have hly : ∀ p, (Instr.lookup 78 (.map (some bm)) (keyV y) false).run Try.prog (gw wr p) = .ok (.int .i64 e) (gw wr p) := fun p => by
          have := (HFW.out.gw p).look HYL.out (areLevels_small HG.out HY.out.ok).near
          rwa [HY.out.val] at this
        have hlx : ∀ p, (Instr.lookup 78 (.map (some bm)) (keyV x) false).run Try.prog (gw wr p) = .ok (.int .i64 d) (gw wr p) := fun p => by
          have := (HFW.out.gw p).look HXL.out (areLevels_small HG.out HX.out.ok).near
          rwa [HX.out.val] at this
        clear hye hy hyl hsy hoy hst hcv hbf
        have k1 : (k : Int) < N := by omega
        have k2 : (0 : Int) ≤ k := by omega
        have kw2 : IntKind.i64.wrap ((e : Int) - d) = (e : Int) - d := IntWalk.i64_in _ (by omega)
        go_wp2
        refine wp_region_gw (by kernel_rfl) (by kernel_rfl) ?_
        repeat (first | go_big_quiet_step ((first | (go_at_call_of 59 Ay; exact quiet_gw (v := keyV y) (keyOf_any y n HYL.out _ _ _ hn5.1 hn5.2 (HSY.out.past (by repeat (first | assumption | exact Below.refl _ _ | apply bl_gw | apply bl_alloc | apply bl_drewN | apply bl_drew))))) | (go_at_call_of 59 Ax; exact quiet_gw (v := keyV x) (keyOf_any x n HXL.out _ _ _ hn5.1 hn5.2 (HSX.out.past (by repeat (first | assumption | exact Below.refl _ _ | apply bl_gw | apply bl_alloc | apply bl_drewN | apply bl_drew))))))) | quiet_step ((first | (go_at_call_of 59 Ay; exact quiet_gw (v := keyV y) (keyOf_any y n HYL.out _ _ _ hn5.1 hn5.2 (HSY.out.past (by repeat (first | assumption | exact Below.refl _ _ | apply bl_gw | apply bl_alloc | apply bl_drewN | apply bl_drew))))) | (go_at_call_of 59 Ax; exact quiet_gw (v := keyV x) (keyOf_any x n HXL.out _ _ _ hn5.1 hn5.2 (HSX.out.past (by repeat (first | assumption | exact Below.refl _ _ | apply bl_gw | apply bl_alloc | apply bl_drewN | apply bl_drew))))))))
        refine wpQuiet_nil ?_
        rintro _ ⟨pq, rfl⟩
        have HBq := Lib.hid (show Below wr.heap.size wr (gw wr pq) from (by repeat (first | assumption | exact Below.refl _ _ | apply bl_gw | apply bl_alloc | apply bl_drewN | apply bl_drew)))
        have HRq := Lib.hid (HBL.out.trans (HBq.out.mono (by have := HBL.out.size; omega)))
        rcases (show d < e ∨ e = d ∨ e < d by omega) with h | h | h
        · have hmore : (0 : Int) < (e : Int) - d := by omega
          have HS2 := Lib.hid (show bestF (finP g D s true) (k + 1) = (y, e) by rw [HST.out, decide_eq_true hmore]; rfl)
          clear hly hlx
          go_wp2
          go_roundw
          case rel => exact ⟨k + 1, _, y, e, by omega, by go_num, rfl, HS2.out, K.out.past hsz HOY.out HBq.out (Nat.le_refl _), HRq.out⟩
          case measure => simp [intOf]; omega
        · have hmore : ¬ (0 : Int) < (e : Int) - d := by omega
          have hmore2 : (e : Int) - d = 0 := by omega
          rw [hmore2]
          clear hly hlx hmore2
          go_wp2_with fail
          refine (compare_any y x n HYL.out HXL.out _ _ _ _ _ hl (HSY.out.past HBq.out) (HSX.out.past HBq.out)).mono ?_
          rintro e' w5 ⟨rfl, b5⟩
          rw [HCV.out]
          have HB5 := Lib.hid (below_step HBq.out b5)
          have HR5 := Lib.hid (HBL.out.trans (HB5.out.mono (by have := HBL.out.size; omega)))
          clear b5
          by_cases hcv : cv < 0
          · have HS2 := Lib.hid (show bestF (finP g D s true) (k + 1) = (y, e) by rw [HST.out, decide_eq_false (show ¬ (0 : Int) < (e : Int) - d by omega), decide_eq_true (show (e : Int) - d = 0 by omega), decide_eq_true hcv]; rfl)
            go_wp2
            go_roundw
            case rel => exact ⟨k + 1, _, y, e, by omega, by go_num, rfl, HS2.out, K.out.past hsz HOY.out HB5.out (Nat.le_refl _), HR5.out⟩
            case measure => simp [intOf]; omega
          · have HS2 := Lib.hid (show bestF (finP g D s true) (k + 1) = (x, d) by rw [HST.out, decide_eq_false (show ¬ (0 : Int) < (e : Int) - d by omega), decide_eq_false hcv, Bool.and_false]; rfl)
            go_wp2
            go_roundw
            case rel => exact ⟨k + 1, _, x, d, by omega, by go_num, rfl, HS2.out, K.out.past hsz HO.out HB5.out (Nat.le_refl _), HR5.out⟩
            case measure => simp [intOf]; omega
        · have hmore : ¬ (0 : Int) < (e : Int) - d := by omega
          have hmore2 : ¬ (e : Int) - d = 0 := by omega
          have HS2 := Lib.hid (show bestF (finP g D s true) (k + 1) = (x, d) by rw [HST.out, decide_eq_false hmore, decide_eq_false hmore2]; rfl)
          clear hly hlx
          go_wp2
          go_roundw
          case rel => exact ⟨k + 1, _, x, d, by omega, by go_num, rfl, HS2.out, K.out.past hsz HO.out HBq.out (Nat.le_refl _), HRq.out⟩
          case measure => simp [intOf]; omega
      · obtain rfl : k = N := by omega
        have HE := Lib.hid (show farthP g D s = (x, (d : Int), true) by rw [HV.out, HNL.out, hbf])
        have hlx : ∀ p, (Instr.lookup 78 (.map (some bm)) (keyV x) false).run Try.prog (gw wr p) = .ok (.int .i64 d) (gw wr p) := fun p => by
          have := (HFW.out.gw p).look HXL.out (areLevels_small HG.out HX.out.ok).near
          rwa [HX.out.val] at this
        clear hbf
        go_wp2
        refine wp_region_gw (by kernel_rfl) (by kernel_rfl) ?_
        repeat (first | go_big_quiet_step ((go_at_call_of 59 Ax; exact quiet_gw (v := keyV x) (keyOf_any x n HXL.out _ _ _ hn5.1 hn5.2 (HSX.out.past (by repeat (first | assumption | exact Below.refl _ _ | apply bl_gw | apply bl_alloc | apply bl_drewN | apply bl_drew)))))) | quiet_step ((go_at_call_of 59 Ax; exact quiet_gw (v := keyV x) (keyOf_any x n HXL.out _ _ _ hn5.1 hn5.2 (HSX.out.past (by repeat (first | assumption | exact Below.refl _ _ | apply bl_gw | apply bl_alloc | apply bl_drewN | apply bl_drew)))))))
        refine wpQuiet_nil ?_
        rintro _ ⟨pq, rfl⟩
        go_wp2
        go_ret3
        rw [HE.out]
        exact ⟨_, rfl, (K.out.past hsz HO.out (show Below wr.heap.size wr (gw wr pq) from (by repeat (first | assumption | exact Below.refl _ _ | apply bl_gw | apply bl_alloc | apply bl_drewN | apply bl_drew))) (Nat.le_refl _)).lower hz1, B2.out.trans ((HBL.out.trans ((show Below wr.heap.size wr (gw wr pq) from (by repeat (first | assumption | exact Below.refl _ _ | apply bl_gw | apply bl_alloc | apply bl_drewN | apply bl_drew))).mono (by have := HBL.out.size; omega))).mono (by omega))⟩
theorem sbTo_le {f : Nat → Int} {b P : Nat} (hb : b < P) {k : Nat} (hk : k ≤ P) : sbTo f b k < P := sbTo_lt hb k hk
set_option maxRecDepth 4000 in
set_option maxHeartbeats 16000000 in
theorem spec_FarthestLevels_any (g : List Gauge) (D : List Ditch) (s : List Int) (n m r : Nat) (hn : g.length = n) (hm : D.length = m) (hr : s.length = r) (A A' R : Option Addr) (cap cap' cr : Nat) (w : World) (hl : n ≤ 1048576) (hl' : m ≤ 1048576) (hl2 : r ≤ 1048576) (hcr : r ≤ cr)
    (hc : Sl encGauge w w.heap.size A g) (hd : Sl encDitch w w.heap.size A' D) (hs : Sl encInt w w.heap.size R s) :
    Calls Try.prog 48 #[.slice A n cap, .slice A' m cap', .slice R r cr] w fun e w' => ∃ v, e = .returned (.tuple #[v, .int .i64 (farthP g D s).2.1, .bool (farthP g D s).2.2]) ∧ Own encInt w' w.heap.size 3 v (farthP g D s).1 ∧ Below w.heap.size w w' := by
  have HC := Lib.hid hc; clear hc
  have HD := Lib.hid hd; clear hd
  have HS := Lib.hid hs; clear hs
  have HN := Lib.hid hn; clear hn
  have HM := Lib.hid hm; clear hm
  have HR := Lib.hid hr; clear hr
  rcases sp1 (asked g D s) with q | q
  · rw [farthP_no q]
    have HQ := Lib.hid q
    clear q
    go_enter Try.func48, Try.ntmps48
    go_wp2_with fail
    refine (l16Asked_any g D s _ _ _ HN.out HM.out HR.out _ _ _ _ _ _ _ hl hl' hl2 HC.out HD.out HS.out).mono ?_
    rintro e w1 ⟨rfl, b1⟩
    rw [HQ.out]
    have B1 := Lib.hid b1
    clear b1
    have hz1 := B1.out.size
    go_wp2
    go_ret3
    exact ⟨_, rfl, own_nil1 hz1, bl_alloc B1.out _⟩
  · have hv := farthP_yes q
    obtain ⟨hF, hg, hlv⟩ := asked_at q
    have hn5 := areGauges_len hg
    rw [HN.out] at hn5
    obtain rfl : n = r := by have := areLevels_len hlv; rw [HN.out, HR.out] at this; exact this.symm
    have HG := Lib.hid hg
    have HLV := Lib.hid hlv
    have HFI := Lib.hid hF
    have HQ := Lib.hid q
    clear hg hlv hF q
    have hfe := far_eq (D := D) (fwd := true) HG.out HLV.out
    rw [← hfe.1, ← hfe.2, HN.out] at hv
    have HV := Lib.hid hv
    clear hv hfe
    go_enter Try.func48, Try.ntmps48
    go_wp2_with fail
    refine (l16Asked_any g D s _ _ _ HN.out HM.out HR.out _ _ _ _ _ _ _ hl hl' hl2 HC.out HD.out HS.out).mono ?_
    rintro e w1 ⟨rfl, b1⟩
    rw [HQ.out]
    have B1 := Lib.hid b1
    clear b1
    go_wp2_with fail
    refine (l16Far_any g D s false n m HN.out HM.out HR.out _ _ _ _ _ _ _ hl hl' hcr HFI.out HLV.out (HC.out.past B1.out) (HD.out.past B1.out) (HS.out.past B1.out)).mono ?_
    rintro e w2 ⟨v2, rfl, o2, b2⟩
    rw [Bool.not_false] at o2
    have O2 := Lib.hid (o2.lower B1.out.size)
    have B2 := Lib.hid (below_step B1.out b2)
    clear o2 b2
    obtain ⟨P, hP⟩ : ∃ P, 7 ^ n = P := ⟨_, rfl⟩
    have hP1 : 1 ≤ P := by rw [← hP]; exact Nat.pow_pos (by decide)
    have hP2 : P ≤ 16807 := by rw [← hP]; exact pow7 hn5.2
    have HP := Lib.hid hP
    clear hP
    obtain ⟨Af, cf, hv2, _, _, _⟩ := O2.out.slice
    rw [farL_length, HP.out] at hv2
    subst hv2
    obtain ⟨gf, rfl⟩ := O2.out.some_ (by omega)
    have hss := areLevels_small HG.out HLV.out
    have HNS := Lib.hid (l16Number_any s n HR.out R cr w2 hn5.2 hss (HS.out.past B2.out))
    have hZ : numN s < P := by have := numN_lt' hss HR.out; rw [HP.out] at this; exact this
    have hz2 := B2.out.size
    clear hss
    obtain ⟨Z, hZ'⟩ : ∃ Z, numN s = Z := ⟨_, rfl⟩
    rw [hZ'] at hZ HNS HV
    rw [HP.out] at HV
    clear hZ'
    go_wp2_with (go_at_call 65; refine (HNS.out).mono ?_; rintro e w1 ⟨rfl, rfl⟩)
    clear HNS
    go_loopw [10, 11] (fun u j wr => ∃ k : Nat, k ≤ P ∧ j = .int .i64 k ∧ u = .int .i64 (sbTo (farI (finP g D s true) n) Z k) ∧ Own encInt wr w.heap.size 3 (.slice (some ⟨gf, 0, none⟩) P cf) (farL (finP g D s true) n) ∧ Below w.heap.size w wr) (fun _ j _ => P - (intOf j).toNat)
    case atStart => exact ⟨0, Nat.zero_le _, rfl, rfl, O2.out, B2.out⟩
    case round =>
      clear O2 B2
      obtain ⟨k, hk, rfl, rfl, ho, hbel⟩ := hrel
      have HO := Lib.hid ho
      have HBL := Lib.hid hbel
      have hsz := hbel.size
      have HST := Lib.hid (show sbTo (farI (finP g D s true) n) Z (k + 1) = if farI (finP g D s true) n (sbTo (farI (finP g D s true) n) Z k) < farI (finP g D s true) n k then k else sbTo (farI (finP g D s true) n) Z k from rfl)
      have hbl := sbTo_le (f := farI (finP g D s true) n) hZ hk
      obtain ⟨bb, hbb⟩ : ∃ bb, sbTo (farI (finP g D s true) n) Z k = bb := ⟨_, rfl⟩
      rw [hbb] at HST hbl ⊢
      have HBB := Lib.hid hbb
      have hab := farL_get (finP g D s true) (c := n) (n := bb) (by rw [HP.out]; exact hbl)
      obtain ⟨hgw, d1⟩ := HO.out.int hab
      clear hab ho hbel hbb
      have y1 : (bb : Int) < P := by omega
      have y2 : (0 : Int) ≤ bb := by omega
      by_cases hlt : k < P
      · have hat := farL_get (finP g D s true) (c := n) (n := k) (by rw [HP.out]; exact hlt)
        obtain ⟨_, d0⟩ := HO.out.int hat
        clear hat
        generalize farI (finP g D s true) n k = z at *
        generalize farI (finP g D s true) n bb = zb at *
        have k1 : (k : Int) < P := by omega
        have k2 : (0 : Int) ≤ k := by omega
        go_wp2
        refine wp_region_gw (by kernel_rfl) (by kernel_rfl) ?_
        repeat (first | go_big_quiet_step ((fail)) | quiet_step ((fail)))
        refine wpQuiet_nil ?_
        rintro _ ⟨pq, rfl⟩
        have hBq := Lib.hid (show Below wr.heap.size wr (gw wr pq) from (by repeat (first | assumption | exact Below.refl _ _ | apply bl_gw | apply bl_alloc | apply bl_drewN | apply bl_drew)))
        have HOq := Lib.hid (HO.out.past hBq.out (Nat.le_refl _))
        have HBq := Lib.hid (HBL.out.trans (hBq.out.mono hsz))
        by_cases hz : zb < z
        · have HS2 := Lib.hid (show sbTo (farI (finP g D s true) n) Z (k + 1) = k by rw [HST.out, if_pos hz])
          go_wp2
          go_roundw
          case rel => exact ⟨k + 1, by omega, by go_num, by rw [HS2.out], HOq.out, HBq.out⟩
          case measure => simp [intOf]; omega
        · have HS2 := Lib.hid (show sbTo (farI (finP g D s true) n) Z (k + 1) = bb by rw [HST.out, if_neg hz])
          go_wp2
          go_roundw
          case rel => exact ⟨k + 1, by omega, by go_num, by rw [HS2.out], HOq.out, HBq.out⟩
          case measure => simp [intOf]; omega
      · obtain rfl : k = P := by omega
        have hv2 := HV.out
        rw [HBB.out] at hv2
        have HV2 := Lib.hid hv2
        have hdl := digs_length n bb
        have HAT := Lib.hid (fun W => l16At_any n bb W hn5.2 (by omega))
        obtain ⟨dg, hdg⟩ : ∃ dg, digs n bb = dg := ⟨_, rfl⟩
        rw [hdg] at HV2 hdl
        have HDG := Lib.hid hdg
        generalize farI (finP g D s true) n bb = zb at *
        clear hv2 hdg
        go_wp2
        go_region_with (go_at_call 86; refine (HAT.out _).mono ?_; rintro e w5 ⟨v5, rfl, o5, b5⟩; rw [HDG.out] at o5; have O5 := Lib.hid (o5.lower (b := w.heap.size) (by simp; omega)); have B5 := Lib.hid (HBL.out.trans ((below_step (show Below wr.heap.size wr _ from (by repeat (first | assumption | exact Below.refl _ _ | apply bl_gw | apply bl_alloc | apply bl_drewN | apply bl_drew))) b5).mono hsz)); have d5 := (below_step (show Below wr.heap.size wr _ from (by repeat (first | assumption | exact Below.refl _ _ | apply bl_gw | apply bl_alloc | apply bl_drewN | apply bl_drew))) b5).cell (p := ⟨gf, bb, none⟩) hgw; rw [d1] at d5; have hg5 : gf < w5.heap.size := by have := (below_step (show Below wr.heap.size wr _ from (by repeat (first | assumption | exact Below.refl _ _ | apply bl_gw | apply bl_alloc | apply bl_drewN | apply bl_drew))) b5).size; omega)
        all_goals
          go_wp2
          go_ret3
          rw [HV2.out]
          exact ⟨_, rfl, O5.out, B5.out⟩
end Go.Proofs.Ytbedepmcecdhfaa
