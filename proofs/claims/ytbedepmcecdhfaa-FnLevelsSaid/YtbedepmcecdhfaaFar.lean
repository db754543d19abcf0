/- The reference's search: the distances of all levels, by number. -/
import Derived.Test.YtbedepmcecdhfaaNumber
namespace Go.Proofs.Ytbedepmcecdhfaa
open Go.RowKit
set_option maxRecDepth 4000 in
set_option maxHeartbeats 16000000 in
theorem l16Far_any (g : List Gauge) (D : List Ditch) (s : List Int) (back : Bool) (n m : Nat) (hn : g.length = n) (hm : D.length = m) (hr : s.length = n) (A A' R : Option Addr) (cap cap' cr : Nat) (w : World) (hl : n ≤ 1048576) (hl' : m ≤ 1048576) (hcr : n ≤ cr)
    (hF : isField g D = true) (hlv : areLevels g s = true) (hc : Sl encGauge w w.heap.size A g) (hd : Sl encDitch w w.heap.size A' D) (hs : Sl encInt w w.heap.size R s) :
    Calls Try.prog 64 #[.slice A n cap, .slice A' m cap', .slice R n cr, .bool back] w fun e w' => ∃ v, e = .returned v ∧ Own encInt w' w.heap.size 3 v (farL (finP g D s (!back)) n) ∧ Below w.heap.size w w' := by
  have HC := Lib.hid hc; clear hc
  have HD := Lib.hid hd; clear hd
  have HS := Lib.hid hs; clear hs
  have HN := Lib.hid hn; clear hn
  have HM := Lib.hid hm; clear hm
  have HR := Lib.hid hr; clear hr
  have hg := (isField_at hF).1.1
  have hn5 := areGauges_len hg
  rw [HN.out] at hn5
  have HG := Lib.hid hg
  have HLS := Lib.hid hlv
  have HFI := Lib.hid hF
  have HSM := Lib.hid (areLevels_small hg hlv)
  have hn1 := hn5.1
  have hn5' := hn5.2
  clear hg hlv hF hn5
  obtain ⟨P, hP⟩ : ∃ P, 7 ^ n = P := ⟨_, rfl⟩
  have hP1 : 1 ≤ P := by rw [← hP]; exact Nat.pow_pos (by decide)
  have hP2 : P ≤ 16807 := by rw [← hP]; exact pow7 hn5'
  have HP := Lib.hid hP
  have HZ := Lib.hid (show numN s < P by rw [← hP]; exact numN_lt' HSM.out HR.out)
  clear hP
  obtain ⟨i0, hinf, hz0, hz1, hz2⟩ := info_parts info_Int
  obtain ⟨fwd, hfwd⟩ : ∃ fwd, (!back) = fwd := ⟨_, rfl⟩
  rw [hfwd]
  have HFW := Lib.hid hfwd
  clear hfwd
  go_enter Try.func64, Try.ntmps64
  go_wp2
  go_loopw [9, 10] (fun lv i wr => ∃ k : Nat, k ≤ P ∧ i = .int .i64 k ∧ Own encInt wr w.heap.size 3 lv (List.replicate k (-1)) ∧ Below w.heap.size w wr) (fun _ i _ => P - (intOf i).toNat)
  case atStart => exact ⟨0, Nat.zero_le _, rfl, own_nil1 (Nat.le_refl _), bl_alloc (Below.refl _ _) _⟩
  case round =>
    obtain ⟨k, hk, rfl, ho, hbel⟩ := hrel
    have HO := Lib.hid ho
    have HBL := Lib.hid hbel
    have hsz := hbel.size
    clear ho hbel
    have hall := l16All_any n wr hn5'
    rw [HP.out] at hall
    have HALL := Lib.hid hall
    clear hall
    by_cases hlt : k < P
    · have k1 : (k : Int) < P := by omega
      go_wp2_with (first | (go_at_call 85; refine (HALL.out).mono ?_; rintro e w1 ⟨rfl, rfl⟩) | (at_builtin; refine halt ?_))
      unfold Halt
      refine wpList_app2 (E := encInt) rfl (.tmp 26) (.tmp 27) 26 rfl w.heap.size 3 i0 _ 8 Try.underlying26 hinf hz0 hz1 hz2 rfl (by decide) _ _ rfl HO.out (-1) #[.int .i64 (-1)] rfl rfl (by simp [maxLen]; omega) (by simp; omega) hsz ?_
      intro v1 w1 ho1 hb1
      have O1 := Lib.hid ho1
      have B1 := Lib.hid (HBL.out.trans (hb1 _ (Nat.le_refl _)))
      clear ho1 hb1
      go_wp2
      go_roundw
      case rel => exact ⟨k + 1, by omega, by go_num, by rw [List.replicate_succ']; exact O1.out, B1.out⟩
      case measure => simp [intOf]; omega
    · obtain rfl : k = P := by omega
      obtain ⟨Af, cf, hlv, hcf, _, _⟩ := HO.out.slice
      rw [List.length_replicate] at hlv hcf
      have ho := HO.out
      rw [hlv] at ho ⊢
      obtain ⟨gf, rfl⟩ := ho.some_ (by omega)
      have HO1 := Lib.hid ho
      clear HO hlv ho
      have hZ := HZ.out
      obtain ⟨hgw, d0⟩ := HO1.out.int (i := numN s) (x := -1) (by rw [List.getElem?_replicate, if_pos hZ])
      have f0 := HO1.out.thaw (numN s)
      have hgf : w.heap.size ≤ gf := HO1.out.lo ⟨gf, 0, none⟩ rfl
      have HNS := Lib.hid (l16Number_any s n HR.out R cr wr hn5' HSM.out (HS.out.past HBL.out))
      have HSET := Lib.hid (show (List.replicate k (-1 : Int)).set (numN s) 0 = farL (runTo (nbP g D fwd) D.length s 0) n by
        have := farL_set (L := []) (e := 0) rfl HSM.out HR.out
        rw [farL_nil, HP.out] at this
        exact this.symm)
      obtain ⟨Z, hZ'⟩ : ∃ Z, numN s = Z := ⟨_, rfl⟩
      rw [hZ'] at hZ d0 f0 HNS HSET
      clear hZ'
      have z1 : (Z : Int) < k := by omega
      have z2 : (0 : Int) ≤ Z := by omega
      go_wp2_with (first | (go_at_call 85; refine (HALL.out).mono ?_; rintro e w1 ⟨rfl, rfl⟩) | (go_at_call 65; refine (HNS.out).mono ?_; rintro e w1 ⟨rfl, rfl⟩))
      have OF0 := Lib.hid ((HO1.out.setInt hZ 0).past (bl_alloc (Below.refl (wr.setCell ⟨gf, Z, none⟩ (.int .i64 0)).heap.size (wr.setCell ⟨gf, Z, none⟩ (.int .i64 0))) (.cells #[.slice R n cr] 26)) (Nat.le_refl _))
      rw [HSET.out] at OF0
      have BS0 := Lib.hid (show Below w.heap.size w (wr.setCell ⟨gf, Z, none⟩ (.int .i64 0)) from HBL.out.setCell (p := ⟨gf, Z, none⟩) hgf _)
      have B0 := Lib.hid (bl_alloc BS0.out (.cells #[.slice R n cr] 26))
      have K := Lib.hid (fromG w.heap.size (.slice (some ⟨gf, 0, none⟩) k cf))
      have R0 := Lib.hid (RowG.one K.out BS0.out.size (u := .slice R n cr) (l := s) (.inl ⟨R, cr, by rw [HR.out], by rw [HR.out]; exact hcr, HS.out.below BS0.out⟩))
      clear d0 f0 HO1 HNS HALL HSET HBL hsz hgw
      rw [show (wr.setCell ⟨gf, Z, none⟩ (.int .i64 0)).heap.size = wr.heap.size by simp [World.setCell]] at R0
      generalize (wr.setCell ⟨gf, Z, none⟩ (.int .i64 0)).alloc (.cells #[.slice R n cr] 26) = W0 at OF0 B0 R0 ⊢
      obtain ⟨P, rfl⟩ : ∃ P, P = k := ⟨_, rfl⟩
      clear BS0
      go_loopw [11, 12] (fun lv i wr => ∃ a : Nat, i = .int .i64 a ∧ a ≤ (runTo (nbP g D fwd) D.length s a).length ∧ RowG (FromG w.heap.size (.slice (some ⟨gf, 0, none⟩) P cf)) wr w.heap.size lv ((runTo (nbP g D fwd) D.length s a).map (·.1)) ∧ Own encInt wr w.heap.size 3 (.slice (some ⟨gf, 0, none⟩) P cf) (farL (runTo (nbP g D fwd) D.length s a) n) ∧ Below w.heap.size w wr) (fun _ i _ => 16808 - (intOf i).toNat)
      case atStart => exact ⟨0, rfl, by simp, R0.out, OF0.out, B0.out⟩
      case round =>
        clear R0 OF0 B0
        obtain ⟨a, rfl, hal, hrow, hfar, hbel⟩ := hrel
        have hlen := run_le (D := D) (fwd := fwd) HG.out HLS.out a
        obtain ⟨RL, hRL⟩ : ∃ RL, runTo (nbP g D fwd) D.length s a = RL := ⟨_, rfl⟩
        have HRL := Lib.hid hRL
        rw [hRL] at hal hrow hfar hlen
        clear hRL
        obtain ⟨Al, cl, rfl, hcl, hAl⟩ := hrow.slice
        rw [List.length_map] at hcl hAl hrow ⊢
        obtain ⟨N, hN⟩ : ∃ N, RL.length = N := ⟨_, rfl⟩
        have HNL := Lib.hid hN
        rw [hN] at hal hcl hAl hrow hlen ⊢
        clear hN
        have HRW := Lib.hid hrow
        have HFR := Lib.hid hfar
        have HBL := Lib.hid hbel
        have hsz := hbel.size
        clear hfar hbel
        by_cases hlt : a < N
        · have k1 : (a : Int) < N := by omega
          have k4 : (0 : Int) ≤ a := by omega
          have e0 : RL[a]? = some (RL[a]'(by rw [HNL.out]; exact hlt)) := List.getElem?_eq_getElem _
          obtain ⟨⟨x, d⟩, hxd⟩ : ∃ p, RL[a]'(by rw [HNL.out]; exact hlt) = p := ⟨_, rfl⟩
          rw [hxd] at e0
          have HE := Lib.hid (show (runTo (nbP g D fwd) D.length s a)[a]? = some (x, d) by rw [HRL.out]; exact e0)
          have HNX := Lib.hid (show runTo (nbP g D fwd) D.length s (a + 1) = lookTo (nbP g D fwd) x d RL D.length by rw [runTo_succ_some HE.out, HRL.out])
          clear e0 hxd
          have hrd := round_of HG.out HLS.out HE.out (Nat.zero_le D.length)
          rw [show lookTo (nbP g D fwd) x d (runTo (nbP g D fwd) D.length s a) 0 = RL from HRL.out] at hrd
          have hxl := areLevels_len hrd.ok
          rw [HN.out] at hxl
          have hxs := areLevels_small HG.out hrd.ok
          obtain ⟨gl, rfl, hgl⟩ := hAl (by omega)
          obtain ⟨Ax, cx, c0, hcx, hsx, _⟩ := hrow.cell K.out hsz hrd.here
          rw [hxl] at c0 hcx
          have HNS := Lib.hid (l16Number_any x n hxl Ax cx wr hn5' hxs hsx)
          have hzx : numN x < P := by have := numN_lt' hxs hxl; rw [HP.out] at this; exact this
          have hat := farL_at (L := RL) hxs hxl
          rw [hrd.dist] at hat
          obtain ⟨hgw, d0⟩ := HFR.out.int hat
          obtain ⟨Z, hZ'⟩ : ∃ Z, numN x = Z := ⟨_, rfl⟩
          rw [hZ'] at hzx HNS d0
          have z1 : (Z : Int) < P := by omega
          have z2 : (0 : Int) ≤ Z := by omega
          clear hrow hrd hxs hxl hsx hat hZ' hAl
          go_wp2_with (go_at_call 65; refine (HNS.out).mono ?_; rintro e w1 ⟨rfl, rfl⟩)
          obtain ⟨wo, hwo⟩ : ∃ wo : World, wo = wr := ⟨_, rfl⟩
          subst hwo
          clear HNS c0 d0
          go_loopw [11, 14] (fun lv i wr => ∃ j : Nat, j ≤ m ∧ i = .int .i64 j ∧ RowG (FromG w.heap.size (.slice (some ⟨gf, 0, none⟩) P cf)) wr w.heap.size lv ((lookTo (nbP g D fwd) x d RL j).map (·.1)) ∧ Own encInt wr w.heap.size 3 (.slice (some ⟨gf, 0, none⟩) P cf) (farL (lookTo (nbP g D fwd) x d RL j) n) ∧ Below w.heap.size w wr) (fun _ i _ => m - (intOf i).toNat)
          case atStart => exact ⟨0, Nat.zero_le _, rfl, HRW.out, HFR.out, HBL.out⟩
          case round =>
            clear HRW HFR HBL hcl hsz hgw hgl hcx
            obtain ⟨j, hj, rfl, hrow, hfar, hbel⟩ := hrel
            have HRD := Lib.hid (show Round g D fwd s a x d (lookTo (nbP g D fwd) x d RL j) by rw [← HRL.out]; exact round_of HG.out HLS.out HE.out (by rw [HM.out]; exact hj))
            have HLJ := Lib.hid (show lookTo (nbP g D fwd) x d RL (j + 1) = look1 (lookTo (nbP g D fwd) x d RL j) d (nbP g D fwd j x) from rfl)
            have HEND := Lib.hid (show j = m → lookTo (nbP g D fwd) x d RL j = runTo (nbP g D fwd) D.length s (a + 1) from fun h => by rw [HNX.out, h, HM.out])
            obtain ⟨L, hL⟩ : ∃ L, lookTo (nbP g D fwd) x d RL j = L := ⟨_, rfl⟩
            rw [hL] at HRD HLJ HEND hrow hfar
            clear hL
            have hLl := HRD.out.len
            have hLa := HRD.out.lt
            have hds := HRD.out.small
            obtain ⟨Al, cl, rfl, hcl, hAl⟩ := hrow.slice
            rw [List.length_map] at hcl hAl hrow ⊢
            obtain ⟨NL, hNL⟩ : ∃ NL, L.length = NL := ⟨_, rfl⟩
            have HNJ := Lib.hid hNL
            rw [hNL] at hLl hLa hcl hAl hrow ⊢
            clear hNL
            obtain ⟨gl, rfl, hgl⟩ := hAl (by omega)
            have HRW := Lib.hid hrow
            have HFR := Lib.hid hfar
            have HBL := Lib.hid hbel
            have hsz := hbel.size
            clear hfar hbel hAl
            by_cases hjm : j < m
            · have k2 : (j : Int) < m := by omega
              have k3 : (0 : Int) ≤ j := by omega
              have k5 : (a : Int) < NL := by omega
              obtain ⟨p, q, hpq, hp, hq, hne, hmv⟩ := mvP_ends HFI.out (show j < D.length by rw [HM.out]; exact hjm) fwd x
              rw [HN.out] at hp hq
              obtain ⟨db, dof, rfl, hdb, hds'⟩ := (HD.out.past HBL.out).ditch (by rw [HM.out]; omega)
              obtain ⟨e0, e1⟩ := hds' j _ hpq
              dsimp only at e0 e1
              have hxl := areLevels_len HRD.out.ok
              rw [HN.out] at hxl
              obtain ⟨Ax, cx, c0, hcx, hsx, _⟩ := hrow.cell K.out hsz HRD.out.here
              rw [hxl] at c0 hcx
              have HSX := Lib.hid hsx
              have HXL := Lib.hid hxl
              have HXS := Lib.hid (areLevels_small HG.out HRD.out.ok)
              clear hds' hpq hrow hsx hxl
              obtain ⟨p', q', Y, hp', hq', hne', hY, hYv⟩ : ∃ (p' q' : Nat) (Y : List Int), p' < n ∧ q' < n ∧ p' ≠ q' ∧ mv x p' q' = Y ∧ mvP D fwd j x = Y ∧ (if back then p' = q ∧ q' = p else p' = p ∧ q' = q) := by
                have hb := HFW.out
                cases back
                · subst hb; exact ⟨p, q, _, hp, hq, hne, rfl, by rw [hmv]; rfl, by simp⟩
                · subst hb; exact ⟨q, p, _, hq, hp, hne.symm, rfl, by rw [hmv]; rfl, by simp⟩
              obtain ⟨hmvY, hpq'⟩ := hYv
              obtain ⟨Q, hQ⟩ : ∃ Q, areLevels g Y = Q := ⟨_, rfl⟩
              obtain ⟨M, hM'⟩ : ∃ M, (dOf L Y).isSome = M := ⟨_, rfl⟩
              have HNB := Lib.hid (show nbP g D fwd j x = if Q = true then some Y else none by rw [nbP, hmvY, hQ])
              have HYL := Lib.hid (show Y.length = n by rw [← hY, mv_length]; exact HXL.out)
              have HY := Lib.hid hY
              have HQ := Lib.hid hQ
              have HMM := Lib.hid hM'
              have HPQ := Lib.hid hpq'
              clear hmv hmvY hQ hM' hne hY hpq'
              have HK := Lib.hid (Blk.new wr 84 #[.int .i64 p, .int .i64 q])
              cases back
              case' false =>
                obtain ⟨rfl, rfl⟩ : p' = p ∧ q' = q := by simpa using HPQ.out
                go_upto_region 18 with (fail)
                refine wp_name (fun W1 hW1 => ?_)
                have HB1 := Lib.hid (show Below wr.heap.size wr W1 by rw [hW1]; exact (by repeat (first | assumption | exact Below.refl _ _ | apply bl_gw | apply bl_alloc | apply bl_drewN | apply bl_drew)))
                have HK1 := Lib.hid (show Blk W1 wr.heap.size 84 #[.int .i64 p', .int .i64 q'] by rw [hW1]; exact HK.out)
                clear hW1
              case' true =>
                obtain ⟨rfl, rfl⟩ : p' = q ∧ q' = p := by simpa using HPQ.out
                go_upto_region 17 with (fail)
                refine wp_region_tail 11 (by kernel_rfl) (by kernel_rfl) (fun W hW hWc hWf hWs => ?_)
                have HW := Lib.hid hW; clear hW
                simp only [List.take_succ_cons, List.take_zero, List.drop_succ_cons, List.drop_zero]
                repeat still_step
                refine wpStill_nil ?_
                go_upto_region 18 with (fail)
                refine wp_name (fun W1 hW1 => ?_)
                have HB1 := Lib.hid (show Below wr.heap.size wr W1 by rw [hW1, HW.out]; exact (((bl_alloc (Below.refl wr.heap.size wr) (.cells #[.int .i64 q', .int .i64 p'] 84)).drew).setCell (p := ⟨wr.heap.size, 0, none⟩) (Nat.le_refl _) _).setCell (p := ⟨wr.heap.size, 1, none⟩) (Nat.le_refl _) _)
                have HK1 := Lib.hid (show Blk W1 wr.heap.size 84 #[.int .i64 p', .int .i64 q'] by rw [hW1, HW.out]; exact (HK.out.set_ 0 _).set_ 1 _)
                clear hW1
              all_goals
                have F1 := Lib.hid (HFR.out.past HB1.out (Nat.le_refl _))
                have R1 := Lib.hid (HRW.out.past K.out hsz HB1.out (Nat.le_refl _))
                have B1 := Lib.hid (HBL.out.trans (HB1.out.mono hsz))
                have S1 := Lib.hid (HSX.out.past HB1.out)
                have c1 := (HB1.out.cell (p := ⟨gl, a, none⟩) hgl).trans c0
                have hgl1 : gl < W1.heap.size := by have := HB1.out.size; omega
                have hz1 := B1.out.size
                have r0 : W1.cell? ⟨wr.heap.size, 0, none⟩ = some (.int .i64 p') := HK1.out.cell 0
                have r1 : W1.cell? ⟨wr.heap.size, 1, none⟩ = some (.int .i64 q') := HK1.out.cell 1
                have hkl := HK1.out.lt
                have hgfl : gf < W1.heap.size := F1.out.hi ⟨gf, 0, none⟩ rfl
                clear HK HK1 HFR HRW HBL HSX c0 e0 e1 hdb hsz hgl
                go_region_with (go_at_call 66; refine (l16Moved_any x n HXL.out _ _ p' q' _ hl hp' hq' hne' HXS.out (S1.out.past (by repeat (first | assumption | exact Below.refl _ _ | apply bl_gw | apply bl_alloc | apply bl_drewN | apply bl_drew)))).mono ?_; rintro e w3 ⟨v3, rfl, o3, b3⟩; rw [HY.out] at o3; obtain ⟨A4, c4, rfl, _, _, _⟩ := o3.slice; rw [HYL.out] at o3 ⊢; have hb3 := below_step (show Below W1.heap.size W1 _ from (by repeat (first | assumption | exact Below.refl _ _ | apply bl_gw | apply bl_alloc | apply bl_drewN | apply bl_drew))) b3; have O3 := Lib.hid (o3.lower (b := W1.heap.size) (by simp)); clear o3 b3; have HB3 := Lib.hid hb3; clear hb3)
                all_goals
                  have F3 := Lib.hid (F1.out.past HB3.out (Nat.le_refl _))
                  have R3 := Lib.hid (R1.out.past K.out hz1 HB3.out (Nat.le_refl _))
                  have B3 := Lib.hid (B1.out.trans (HB3.out.mono hz1))
                  have hz3 := B3.out.size
                  clear F1 R1 B1 S1 c1 r0 r1 hkl HB3
                  go_wp2_with fail
                  refine (l16Levels_any g Y n n HN.out HYL.out _ _ _ _ _ hl hl (HC.out.past B3.out) O3.out.rd).mono ?_
                  rintro e w4 ⟨rfl, b4⟩
                  rw [HQ.out]
                  have F4 := Lib.hid (F3.out.past b4 (Nat.le_refl _))
                  have R4 := Lib.hid (R3.out.past K.out hz3 b4 (Nat.le_refl _))
                  have B4 := Lib.hid (below_step B3.out b4)
                  have O4 := Lib.hid (O3.out.past b4 (Nat.le_refl _))
                  have hz4 := B4.out.size
                  clear b4 F3 R3 O3 B3 hz3
                  cases Q
                  · have HL2 := Lib.hid (HLJ.out.trans (look_skip (d := d) HNB.out HMM.out (.inl rfl)))
                    go_wp2
                    go_roundw
                    case rel => exact ⟨j + 1, by omega, by go_num, by rw [HL2.out]; exact R4.out, by rw [HL2.out]; exact F4.out, B4.out⟩
                    case measure => simp [intOf]; omega
                  · have hys := areLevels_small HG.out HQ.out
                    have hzy : numN Y < P := by have := numN_lt' hys HYL.out; rw [HP.out] at this; exact this
                    have HNS := Lib.hid (l16Number_any Y n HYL.out A4 c4 w4 hn5' hys O4.out.rd)
                    have hat := farL_at (L := L) hys HYL.out
                    cases M
                    · have hno : dOf L Y = none := by simpa using HMM.out
                      rw [hno] at hat
                      dsimp only at hat
                      obtain ⟨hgw, d0⟩ := F4.out.int hat
                      have f0 := F4.out.thaw (numN Y)
                      have HL2 := Lib.hid (HLJ.out.trans (look_take HNB.out hno))
                      have F5 := F4.out.setInt hzy ((d + 1 : Nat) : Int)
                      rw [← farL_set hno hys HYL.out] at F5
                      have HF5 := Lib.hid F5
                      have HR5 := Lib.hid (R4.out.setFar (i := numN Y) (z := .int .i64 ((d + 1 : Nat) : Int)) hz4 F4.out)
                      have HB5 := Lib.hid (B4.out.setCell (p := ⟨gf, numN Y, none⟩) hgf (.int .i64 ((d + 1 : Nat) : Int)))
                      have hap : ∀ k, (Value.slice A4 n c4).ownBlock = some k → (Value.slice (some ⟨gf, 0, none⟩) P cf).ownBlock ≠ some k := fun k hk e => by
                        have := O4.out.row k hk
                        simp [Value.ownBlock] at e
                        omega
                      have HG5 := Lib.hid (show FromG w.heap.size (.slice (some ⟨gf, 0, none⟩) P cf) (w4.setCell ⟨gf, numN Y, none⟩ (.int .i64 ((d + 1 : Nat) : Int))) (.slice A4 n c4) Y from
                        .inr ⟨(O4.out.lower hz1).grown (row := some gf) ⟨rfl, rfl, rfl, by simp [World.setCell], fun k _ hk => Below.heap_setCell w4 ⟨gf, numN Y, none⟩ _ k (fun e => hk (by simp at e; rw [e]))⟩ (fun k hk => hap k hk), hap⟩)
                      rw [Int.natCast_add, Int.natCast_one] at HF5 HR5 HB5 HG5
                      clear F5 hap hat hys hno
                      obtain ⟨Z, hZ'⟩ : ∃ Z, numN Y = Z := ⟨_, rfl⟩
                      rw [hZ'] at hzy HNS d0 f0 HF5 HR5 HB5 HG5
                      clear hZ'
                      have z1 : (Z : Int) < P := by omega
                      have z2 : (0 : Int) ≤ Z := by omega
                      have hwd : IntKind.i64.wrap ((d : Int) + 1) = (d : Int) + 1 := IntWalk.i64_in _ (by omega)
                      go_wp2_with (first | (go_at_call 65; refine (HNS.out).mono ?_; rintro e w1 ⟨rfl, rfl⟩) | (at_builtin; refine halt ?_))
                      unfold Halt
                      refine wpList_appR (v := .slice (some ⟨gl, 0, none⟩) NL cl) (ls := L.map (·.1)) K.out rfl (.tmp 93) (.tmp 95) rfl HB5.out.size rfl HR5.out _ Y (by rw [show (w4.setCell ⟨gf, Z, none⟩ (.int .i64 ((d : Int) + 1))).heap.size = w4.heap.size by simp [World.setCell]]; rfl) HG5.out (by rw [List.length_map, HNJ.out]; omega) ?_
                      intro v6 w6 hR6 hB6 _ hO6
                      have R6 := Lib.hid hR6
                      have F6 := Lib.hid (hO6 _ _ HF5.out)
                      have B6 := Lib.hid (HB5.out.trans (hB6 _ (Nat.le_refl _)))
                      clear hR6 hB6 hO6
                      go_wp2
                      go_roundw
                      case rel => exact ⟨j + 1, by omega, by go_num, by rw [HL2.out, List.map_append]; exact R6.out, by rw [HL2.out]; exact F6.out, B6.out⟩
                      case measure => simp [intOf]; omega
                    · obtain ⟨d', hd'⟩ := Option.isSome_iff_exists.1 HMM.out
                      rw [hd'] at hat
                      dsimp only at hat
                      obtain ⟨hgw, d0⟩ := F4.out.int hat
                      have HL2 := Lib.hid (HLJ.out.trans (look_skip (d := d) HNB.out HMM.out (.inr rfl)))
                      clear hat hys hd'
                      obtain ⟨Z, hZ'⟩ : ∃ Z, numN Y = Z := ⟨_, rfl⟩
                      rw [hZ'] at hzy HNS d0
                      clear hZ'
                      have z1 : (Z : Int) < P := by omega
                      have z2 : (0 : Int) ≤ Z := by omega
                      have z3 : ¬ (d' : Int) < 0 := by omega
                      go_wp2_with (go_at_call 65; refine (HNS.out).mono ?_; rintro e w1 ⟨rfl, rfl⟩)
                      go_roundw
                      case rel => exact ⟨j + 1, by omega, by go_num, by rw [HL2.out]; exact R4.out, by rw [HL2.out]; exact F4.out, B4.out⟩
                      case measure => simp [intOf]; omega
            · obtain rfl : j = m := by omega
              have HE2 := HEND.out rfl
              go_wp2
              go_roundw
              case rel => exact ⟨a + 1, by go_num, by rw [← HE2, HNJ.out]; omega, by rw [← HE2]; exact HRW.out, by rw [← HE2]; exact HFR.out, HBL.out⟩
              case measure => simp [intOf]; omega
        · obtain rfl : a = N := by omega
          have hfin := fin_of (D := D) (fwd := fwd) HG.out HLS.out (a := a) (by rw [HRL.out, HNL.out])
          rw [HRL.out] at hfin
          go_wp2
          go_ret
          rw [← hfin]
          exact ⟨_, rfl, HFR.out, HBL.out⟩
end Go.Proofs.Ytbedepmcecdhfaa
