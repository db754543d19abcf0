/- The program's search: all levels that are reached, and the map of their distances. -/
import Derived.Test.YtbedepmcecdhfaaRowsG
import Derived.Test.YtbedepmcecdhfaaPlanA
import Derived.Deep.RegionWith
namespace Go.Proofs.Ytbedepmcecdhfaa
open Go.RowKit
section
variable {nb : Nat → List Int → Option (List Int)} {m a d : Nat} {s x : List Int}
theorem mid_run (e : (runTo nb m s a)[a]? = some (x, d)) {j : Nat} (hj : j ≤ m) : Mid nb m s a x d j (lookTo nb x d (runTo nb m s a) j) := by
  have h := found_run nb m s a
  have h0 : Mid nb m s a x d 0 (runTo nb m s a) := ⟨h.keys, h.rising, e, h.next _ e, h.shut, fun k y hk => by omega, h.before, h.low, h.first⟩
  exact h0.upTo j hj
theorem look_le {L : List (List Int × Nat)} {j : Nat} : ∀ i, ∃ r, lookTo nb x d L (j + i) = lookTo nb x d L j ++ r
  | 0 => ⟨[], by simp⟩
  | i + 1 => by
    obtain ⟨r, hr⟩ := look_le (L := L) (j := j) i
    obtain ⟨r', hr'⟩ := look1_prefix (lookTo nb x d L (j + i)) d (nb (j + i) x)
    exact ⟨r ++ r', by rw [← Nat.add_assoc, lookTo, hr', hr, List.append_assoc]⟩
theorem look_next (e : (runTo nb m s a)[a]? = some (x, d)) {j : Nat} (hj : j ≤ m) : ∃ r, runTo nb m s (a + 1) = lookTo nb x d (runTo nb m s a) j ++ r := by
  obtain ⟨r, hr⟩ := look_le (nb := nb) (x := x) (d := d) (L := runTo nb m s a) (j := j) (m - j)
  rw [show j + (m - j) = m by omega] at hr
  exact ⟨r, by rw [runTo_succ_some e, hr]⟩
end
/-- Behind j neighbours of the a-th. -/
structure Round (g : List Gauge) (D : List Ditch) (fwd : Bool) (s : List Int) (a : Nat) (x : List Int) (d : Nat) (L : List (List Int × Nat)) : Prop where
  here : (L.map (·.1))[a]? = some x
  dist : dOf L x = some d
  val : valOf L x = d
  len : L.length ≤ 16807
  lt : a < L.length
  small : d ≤ 16807
  ok : areLevels g x = true
theorem round_of {g : List Gauge} {D : List Ditch} {fwd : Bool} {s x : List Int} {a d j : Nat} (hg : areGauges g = true) (hs : areLevels g s = true) (e : (runTo (nbP g D fwd) D.length s a)[a]? = some (x, d)) (hj : j ≤ D.length) :
    Round g D fwd s a x d (lookTo (nbP g D fwd) x d (runTo (nbP g D fwd) D.length s a) j) := by
  have hM := mid_run e hj
  obtain ⟨r, hr⟩ := look_next e hj
  have hl := run_le (D := D) (fwd := fwd) hg hs (a + 1)
  rw [hr, List.length_append] at hl
  have hd := (dOf_some hM.keys).2 (List.mem_of_getElem? hM.here)
  have hlt := (List.getElem?_eq_some_iff.1 hM.here).1
  have hlow := hM.low _ _ hM.here
  refine ⟨by rw [List.getElem?_map, hM.here]; rfl, hd, by unfold valOf; rw [hd], by omega, hlt, by simp only at hlow; omega, ?_⟩
  exact run_ok hs a _ (List.mem_of_getElem? e)
theorem look_skip {L : List (List Int × Nat)} {d : Nat} {o : Option (List Int)} {y : List Int} {q met : Bool} (ho : o = if q = true then some y else none) (hm : (dOf L y).isSome = met) (h : q = false ∨ met = true) : look1 L d o = L := by
  subst ho
  unfold look1
  rcases h with h | h
  · subst h; rfl
  · subst h
    cases q
    · rfl
    · obtain ⟨d', hd⟩ := Option.isSome_iff_exists.1 hm
      simp [hd]
theorem look_take {L : List (List Int × Nat)} {d : Nat} {o : Option (List Int)} {y : List Int} (ho : o = some y) (hm : dOf L y = none) : look1 L d o = L ++ [(y, d + 1)] := by
  subst ho
  unfold look1
  simp [hm]
theorem mvP_ends {g : List Gauge} {D : List Ditch} (hF : isField g D = true) {k : Nat} (hk : k < D.length) (fwd : Bool) (x : List Int) :
    ∃ a b : Nat, D[k]? = some ⟨a, b⟩ ∧ a < g.length ∧ b < g.length ∧ a ≠ b ∧ mvP D fwd k x = if fwd then mv x a b else mv x b a := by
  obtain ⟨_, _, hD⟩ := isField_at hF
  obtain ⟨a, b, h1, h2, h3, h4⟩ := hD k hk
  refine ⟨a, b, h1, h2, h3, h4, ?_⟩
  unfold mvP
  rw [List.getElem!_of_getElem? h1]
  rfl
set_option maxRecDepth 4000 in
set_option maxHeartbeats 16000000 in
theorem search_any (g : List Gauge) (D : List Ditch) (s : List Int) (fwd : Bool) (n m : Nat) (hn : g.length = n) (hm : D.length = m) (hr : s.length = n) (A A' R : Option Addr) (cap cap' cr : Nat) (w : World) (hl : n ≤ 1048576) (hl' : m ≤ 1048576)
    (hF : isField g D = true) (hlv : areLevels g s = true) (hc : Sl encGauge w w.heap.size A g) (hd : Sl encDitch w w.heap.size A' D) (hs : Sl encInt w w.heap.size R s) :
    Calls Try.prog 58 #[.slice A n cap, .slice A' m cap', .slice R n cr, .bool fwd] w fun e w' => ∃ v bm, e = .returned (.tuple #[v, .map (some bm)]) ∧ RowG (OwnG w.heap.size) w' w.heap.size v ((finP g D s fwd).map (·.1)) ∧ IsFar w' bm n (finP g D s fwd) ∧ w.heap.size ≤ bm ∧ Below w.heap.size w w' := by
  have HC := Lib.hid hc; clear hc
  have HD := Lib.hid hd; clear hd
  have HS := Lib.hid hs; clear hs
  have HN := Lib.hid hn; clear hn
  have HM := Lib.hid hm; clear hm
  have HR := Lib.hid hr; clear hr
  have hg := (isField_at hF).1.1
  have hn5 := areGauges_len hg
  rw [HN.out] at hn5
  have HG := Lib.hid hg
  have HLS := Lib.hid hlv
  have HFI := Lib.hid hF
  have HSM := Lib.hid (areLevels_small hg hlv)
  have hn1 := hn5.1
  have hn5' := hn5.2
  clear hg hlv hF hn5
  have hmm := @run_makeMap Try.prog
  have K := Lib.hid (ownG w.heap.size)
  go_enter Try.func58, Try.ntmps58
  go_wp2_with fail
  refine (keyOf_any s n HR.out _ _ _ hn1 hn5' (HS.out.past (by repeat (first | assumption | exact Below.refl _ _ | apply bl_gw | apply bl_alloc | apply bl_drewN | apply bl_drew)))).mono ?_
  rintro e w1 ⟨rfl, b1⟩
  have F1 := (IsFar.made w n).past b1 (Nat.le_refl _)
  have B1 := Lib.hid (below_step (show Below w.heap.size w (w.alloc (.map #[] 0)) from bl_alloc (Below.refl _ _) _) b1)
  obtain ⟨w2, hrun, F2, g2⟩ := F1.put (y := s) (d := 0) hn5' HR.out HSM.out.near rfl (by omega) (by simp)
  have F2 := Lib.hid F2
  have B2 := Lib.hid (B1.out.grown g2 B1.out.size (fun k hk => by injection hk with hk; omega))
  have hrun' : (Instr.mapUpdate 78 (.map (some w.heap.size)) (keyV s) (.int .i64 0)).run Try.prog w1 = .ok () w2 := hrun
  clear F1 hrun g2 b1
  go_wp2_with fail
  refine (cloneInt_any s n HR.out _ _ _ hl (HS.out.past B2.out)).mono ?_
  rintro e w3 ⟨v3, rfl, o3, b3⟩
  obtain ⟨A3, c3, rfl, _, _, _⟩ := o3.slice
  rw [HR.out] at o3 ⊢
  have B3 := Lib.hid (below_step B2.out b3)
  have F3 := Lib.hid (F2.out.past b3 (Nat.le_refl _))
  have R4 := Lib.hid (RowG.one K.out B3.out.size (show OwnG w.heap.size w3 (.slice A3 n c3) s from o3.lower B2.out.size))
  have F4 := Lib.hid (F3.out.past (bl_alloc (Below.refl w3.heap.size w3) (.cells #[.slice A3 n c3] 26)) (Nat.le_refl _))
  have B4 := Lib.hid (bl_alloc B3.out (.cells #[.slice A3 n c3] 26))
  clear o3 b3 F2 B2 F3 B1 hrun'
  obtain ⟨bm, hbm⟩ : ∃ bm, w.heap.size = bm := ⟨_, rfl⟩
  have hbm' : w.heap.size ≤ bm := by omega
  rw [hbm] at F4
  go_wp2
  clear hbm
  go_loopw [11, 12] (fun lv i wr => ∃ a : Nat, i = .int .i64 a ∧ a ≤ (runTo (nbP g D fwd) D.length s a).length ∧ RowG (OwnG w.heap.size) wr w.heap.size lv ((runTo (nbP g D fwd) D.length s a).map (·.1)) ∧ IsFar wr bm n (runTo (nbP g D fwd) D.length s a) ∧ Below w.heap.size w wr) (fun _ i _ => 16808 - (intOf i).toNat)
  case atStart => exact ⟨0, rfl, by simp, R4.out, F4.out, B4.out⟩
  case round =>
    clear R4 F4 B4 B3
    obtain ⟨a, rfl, hal, hrow, hfar, hbel⟩ := hrel
    have hlen := run_le (D := D) (fwd := fwd) HG.out HLS.out a
    obtain ⟨RL, hRL⟩ : ∃ RL, runTo (nbP g D fwd) D.length s a = RL := ⟨_, rfl⟩
    have HRL := Lib.hid hRL
    rw [hRL] at hal hrow hfar hlen
    clear hRL
    obtain ⟨Al, cl, rfl, hcl, hAl⟩ := hrow.slice
    rw [List.length_map] at hcl hAl hrow ⊢
    obtain ⟨N, hN⟩ : ∃ N, RL.length = N := ⟨_, rfl⟩
    have HNL := Lib.hid hN
    rw [hN] at hal hcl hAl hrow hlen ⊢
    clear hN
    have HRW := Lib.hid hrow
    have HFR := Lib.hid hfar
    have HBL := Lib.hid hbel
    have hsz := hbel.size
    clear hrow hfar hbel
    by_cases hlt : a < N
    · have k1 : (a : Int) < N := by omega
      have e0 : RL[a]? = some (RL[a]'(by rw [HNL.out]; exact hlt)) := List.getElem?_eq_getElem _
      obtain ⟨⟨x, d⟩, hxd⟩ : ∃ p, RL[a]'(by rw [HNL.out]; exact hlt) = p := ⟨_, rfl⟩
      rw [hxd] at e0
      have HE := Lib.hid (show (runTo (nbP g D fwd) D.length s a)[a]? = some (x, d) by rw [HRL.out]; exact e0)
      have HNX := Lib.hid (show runTo (nbP g D fwd) D.length s (a + 1) = lookTo (nbP g D fwd) x d RL D.length by rw [runTo_succ_some HE.out, HRL.out])
      clear e0 hxd
      go_wp2
      obtain ⟨wo, hwo⟩ : ∃ wo : World, wo = wr := ⟨_, rfl⟩
      subst hwo
      go_loopw [11, 36] (fun lv i wr => ∃ j : Nat, j ≤ m ∧ i = .int .i64 j ∧ RowG (OwnG w.heap.size) wr w.heap.size lv ((lookTo (nbP g D fwd) x d RL j).map (·.1)) ∧ IsFar wr bm n (lookTo (nbP g D fwd) x d RL j) ∧ Below w.heap.size w wr) (fun _ i _ => m - (intOf i).toNat)
      case atStart => exact ⟨0, Nat.zero_le _, rfl, HRW.out, HFR.out, HBL.out⟩
      case round =>
        clear HRW HFR HBL hcl hAl hsz
        obtain ⟨j, hj, rfl, hrow, hfar, hbel⟩ := hrel
        have HRD := Lib.hid (show Round g D fwd s a x d (lookTo (nbP g D fwd) x d RL j) by rw [← HRL.out]; exact round_of HG.out HLS.out HE.out (by rw [HM.out]; exact hj))
        have HLJ := Lib.hid (show lookTo (nbP g D fwd) x d RL (j + 1) = look1 (lookTo (nbP g D fwd) x d RL j) d (nbP g D fwd j x) from rfl)
        have HEND := Lib.hid (show j = m → lookTo (nbP g D fwd) x d RL j = runTo (nbP g D fwd) D.length s (a + 1) from fun h => by rw [HNX.out, h, HM.out])
        obtain ⟨L, hL⟩ : ∃ L, lookTo (nbP g D fwd) x d RL j = L := ⟨_, rfl⟩
        rw [hL] at HRD HLJ HEND hrow hfar
        clear hL
        have hLl := HRD.out.len
        have hLa := HRD.out.lt
        have hds := HRD.out.small
        obtain ⟨Al, cl, rfl, hcl, hAl⟩ := hrow.slice
        rw [List.length_map] at hcl hAl hrow ⊢
        obtain ⟨NL, hNL⟩ : ∃ NL, L.length = NL := ⟨_, rfl⟩
        have HNJ := Lib.hid hNL
        rw [hNL] at hLl hLa hcl hAl hrow ⊢
        clear hNL
        obtain ⟨gl, rfl, hgl⟩ := hAl (by omega)
        have HRW := Lib.hid hrow
        have HFR := Lib.hid hfar
        have HBL := Lib.hid hbel
        have hsz := hbel.size
        clear hfar hbel hAl
        by_cases hjm : j < m
        · have k2 : (j : Int) < m := by omega
          have k3 : (0 : Int) ≤ j := by omega
          have k4 : (0 : Int) ≤ a := by omega
          have k5 : (a : Int) < NL := by omega
          obtain ⟨p, q, hpq, hp, hq, hne, hmv⟩ := mvP_ends HFI.out (show j < D.length by rw [HM.out]; exact hjm) fwd x
          rw [HN.out] at hp hq
          obtain ⟨db, dof, rfl, hdb, hds'⟩ := (HD.out.past HBL.out).ditch (by rw [HM.out]; omega)
          obtain ⟨e0, e1⟩ := hds' j _ hpq
          dsimp only at e0 e1
          have hxl := areLevels_len HRD.out.ok
          rw [HN.out] at hxl
          obtain ⟨Ax, cx, c0, hcx, hsx, _⟩ := hrow.cell K.out hsz HRD.out.here
          rw [hxl] at c0 hcx
          have HSX := Lib.hid hsx
          have HXL := Lib.hid hxl
          have HXS := Lib.hid (areLevels_small HG.out HRD.out.ok)
          clear hds' hpq hrow hsx hxl
          obtain ⟨p', q', Y, hp', hq', hne', hY, hYv⟩ : ∃ (p' q' : Nat) (Y : List Int), p' < n ∧ q' < n ∧ p' ≠ q' ∧ mv x p' q' = Y ∧ mvP D fwd j x = Y ∧ (if fwd then p' = p ∧ q' = q else p' = q ∧ q' = p) := by
            cases fwd
            · exact ⟨q, p, _, hq, hp, hne.symm, rfl, by rw [hmv]; rfl, by simp⟩
            · exact ⟨p, q, _, hp, hq, hne, rfl, by rw [hmv]; rfl, by simp⟩
          obtain ⟨hmvY, hpq'⟩ := hYv
          obtain ⟨Q, hQ⟩ : ∃ Q, areLevels g Y = Q := ⟨_, rfl⟩
          obtain ⟨M, hM'⟩ : ∃ M, (dOf L Y).isSome = M := ⟨_, rfl⟩
          obtain ⟨z, hz⟩ : ∃ z, valOf L Y = z := ⟨_, rfl⟩
          have HNB := Lib.hid (show nbP g D fwd j x = if Q = true then some Y else none by rw [nbP, hmvY, hQ])
          have HYL := Lib.hid (show Y.length = n by rw [← hY, mv_length]; exact HXL.out)
          have HYN := Lib.hid (show NearIn Y by rw [← hY]; exact near_mv HXS.out (by rw [HXL.out]; exact hp') (by rw [HXL.out]; exact hq') hne')
          have HY := Lib.hid hY
          have HQ := Lib.hid hQ
          have HMM := Lib.hid hM'
          have HZ := Lib.hid hz
          clear hmv hmvY hQ hM' hz hne hY
          have HP := Lib.hid hpq'
          clear hpq'
          go_upto_region 9 with (fail)
          refine wp_region_gw (by kernel_rfl) (by kernel_rfl) ?_
          repeat (first | go_big_quiet_step ((fail)) | quiet_step ((fail)))
          refine wpQuiet_nil ?_
          rintro _ ⟨pq, rfl⟩
          cases fwd
          case' false => obtain ⟨rfl, rfl⟩ : p' = q ∧ q' = p := by simpa using HP.out
          case' true => obtain ⟨rfl, rfl⟩ : p' = p ∧ q' = q := by simpa using HP.out
          all_goals
            go_wp2_with fail
            refine (moved_any g x n n HN.out HXL.out _ _ _ _ _ _ _ hl hl hp' hq' hne' HXS.out ((HC.out.past HBL.out).past (by repeat (first | assumption | exact Below.refl _ _ | apply bl_gw | apply bl_alloc | apply bl_drewN | apply bl_drew))) (HSX.out.past (by repeat (first | assumption | exact Below.refl _ _ | apply bl_gw | apply bl_alloc | apply bl_drewN | apply bl_drew)))).mono ?_
            rintro e w3' ⟨v3, rfl, o3, b3⟩
            rw [HY.out] at o3 ⊢
            rw [HQ.out]
            obtain ⟨A4, c4, rfl, _, _, _⟩ := o3.slice
            rw [HYL.out] at o3 ⊢
            have hb3 := below_step (show Below wr.heap.size wr _ from (by repeat (first | assumption | exact Below.refl _ _ | apply bl_gw | apply bl_alloc | apply bl_drewN | apply bl_drew))) b3
            have O3 := Lib.hid (o3.lower (b := w.heap.size) (by simp; omega))
            have R3 := Lib.hid (HRW.out.past K.out hsz hb3 (Nat.le_refl _))
            have F3 := Lib.hid (HFR.out.past hb3 (Nat.le_refl _))
            have B3 := Lib.hid (HBL.out.trans (hb3.mono hsz))
            have S3 := Lib.hid (HSX.out.past hb3)
            have c1 := (hb3.cell (p := ⟨gl, a, none⟩) hgl).trans c0
            have hz3 := B3.out.size
            have hgl3 : gl < w3'.heap.size := by have := hb3.size; omega
            clear o3 b3 hb3 c0 e0 e1 hdb hsz hgl HRW HFR HBL HSX HC HD
            go_wp2_with fail
            refine (keyOf_any Y n HYL.out _ _ _ hn1 hn5' O3.out.rd).mono ?_
            rintro e w4 ⟨rfl, b4⟩
            have O4 := Lib.hid (O3.out.past b4 (Nat.le_refl _))
            have R4 := Lib.hid (R3.out.past K.out hz3 b4 (Nat.le_refl _))
            have F4 := Lib.hid (F3.out.past b4 (Nat.le_refl _))
            have B4 := Lib.hid (below_step B3.out b4)
            have S4 := Lib.hid (S3.out.past b4)
            have c2 := (b4.cell (p := ⟨gl, a, none⟩) hgl3).trans c1
            have hz4 := B4.out.size
            have hgl4 : gl < w4.heap.size := by have := b4.size; omega
            have hlk := F4.out.lookOk HYL.out HYN.out
            rw [HZ.out, HMM.out] at hlk
            clear b4 c1 hgl3 hz3 O3 R3 F3 B3 S3
            have HSK := Lib.hid (fun h => look_skip (d := d) HNB.out HMM.out h)
            rcases (show Q = false ∨ (Q = true ∧ M = true) ∨ (Q = true ∧ M = false) by cases Q <;> cases M <;> simp) with rfl | ⟨rfl, rfl⟩ | ⟨rfl, rfl⟩
            · have HL2 := Lib.hid (HLJ.out.trans (HSK.out (.inl rfl)))
              go_wp2
              go_roundw
              case rel => exact ⟨j + 1, by omega, by go_num, by rw [HL2.out]; exact R4.out, by rw [HL2.out]; exact F4.out, B4.out⟩
              case measure => simp [intOf]; omega
            · have HL2 := Lib.hid (HLJ.out.trans (HSK.out (.inr rfl)))
              go_wp2
              go_roundw
              case rel => exact ⟨j + 1, by omega, by go_num, by rw [HL2.out]; exact R4.out, by rw [HL2.out]; exact F4.out, B4.out⟩
              case measure => simp [intOf]; omega
            · have hno : dOf L Y = none := by simpa using HMM.out
              have HL2 := Lib.hid (HLJ.out.trans (look_take HNB.out hno))
              obtain ⟨U, hU⟩ := Classical.skolem.1 (fun p : GP => (F4.out.gw p).put (y := Y) (d := d + 1) hn5' HYL.out HYN.out hno (by omega) (by rw [HNJ.out]; omega))
              have hUe : ∀ p, (Instr.mapUpdate 78 (.map (some bm)) (keyV Y) (.int .i64 ((d : Int) + 1))).run Try.prog (gw w4 p) = .ok () (U p) := fun p => (hU p).1
              have hgp : ∀ p, w4.heap.size ≤ (gw w4 p).heap.size := fun p => by simp
              have HUB := Lib.hid (fun p => show Below w.heap.size w (U p) from (bl_gw B4.out p).grown (hU p).2.2 (by have := hgp p; omega) (fun k hk => by injection hk with hk; omega))
              have HUR := Lib.hid (fun p => show RowG (OwnG w.heap.size) (U p) w.heap.size _ _ from
                RowG.farWritten K.out (by have := hgp p; omega) (R4.out.past K.out hz4 (gw_below w4 p (Nat.le_refl _)) (Nat.le_refl _)) (F4.out.gw p) hbm' (hU p).2.2)
              have HUO := Lib.hid (fun p => show OwnG w.heap.size (U p) _ _ from own_noInts (O4.out.past (gw_below w4 p (Nat.le_refl _)) (Nat.le_refl _)) (hU p).2.2 (far_noInts (F4.out.gw p) hbm'))
              have HUF := Lib.hid (fun p => (hU p).2.1)
              have hL2 : ∀ p, (Instr.lookup 78 (.map (some bm)) (keyV x) false).run Try.prog (gw w4 p) = .ok (.int .i64 d) (gw w4 p) := fun p => by
                have := (F4.out.gw p).look HXL.out HXS.out.near
                rwa [HRD.out.val] at this
              have hwd : IntKind.i64.wrap ((d : Int) + 1) = (d : Int) + 1 := IntWalk.i64_in _ (by omega)
              clear hU hno hgp
              go_wp2
              go_region_with (first
                | (go_at_call_of 59 A4; refine (keyOf_any Y n HYL.out _ _ _ hn1 hn5' (O4.out.rd.past (by repeat (first | assumption | exact Below.refl _ _ | apply bl_gw | apply bl_alloc | apply bl_drewN | apply bl_drew)))).mono ?_; rintro e w5 ⟨rfl, b5⟩; obtain ⟨p5, rfl⟩ := below_gw b5; clear b5)
                | (go_at_call_of 59 Ax; refine (keyOf_any x n HXL.out _ _ _ hn1 hn5' (S4.out.past (by repeat (first | assumption | exact Below.refl _ _ | apply bl_gw | apply bl_alloc | apply bl_drewN | apply bl_drew)))).mono ?_; rintro e w5 ⟨rfl, b5⟩; obtain ⟨p5, rfl⟩ := below_gw b5; clear b5))
              all_goals
                clear hUe hL2 hlk
                go_wp2_with (at_builtin; refine halt ?_)
                unfold Halt
                refine wpList_appR K.out rfl (.tmp 82) (.tmp 84) rfl ((HUB.out _).size) rfl (HUR.out _) _ Y rfl (HUO.out _) (by rw [List.length_map, HNJ.out]; omega) ?_
                intro v6 w6 hR6 hB6 hF6 _
                have R6 := Lib.hid hR6
                have F6 := Lib.hid (hF6 _ _ _ (HUF.out _))
                have B6 := Lib.hid ((HUB.out _).trans (hB6 _ (Nat.le_refl _)))
                clear hR6 hF6 hB6
                go_wp2
                go_roundw
                case rel => exact ⟨j + 1, by omega, by go_num, by rw [HL2.out, List.map_append]; exact R6.out, by rw [HL2.out]; exact F6.out, B6.out⟩
                case measure => simp [intOf]; omega
        · obtain rfl : j = m := by omega
          have HE2 := HEND.out rfl
          go_wp2
          go_roundw
          case rel => exact ⟨a + 1, by go_num, by rw [← HE2, HNJ.out]; omega, by rw [← HE2]; exact HRW.out, by rw [← HE2]; exact HFR.out, HBL.out⟩
          case measure => simp [intOf]; omega
    · obtain rfl : a = N := by omega
      have hfin := fin_of (D := D) (fwd := fwd) HG.out HLS.out (a := a) (by rw [HRL.out, HNL.out])
      rw [HRL.out] at hfin
      go_wp2
      go_ret2
      rw [← hfin]
      exact ⟨_, _, rfl, HRW.out, HFR.out, hbm', HBL.out⟩
end Go.Proofs.Ytbedepmcecdhfaa
