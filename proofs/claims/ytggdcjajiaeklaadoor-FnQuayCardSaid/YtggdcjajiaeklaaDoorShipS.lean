/- Walks of ships: the reference's rota. -/
import Derived.Test.YtggdcjajiaeklaaDoorShipR
namespace Go.Proofs.YtggdcjajiaeklaaDoor
open Go.RowKit
set_option maxHeartbeats 400000 in
theorem l1Least_any (a b : Int) (w : World) :
    Calls Tryd.prog 62 #[.int .i64 a, .int .i64 b] w fun e w' => e = .returned (.int .i64 (min a b)) ∧ w = w' := by
  go_enter Tryd.func62, Tryd.ntmps62
  go_wp2
  all_goals go_ret
  all_goals exact ⟨ret_int (by first | omega | (simp; omega)), rfl⟩
theorem alloc_size' (w : World) (o : Obj) : (w.alloc o).heap.size = w.heap.size + 1 := by simp
theorem put6 (w : World) (g p : Nat) (a b c d e f : Value) : (((((w.setCell ⟨g, p * 6, none⟩ a).setCell ⟨g, p * 6 + 1, none⟩ b).setCell ⟨g, p * 6 + 2, none⟩ c).setCell ⟨g, p * 6 + 3, none⟩ d).setCell ⟨g, p * 6 + 4, none⟩ e).setCell ⟨g, p * 6 + 5, none⟩ f = putC w g (p * 6) [a, b, c, d, e, f] := rfl
theorem ship_put {w : World} {base g n c p : Nat} {e : TypeId} {l : List Ship} (h : Own encShip w base e (.slice (some ⟨g, 0, none⟩) n c) l) (hp : p < n) (y : Ship) :
    Own encShip (putC w g (p * 6) [.int .i64 y.id, .int .i64 y.come, .int .i64 y.leave, .int .i64 y.draft, .int .i64 y.holds, .int .i64 y.loaded]) base e (.slice (some ⟨g, 0, none⟩) n c) (l.set p y) := h.setElem hp y
set_option maxRecDepth 4000 in
set_option maxHeartbeats 8000000 in
theorem l17Rota_any (l : List Ship) (wt : List Int) (n m mm : Nat) (z : Int) (hn : l.length = n) (hm : wt.length = m) (A A' : Option Addr) (cap cap' : Nat) (w : World)
    (hok : ∀ (i : Nat) (x : Ship), l[i]? = some x → shipOK x = true) (hl : n ≤ 1048576) (hl' : m ≤ 400) (_hz : 0 ≤ z) (hmm : (mm : Int) = min (m : Int) z) (hc : Sl encShip w w.heap.size A l) (hd : Sl encInt w w.heap.size A' wt) :
    Calls Tryd.prog 47 #[.slice A n cap, .slice A' m cap', .int .i64 z] w fun e w' => ∃ vd vs, e = .returned (.tuple #[vd, vs]) ∧
      Own encInt w' w.heap.size 3 vd (rotaD l wt mm) ∧ Own encShip w' w.heap.size 26 vs (rotaS l wt mm) ∧ Below w.heap.size w w' := by
  have HC := Lib.hid hc; clear hc
  have HD := Lib.hid hd; clear hd
  have HN := Lib.hid hn; clear hn
  have HM := Lib.hid hm; clear hm
  have HOK := Lib.hid hok; clear hok
  obtain ⟨i0, hinf, hz0, hz1, hz2⟩ := info_parts info_Int
  obtain ⟨j0, hinf', hy0, hy1, hy2⟩ := info_parts info_Ship
  go_enter Tryd.func47, Tryd.ntmps47
  go_wp2_with (at_builtin; refine wpList_app (E := encShip) _ rfl (.tmp 14) (.tmp 15) 31 rfl w.heap.size 26 j0 _ 48 Tryd.underlying31 hinf' hy0 hy1 hy2 rfl (by decide) (.slice (some ⟨w.heap.size, 0, none⟩) 0 0) [] rfl (Own.nil_ (Nat.le_refl _) _) _ A n cap l rfl HN.out (HC.out.past (bl_alloc (Below.refl _ _) _)) (by simp [maxLen]; omega) (by simp; omega) (by simp) ?_; intro v1 w1 o1 g1 _; have b1 := below_grown (bl_alloc (Below.refl w.heap.size w) _) g1 (by intro k hk; simp [Value.ownBlock] at hk; omega); rw [List.nil_append] at o1; have B1 := Lib.hid b1; obtain ⟨A1, c1, rfl, _, _, _⟩ := o1.slice; rw [HN.out] at o1 ⊢; have O1 := Lib.hid o1; have HI := Lib.hid o1.hi; have hz1' := b1.size; clear o1 g1 b1)
  go_loopw [9, 10] (fun u j wr => ∃ k : Nat, k ≤ mm ∧ j = .int .i64 k ∧ Own encInt wr w1.heap.size 3 u (rotaD l wt k) ∧ Own encShip wr w.heap.size 26 (.slice A1 n c1) (rotaS l wt k) ∧ w1.heap.size ≤ wr.heap.size ∧ Below w.heap.size w wr) (fun _ j _ => m - (intOf j).toNat)
  case atStart => exact ⟨0, Nat.zero_le _, rfl, Own.nil_ (Nat.le_refl _) _, O1.out.past (bl_alloc (Below.refl _ _) _) (Nat.le_refl _), by simp, bl_alloc B1.out _⟩
  case round =>
    obtain ⟨k, hkm, rfl, ou, os, hz3, hbel⟩ := hrel
    have HU := Lib.hid ou
    have HO := Lib.hid os
    have HZ := Lib.hid hz3
    have HB := Lib.hid hbel
    clear ou os hz3 hbel
    by_cases hlt : k < mm
    · have k1' : (k : Int) < m := by omega
      have k1'' : (k : Int) < z := by omega
      have k2' : (0 : Int) ≤ k := by omega
      have hltm : k < m := by omega
      obtain ⟨wo, rfl⟩ : ∃ wo : World, wo = wr := ⟨_, rfl⟩
      obtain ⟨S, eS⟩ : ∃ S, rotaS l wt k = S := ⟨_, rfl⟩
      have HSn := Lib.hid (show S.length = n by rw [← eS, rotaS_length]; exact HN.out)
      have HSat := Lib.hid (show ∀ (i : Nat) (y : Ship), S[i]? = some y → (0 ≤ y.come ∧ y.come ≤ 4000) ∧ (0 ≤ y.leave ∧ y.leave ≤ 4000) ∧ (1 ≤ y.holds ∧ y.holds ≤ 3000) ∧ (0 ≤ y.loaded ∧ y.loaded ≤ y.holds) from fun _ _ hy => rotaS_at HOK.out (by rw [eS]; exact hy))
      have HB0 := Lib.hid (show bestTo S wt k n = rotaB l wt k by rw [rotaB, eS, HN.out])
      have HR := Lib.hid (show Sl encShip wo wo.heap.size A1 S by rw [← eS]; exact HO.out.rd)
      have HDo := Lib.hid ((HD.out.below HB.out).more HB.out.size)
      have HES := Lib.hid eS
      clear eS
      go_wp2
      go_loopw [11, 12] (fun b j w' => ∃ i : Nat, i ≤ n ∧ j = .int .i64 i ∧ b = .int .i64 (bestTo S wt k i) ∧ Below wo.heap.size wo w') (fun _ j _ => n - (intOf j).toNat)
      case atStart => exact ⟨0, Nat.zero_le _, rfl, rfl, Below.refl _ _⟩
      case round =>
        obtain ⟨i, hi, rfl, rfl, hb2⟩ := hrel
        have hsz2 := hb2.size
        by_cases hlt2 : i < n
        · obtain ⟨bk, off, rfl, hb, hcs⟩ := HR.out.ship (by rw [HSn.out]; omega)
          have hx : S[i]? = some (S[i]'(by rw [HSn.out]; exact hlt2)) := List.getElem?_eq_getElem _
          generalize S[i]'(by rw [HSn.out]; exact hlt2) = x at hx
          obtain ⟨c0, c1, c2, c3, c4, c5⟩ := hcs i x hx
          obtain ⟨b, eb⟩ : ∃ b, bestTo S wt k i = b := ⟨_, rfl⟩
          have hbr := bestTo_rng S wt k i
          have hst := bestTo_step eb hx
          obtain ⟨⟨z1, z2⟩, ⟨z3, z4⟩, ⟨z5, z6⟩, ⟨z7, z8⟩⟩ := HSat.out _ _ hx
          rw [eb] at hbr ⊢
          clear eb
          have HY := Lib.hid (show ∀ p : Nat, p < n → ∃ yl, S[p]!.leave = yl ∧ wo.cell? ⟨bk, off + p * 6 + 2, none⟩ = some (.int .i64 yl) from fun p hp => by
            have hy : S[p]? = some (S[p]'(by rw [HSn.out]; exact hp)) := List.getElem?_eq_getElem _
            exact ⟨_, rfl, by rw [List.getElem!_of_getElem? hy]; exact (hcs p _ hy).2.2.1⟩)
          clear hcs hx
          obtain ⟨x1, x2, x3, x4, x5, x6⟩ := x
          dsimp only at c0 c1 c2 c3 c4 c5 hst z1 z2 z3 z4 z5 z6 z7 z8
          rw [← hb2.cell hb] at c0 c1 c2 c3 c4 c5
          have HST := Lib.hid hst
          clear hst
          have hbw : bk < wr.heap.size := by omega
          have k1 : (i : Int) < n := by omega
          have k2 : (0 : Int) ≤ i := by omega
          have HD2 := Lib.hid (HDo.out.past hb2)
          rcases sp3 (mayP ⟨x1, x2, x3, x4, x5, x6⟩ wt k) (decide (x6 < x5)) (decide (b < 0)) with t1 | ⟨t1, t2⟩ | ⟨t1, t2, t3⟩ | ⟨t1, t2, t3⟩
          · go_wp2
            refine wp_region_gw (by kernel_rfl) (by kernel_rfl) ?_
            repeat (first | go_big_quiet_step ((first | (go_at_call 50; exact quiet_gw (l17May_q HM.out _ _ k _ (by assumption) hltm (by assumption) (by assumption) (by omega) (HD2.out.past (by repeat (first | assumption | exact Below.refl _ _ | apply bl_gw | apply bl_alloc | apply bl_drewN | apply bl_drew))))))) | quiet_step ((first | (go_at_call 50; exact quiet_gw (l17May_q HM.out _ _ k _ (by assumption) hltm (by assumption) (by assumption) (by omega) (HD2.out.past (by repeat (first | assumption | exact Below.refl _ _ | apply bl_gw | apply bl_alloc | apply bl_drewN | apply bl_drew))))))))
            refine wpQuiet_nil ?_
            rintro _ ⟨pq, rfl⟩
            go_wp2
            go_roundw
            case rel => exact ⟨i + 1, by omega, by go_num, by rw [HST.out, t1]; rfl, (by repeat (first | assumption | exact Below.refl _ _ | apply bl_gw | apply bl_alloc | apply bl_drewN | apply bl_drew))⟩
            case measure => simp [intOf]; omega
          · go_wp2
            refine wp_region_gw (by kernel_rfl) (by kernel_rfl) ?_
            repeat (first | go_big_quiet_step ((first | (go_at_call 50; exact quiet_gw (l17May_q HM.out _ _ k _ (by assumption) hltm (by assumption) (by assumption) (by omega) (HD2.out.past (by repeat (first | assumption | exact Below.refl _ _ | apply bl_gw | apply bl_alloc | apply bl_drewN | apply bl_drew))))))) | quiet_step ((first | (go_at_call 50; exact quiet_gw (l17May_q HM.out _ _ k _ (by assumption) hltm (by assumption) (by assumption) (by omega) (HD2.out.past (by repeat (first | assumption | exact Below.refl _ _ | apply bl_gw | apply bl_alloc | apply bl_drewN | apply bl_drew))))))))
            refine wpQuiet_nil ?_
            rintro _ ⟨pq, rfl⟩
            go_wp2
            go_roundw
            case rel => exact ⟨i + 1, by omega, by go_num, by rw [HST.out, t1, t2]; rfl, (by repeat (first | assumption | exact Below.refl _ _ | apply bl_gw | apply bl_alloc | apply bl_drewN | apply bl_drew))⟩
            case measure => simp [intOf]; omega
          · obtain ⟨p, rfl⟩ : ∃ p : Nat, b = p := ⟨b.toNat, by simp at t3; omega⟩
            have hpn : p < n := by omega
            obtain ⟨yl, hyl, d2⟩ := HY.out p hpn
            rw [← hb2.cell hb] at d2
            have HYL := Lib.hid hyl
            clear hyl
            have k3 : (p : Int) < n := by omega
            have k4 : (0 : Int) ≤ p := by omega
            rcases sp1 (decide (x3 < yl)) with t4 | t4
            · go_wp2
              refine wp_region_gw (by kernel_rfl) (by kernel_rfl) ?_
              repeat (first | go_big_quiet_step ((first | (go_at_call 50; exact quiet_gw (l17May_q HM.out _ _ k _ (by assumption) hltm (by assumption) (by assumption) (by omega) (HD2.out.past (by repeat (first | assumption | exact Below.refl _ _ | apply bl_gw | apply bl_alloc | apply bl_drewN | apply bl_drew))))))) | quiet_step ((first | (go_at_call 50; exact quiet_gw (l17May_q HM.out _ _ k _ (by assumption) hltm (by assumption) (by assumption) (by omega) (HD2.out.past (by repeat (first | assumption | exact Below.refl _ _ | apply bl_gw | apply bl_alloc | apply bl_drewN | apply bl_drew))))))))
              refine wpQuiet_nil ?_
              rintro _ ⟨pq, rfl⟩
              go_wp2
              go_roundw
              case rel => exact ⟨i + 1, by omega, by go_num, by rw [HST.out, Int.toNat_natCast, HYL.out, t1, t2, t3, t4]; rfl, (by repeat (first | assumption | exact Below.refl _ _ | apply bl_gw | apply bl_alloc | apply bl_drewN | apply bl_drew))⟩
              case measure => simp [intOf]; omega
            · go_wp2
              refine wp_region_gw (by kernel_rfl) (by kernel_rfl) ?_
              repeat (first | go_big_quiet_step ((first | (go_at_call 50; exact quiet_gw (l17May_q HM.out _ _ k _ (by assumption) hltm (by assumption) (by assumption) (by omega) (HD2.out.past (by repeat (first | assumption | exact Below.refl _ _ | apply bl_gw | apply bl_alloc | apply bl_drewN | apply bl_drew))))))) | quiet_step ((first | (go_at_call 50; exact quiet_gw (l17May_q HM.out _ _ k _ (by assumption) hltm (by assumption) (by assumption) (by omega) (HD2.out.past (by repeat (first | assumption | exact Below.refl _ _ | apply bl_gw | apply bl_alloc | apply bl_drewN | apply bl_drew))))))))
              refine wpQuiet_nil ?_
              rintro _ ⟨pq, rfl⟩
              go_wp2
              go_roundw
              case rel => exact ⟨i + 1, by omega, by go_num, by rw [HST.out, Int.toNat_natCast, HYL.out, t1, t2, t3, t4]; rfl, (by repeat (first | assumption | exact Below.refl _ _ | apply bl_gw | apply bl_alloc | apply bl_drewN | apply bl_drew))⟩
              case measure => simp [intOf]; omega
          · go_wp2
            refine wp_region_gw (by kernel_rfl) (by kernel_rfl) ?_
            repeat (first | go_big_quiet_step ((first | (go_at_call 50; exact quiet_gw (l17May_q HM.out _ _ k _ (by assumption) hltm (by assumption) (by assumption) (by omega) (HD2.out.past (by repeat (first | assumption | exact Below.refl _ _ | apply bl_gw | apply bl_alloc | apply bl_drewN | apply bl_drew))))))) | quiet_step ((first | (go_at_call 50; exact quiet_gw (l17May_q HM.out _ _ k _ (by assumption) hltm (by assumption) (by assumption) (by omega) (HD2.out.past (by repeat (first | assumption | exact Below.refl _ _ | apply bl_gw | apply bl_alloc | apply bl_drewN | apply bl_drew))))))))
            refine wpQuiet_nil ?_
            rintro _ ⟨pq, rfl⟩
            go_wp2
            go_roundw
            case rel => exact ⟨i + 1, by omega, by go_num, by rw [HST.out, t1, t2, t3]; rfl, (by repeat (first | assumption | exact Below.refl _ _ | apply bl_gw | apply bl_alloc | apply bl_drewN | apply bl_drew))⟩
            case measure => simp [intOf]; omega
        · obtain rfl : i = n := by omega
          rw [HB0.out]
          obtain ⟨b, eb⟩ : ∃ b, rotaB l wt k = b := ⟨_, rfl⟩
          have hbr := rotaB_rng l wt k
          rw [eb, HN.out] at hbr
          rw [eb]
          have HEB := Lib.hid eb
          have HL := Lib.hid (rotaD_length l wt k)
          have HU2 := Lib.hid (HU.out.past hb2 (Nat.le_refl _))
          have HO2 := Lib.hid (HO.out.past hb2 (Nat.le_refl _))
          have hz4 := Nat.le_trans HZ.out hsz2
          have HB2 := Lib.hid (below_step HB.out hb2)
          have HST := Lib.hid (rotaS_succ l wt k)
          have HDD := Lib.hid (show rotaD l wt (k + 1) = rotaD l wt k ++ [rotaB l wt k] from rfl)
          clear eb hb2
          rcases sp1 (decide (0 ≤ b)) with t1 | t1
          · have t2 : b < 0 := by simpa using t1
            go_wp2_with (at_builtin; refine wpList_app2 (E := encInt) rfl (.tmp 90) (.tmp 92) 33 rfl w1.heap.size 3 i0 _ 8 Tryd.underlying33 hinf hz0 hz1 hz2 rfl (by decide) _ _ rfl HU2.out b _ rfl rfl (by have := HL.out; unfold maxLen; omega) (by have := HL.out; omega) hz4 ?_; intro v5 w5 ho5 hb5; have O5 := Lib.hid ho5; have Q5 := Lib.hid (HO2.out.pastHi (hb5 w1.heap.size (Nat.le_refl _)) HI.out); have B5 := Lib.hid (hb5 w.heap.size hz1'); have G5 := Lib.hid (hb5 w1.heap.size (Nat.le_refl _)).size; clear ho5 hb5)
            go_roundw
            case rel => exact ⟨k + 1, by omega, by go_num, by rw [HDD.out, HEB.out]; exact O5.out, by rw [HST.out, HEB.out, loadS_none t2]; exact Q5.out, Nat.le_trans hz4 G5.out, HB2.out.trans B5.out⟩
            case measure => simp [intOf]; omega
          · obtain ⟨p, rfl⟩ : ∃ p : Nat, b = p := ⟨b.toNat, by simp at t1; omega⟩
            have hpn : p < i := by omega
            obtain ⟨g, rfl⟩ := HO2.out.some_ (show 0 < i by omega)
            have hgz : g < w1.heap.size := HI.out ⟨g, 0, none⟩ rfl
            have hy : S[p]? = some (S[p]'(by rw [HSn.out]; exact hpn)) := List.getElem?_eq_getElem _
            generalize S[p]'(by rw [HSn.out]; exact hpn) = y at hy
            obtain ⟨_, _, ⟨z5, z6⟩, ⟨z7, z8⟩⟩ := HSat.out _ _ hy
            have HLd := Lib.hid (loadS_at hy)
            obtain ⟨hgw, c1, c2, c3, c4, c5, c6⟩ := (HES.out ▸ HO2.out).ship hy
            have f0 := HO2.out.thaw (p * 6)
            have f1 := HO2.out.thaw (p * 6 + 1)
            have f2 := HO2.out.thaw (p * 6 + 2)
            have f3 := HO2.out.thaw (p * 6 + 3)
            have f4 := HO2.out.thaw (p * 6 + 4)
            have f5 := HO2.out.thaw (p * 6 + 5)
            have HY := Lib.hid hy
            clear hy
            obtain ⟨y1, y2, y3, y4, y5, y6⟩ := y
            dsimp only at z5 z6 z7 z8 c1 c2 c3 c4 c5 c6
            have k3 : (p : Int) < i := by omega
            have k4 : (0 : Int) ≤ p := by omega
            have k6 : IntKind.i64.wrap (y6 + 300) = y6 + 300 := IntWalk.i64_in _ (by omega)
            go_wp2_with fail
            refine (l1Least_any _ _ _).mono ?_
            rintro e w1' ⟨rfl, rfl⟩
            rw [show min y5 (y6 + 300) = y6 + min 300 (y5 - y6) by omega]
            have hgw0 : w.heap.size ≤ g := HO2.out.lo ⟨g, 0, none⟩ rfl
            have hqs := ship_put (HES.out ▸ HO2.out) hpn (topUp ⟨y1, y2, y3, y4, y5, y6⟩)
            have htn := Turn.put [.int .i64 y1, .int .i64 y2, .int .i64 y3, .int .i64 y4, .int .i64 y5, .int .i64 (y6 + min 300 (y5 - y6))] (p * 6) (Turn.refl (A := some ⟨g, 0, none⟩) (w := wr))
            have hbp := putC_below hgw0 [.int .i64 y1, .int .i64 y2, .int .i64 y3, .int .i64 y4, .int .i64 y5, .int .i64 (y6 + min 300 (y5 - y6))] (p * 6) HB2.out
            simp only [topUp] at hqs
            obtain ⟨W6, hW6⟩ : ∃ W6, putC wr g (p * 6) [.int .i64 y1, .int .i64 y2, .int .i64 y3, .int .i64 y4, .int .i64 y5, .int .i64 (y6 + min 300 (y5 - y6))] = W6 := ⟨_, rfl⟩
            rw [hW6] at hqs htn hbp
            have HQS := Lib.hid hqs
            have HTN := Lib.hid htn
            have HBP := Lib.hid hbp
            have hs6 := htn.size
            have HW6 := Lib.hid hW6
            clear hqs htn hbp hW6
            have HI2 := HI
            go_wp2_with (at_builtin; refine halt ?_)
            unfold Halt
            rw [put6, HW6.out]
            refine wpList_app2 (E := encInt) rfl (.tmp 90) (.tmp 92) 33 rfl w1.heap.size 3 i0 _ 8 Tryd.underlying33 hinf hz0 hz1 hz2 rfl (by decide) _ _ rfl ((HU2.out.turnV HTN.out HI2.out).past (bl_alloc (Below.refl _ _) _) (Nat.le_refl _)) (p : Int) _ rfl (by rw [alloc_size', hs6]; rfl) (by have := HL.out; unfold maxLen; omega) (by have := HL.out; omega) (by simp; omega) ?_
            intro v5 w5 ho5 hb5
            have O5 := Lib.hid ho5
            have Q5 := Lib.hid ((HQS.out.past (bl_alloc (Below.refl _ _) _) (Nat.le_refl _)).pastHi (hb5 w1.heap.size (Nat.le_refl _)) HI2.out)
            have B5 := Lib.hid ((bl_alloc HBP.out _).trans (hb5 w.heap.size hz1'))
            have G5 := Lib.hid (hb5 w1.heap.size (Nat.le_refl _)).size
            clear ho5 hb5
            go_wp2
            go_roundw
            case rel =>
              have g5 := G5.out
              simp at g5
              exact ⟨k + 1, by omega, by go_num, by rw [HDD.out, HEB.out]; exact O5.out, by rw [HST.out, HEB.out, HES.out, HLd.out]; exact Q5.out, by omega, B5.out⟩
            case measure => simp [intOf]; omega
    · obtain rfl : k = mm := by omega
      rcases (show ((k : Int) < m ∧ ¬ (k : Int) < z) ∨ ¬ (k : Int) < m by omega) with ⟨q1, q2⟩ | q1
      all_goals
        go_wp2
        go_ret2
        exact ⟨_, _, rfl, HU.out.lower hz1', HO.out, HB.out⟩
end Go.Proofs.YtggdcjajiaeklaaDoor
