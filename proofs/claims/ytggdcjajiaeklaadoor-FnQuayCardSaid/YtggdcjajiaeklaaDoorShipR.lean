/- Walks of ships: the program's rota. -/
import Derived.Test.YtggdcjajiaeklaaDoorShipK
namespace Go.Proofs.YtggdcjajiaeklaaDoor
open Go.RowKit
theorem okShips_fits {l : List Ship} (hok : ∀ (i : Nat) (x : Ship), l[i]? = some x → shipOK x = true) : ∀ (i : Nat) (x : Ship), l[i]? = some x → x.loaded ≤ x.holds := fun i x hx => (shipOK_at (hok i x hx)).2.2.2.2.2.2.2
theorem rotaS_at {l : List Ship} (hok : ∀ (i : Nat) (x : Ship), l[i]? = some x → shipOK x = true) {wt : List Int} {d i : Nat} {y : Ship} (hy : (rotaS l wt d)[i]? = some y) :
    (0 ≤ y.come ∧ y.come ≤ 4000) ∧ (0 ≤ y.leave ∧ y.leave ≤ 4000) ∧ (1 ≤ y.holds ∧ y.holds ≤ 3000) ∧ (0 ≤ y.loaded ∧ y.loaded ≤ y.holds) := by
  obtain ⟨x, hx, a, b, c, d', e, f, g⟩ := (rotaS_fuls (okShips_fits hok) wt d).ok hy
  have := shipOK_at (hok i x hx)
  rw [b, c, e]
  refine ⟨by omega, by omega, by omega, by omega, by omega⟩
theorem bestTo_step {S : List Ship} {wt : List Int} {d i : Nat} {b : Int} {x : Ship} (hb : bestTo S wt d i = b) (hx : S[i]? = some x) :
    bestTo S wt d (i + 1) = if mayP x wt d && (decide (x.loaded < x.holds) && (decide (b < 0) || decide (x.leave < S[b.toNat]!.leave))) then (i : Int) else b := by
  rw [bestTo_succ, hb]
  simp only [takes, List.getElem!_of_getElem? hx]
theorem Own.ship {w : World} {base g n c i : Nat} {e : TypeId} {l : List Ship} {x : Ship} (h : Own encShip w base e (.slice (some ⟨g, 0, none⟩) n c) l) (hx : l[i]? = some x) :
    g < w.heap.size ∧ w.cell? ⟨g, i * 6, none⟩ = some (.int .i64 x.id) ∧ w.cell? ⟨g, i * 6 + 1, none⟩ = some (.int .i64 x.come) ∧ w.cell? ⟨g, i * 6 + 2, none⟩ = some (.int .i64 x.leave) ∧ w.cell? ⟨g, i * 6 + 3, none⟩ = some (.int .i64 x.draft) ∧ w.cell? ⟨g, i * 6 + 4, none⟩ = some (.int .i64 x.holds) ∧ w.cell? ⟨g, i * 6 + 5, none⟩ = some (.int .i64 x.loaded) := by
  obtain ⟨b, off, e', hb, hc⟩ := h.rd.ship (by have := (List.getElem?_eq_some_iff.1 hx).1; omega)
  injection e' with e'
  injection e' with e1 e2
  subst e1 e2
  have := hc i x hx
  simp only [Nat.zero_add] at this
  exact ⟨hb, this⟩
theorem Own.turnV {α : Type} {E : Enc α} {w w' : World} {base : Nat} {e : TypeId} {v : Value} {l : List α} {A : Option Addr} (h : Own E w base e v l) (t : Turn A w w') (hA : Hi base A) : Own E w' base e v l := by
  obtain ⟨A', c', rfl, _⟩ := h.slice
  exact h.turn t hA
theorem loadS_none {S : List Ship} {b : Int} (h : b < 0) : loadS S b = S := by unfold loadS; rw [if_neg (by omega)]
theorem givenS_none {S : List Ship} {b : Int} (h : b < 0) : givenS S b = 0 := by unfold givenS; rw [if_neg (by omega)]
theorem loadS_at {S : List Ship} {p : Nat} {y : Ship} (hy : S[p]? = some y) : loadS S p = S.set p (topUp y) := by
  unfold loadS; rw [if_pos (by omega), Int.toNat_natCast, List.getElem!_of_getElem? hy]
theorem givenS_at {S : List Ship} {p : Nat} {y : Ship} (hy : S[p]? = some y) : givenS S p = min 300 (y.holds - y.loaded) := by
  unfold givenS; rw [if_pos (by omega), Int.toNat_natCast, List.getElem!_of_getElem? hy]
set_option maxRecDepth 4000 in
set_option maxHeartbeats 8000000 in
theorem rota_any (l : List Ship) (wt : List Int) (n m : Nat) (hn : l.length = n) (hm : wt.length = m) (A A' : Option Addr) (cap cap' : Nat) (w : World)
    (hok : ∀ (i : Nat) (x : Ship), l[i]? = some x → shipOK x = true) (hl : n ≤ 1048576) (hl' : m ≤ 400) (hc : Sl encShip w w.heap.size A l) (hd : Sl encInt w w.heap.size A' wt) :
    Calls Tryd.prog 43 #[.slice A n cap, .slice A' m cap'] w fun e w' => ∃ vs vd, e = .returned (.tuple #[vs, vd, .int .i64 (rotaT l wt m)]) ∧
      Own encShip w' w.heap.size 26 vs (rotaS l wt m) ∧ Own encInt w' w.heap.size 3 vd (rotaD l wt m) ∧ Below w.heap.size w w' := by
  have HC := Lib.hid hc; clear hc
  have HD := Lib.hid hd; clear hd
  have HN := Lib.hid hn; clear hn
  have HM := Lib.hid hm; clear hm
  have HOK := Lib.hid hok; clear hok
  obtain ⟨i0, hinf, hz0, hz1, hz2⟩ := info_parts info_Int
  go_enter Tryd.func43, Tryd.ntmps43
  go_wp2_with fail
  refine (cloneShip_any l n HN.out _ _ _ hl HC.out).mono ?_
  rintro e w1 ⟨v1, rfl, o1, b1⟩
  obtain ⟨A1, c1, rfl, _, _, _⟩ := o1.slice
  rw [HN.out] at o1 ⊢
  have HI := Lib.hid o1.hi
  have D1 := Lib.hid (HD.out.past b1)
  have O1 := Lib.hid o1
  have hz1' := b1.size
  have B1 := Lib.hid b1
  clear o1 b1
  go_wp2
  go_loopw [8, 9, 19] (fun u t j wr => ∃ k : Nat, k ≤ m ∧ j = .int .i64 k ∧ t = .int .i64 (rotaT l wt k) ∧ Own encInt wr w1.heap.size 3 u (rotaD l wt k) ∧ Own encShip wr w.heap.size 26 (.slice A1 n c1) (rotaS l wt k) ∧ w1.heap.size ≤ wr.heap.size ∧ Below w.heap.size w wr) (fun _ _ j _ => m - (intOf j).toNat)
  case atStart => exact ⟨0, Nat.zero_le _, rfl, rfl, Own.none_, O1.out, Nat.le_refl _, B1.out⟩
  case round =>
    obtain ⟨k, hkm, rfl, rfl, ou, os, hz3, hbel⟩ := hrel
    have HU := Lib.hid ou
    have HO := Lib.hid os
    have HZ := Lib.hid hz3
    have HB := Lib.hid hbel
    clear ou os hz3 hbel
    by_cases hlt : k < m
    · have k1' : (k : Int) < m := by omega
      have k2' : (0 : Int) ≤ k := by omega
      obtain ⟨wo, rfl⟩ : ∃ wo : World, wo = wr := ⟨_, rfl⟩
      obtain ⟨S, eS⟩ : ∃ S, rotaS l wt k = S := ⟨_, rfl⟩
      have HSn := Lib.hid (show S.length = n by rw [← eS, rotaS_length]; exact HN.out)
      have HSat := Lib.hid (show ∀ (i : Nat) (y : Ship), S[i]? = some y → (0 ≤ y.come ∧ y.come ≤ 4000) ∧ (0 ≤ y.leave ∧ y.leave ≤ 4000) ∧ (1 ≤ y.holds ∧ y.holds ≤ 3000) ∧ (0 ≤ y.loaded ∧ y.loaded ≤ y.holds) from fun _ _ hy => rotaS_at HOK.out (by rw [eS]; exact hy))
      have HB0 := Lib.hid (show bestTo S wt k n = rotaB l wt k by rw [rotaB, eS, HN.out])
      have HR := Lib.hid (show Sl encShip wo wo.heap.size A1 S by rw [← eS]; exact HO.out.rd)
      have HDo := Lib.hid ((HD.out.below HB.out).more HB.out.size)
      have HES := Lib.hid eS
      clear eS
      go_wp2
      go_loopw [11, 24] (fun b j w' => ∃ i : Nat, i ≤ n ∧ j = .int .i64 i ∧ b = .int .i64 (bestTo S wt k i) ∧ Below wo.heap.size wo w') (fun _ j _ => n - (intOf j).toNat)
      case atStart => exact ⟨0, Nat.zero_le _, rfl, rfl, Below.refl _ _⟩
      case round =>
        obtain ⟨i, hi, rfl, rfl, hb2⟩ := hrel
        have hsz2 := hb2.size
        by_cases hlt2 : i < n
        · obtain ⟨bk, off, rfl, hb, hcs⟩ := HR.out.ship (by rw [HSn.out]; omega)
          have hx : S[i]? = some (S[i]'(by rw [HSn.out]; exact hlt2)) := List.getElem?_eq_getElem _
          generalize S[i]'(by rw [HSn.out]; exact hlt2) = x at hx
          obtain ⟨c0, c1, c2, c3, c4, c5⟩ := hcs i x hx
          obtain ⟨b, eb⟩ : ∃ b, bestTo S wt k i = b := ⟨_, rfl⟩
          have hbr := bestTo_rng S wt k i
          have hst := bestTo_step eb hx
          obtain ⟨⟨z1, z2⟩, ⟨z3, z4⟩, ⟨z5, z6⟩, ⟨z7, z8⟩⟩ := HSat.out _ _ hx
          rw [eb] at hbr ⊢
          clear eb
          have HY := Lib.hid (show ∀ p : Nat, p < n → ∃ yl, S[p]!.leave = yl ∧ wo.cell? ⟨bk, off + p * 6 + 2, none⟩ = some (.int .i64 yl) from fun p hp => by
            have hy : S[p]? = some (S[p]'(by rw [HSn.out]; exact hp)) := List.getElem?_eq_getElem _
            exact ⟨_, rfl, by rw [List.getElem!_of_getElem? hy]; exact (hcs p _ hy).2.2.1⟩)
          clear hcs hx
          obtain ⟨x1, x2, x3, x4, x5, x6⟩ := x
          dsimp only at c0 c1 c2 c3 c4 c5 hst z1 z2 z3 z4 z5 z6 z7 z8
          rw [← hb2.cell hb] at c0 c1 c2 c3 c4 c5
          have HST := Lib.hid hst
          clear hst
          have hbw : bk < wr.heap.size := by omega
          have k1 : (i : Int) < n := by omega
          have k2 : (0 : Int) ≤ i := by omega
          have HD2 := Lib.hid (HDo.out.past hb2)
          rcases sp3 (mayP ⟨x1, x2, x3, x4, x5, x6⟩ wt k) (decide (x6 < x5)) (decide (b < 0)) with t1 | ⟨t1, t2⟩ | ⟨t1, t2, t3⟩ | ⟨t1, t2, t3⟩
          · go_wp2
            refine wp_region_gw (by kernel_rfl) (by kernel_rfl) ?_
            repeat (first | go_big_quiet_step ((first | (go_at_call 36; exact quiet_gw (mayLie_q HM.out _ _ k _ (by assumption) hlt (by assumption) (by assumption) (by omega) (HD2.out.past (by repeat (first | assumption | exact Below.refl _ _ | apply bl_gw | apply bl_alloc | apply bl_drewN | apply bl_drew))))))) | quiet_step ((first | (go_at_call 36; exact quiet_gw (mayLie_q HM.out _ _ k _ (by assumption) hlt (by assumption) (by assumption) (by omega) (HD2.out.past (by repeat (first | assumption | exact Below.refl _ _ | apply bl_gw | apply bl_alloc | apply bl_drewN | apply bl_drew))))))))
            refine wpQuiet_nil ?_
            rintro _ ⟨pq, rfl⟩
            go_wp2
            go_roundw
            case rel => exact ⟨i + 1, by omega, by go_num, by rw [HST.out, t1]; rfl, (by repeat (first | assumption | exact Below.refl _ _ | apply bl_gw | apply bl_alloc | apply bl_drewN | apply bl_drew))⟩
            case measure => simp [intOf]; omega
          · go_wp2
            refine wp_region_gw (by kernel_rfl) (by kernel_rfl) ?_
            repeat (first | go_big_quiet_step ((first | (go_at_call 36; exact quiet_gw (mayLie_q HM.out _ _ k _ (by assumption) hlt (by assumption) (by assumption) (by omega) (HD2.out.past (by repeat (first | assumption | exact Below.refl _ _ | apply bl_gw | apply bl_alloc | apply bl_drewN | apply bl_drew))))))) | quiet_step ((first | (go_at_call 36; exact quiet_gw (mayLie_q HM.out _ _ k _ (by assumption) hlt (by assumption) (by assumption) (by omega) (HD2.out.past (by repeat (first | assumption | exact Below.refl _ _ | apply bl_gw | apply bl_alloc | apply bl_drewN | apply bl_drew))))))))
            refine wpQuiet_nil ?_
            rintro _ ⟨pq, rfl⟩
            go_wp2
            go_roundw
            case rel => exact ⟨i + 1, by omega, by go_num, by rw [HST.out, t1, t2]; rfl, (by repeat (first | assumption | exact Below.refl _ _ | apply bl_gw | apply bl_alloc | apply bl_drewN | apply bl_drew))⟩
            case measure => simp [intOf]; omega
          · obtain ⟨p, rfl⟩ : ∃ p : Nat, b = p := ⟨b.toNat, by simp at t3; omega⟩
            have hpn : p < n := by omega
            obtain ⟨yl, hyl, d2⟩ := HY.out p hpn
            rw [← hb2.cell hb] at d2
            have HYL := Lib.hid hyl
            clear hyl
            have k3 : (p : Int) < n := by omega
            have k4 : (0 : Int) ≤ p := by omega
            rcases sp1 (decide (x3 < yl)) with t4 | t4
            · go_wp2
              refine wp_region_gw (by kernel_rfl) (by kernel_rfl) ?_
              repeat (first | go_big_quiet_step ((first | (go_at_call 36; exact quiet_gw (mayLie_q HM.out _ _ k _ (by assumption) hlt (by assumption) (by assumption) (by omega) (HD2.out.past (by repeat (first | assumption | exact Below.refl _ _ | apply bl_gw | apply bl_alloc | apply bl_drewN | apply bl_drew))))))) | quiet_step ((first | (go_at_call 36; exact quiet_gw (mayLie_q HM.out _ _ k _ (by assumption) hlt (by assumption) (by assumption) (by omega) (HD2.out.past (by repeat (first | assumption | exact Below.refl _ _ | apply bl_gw | apply bl_alloc | apply bl_drewN | apply bl_drew))))))))
              refine wpQuiet_nil ?_
              rintro _ ⟨pq, rfl⟩
              go_wp2
              go_roundw
              case rel => exact ⟨i + 1, by omega, by go_num, by rw [HST.out, Int.toNat_natCast, HYL.out, t1, t2, t3, t4]; rfl, (by repeat (first | assumption | exact Below.refl _ _ | apply bl_gw | apply bl_alloc | apply bl_drewN | apply bl_drew))⟩
              case measure => simp [intOf]; omega
            · go_wp2
              refine wp_region_gw (by kernel_rfl) (by kernel_rfl) ?_
              repeat (first | go_big_quiet_step ((first | (go_at_call 36; exact quiet_gw (mayLie_q HM.out _ _ k _ (by assumption) hlt (by assumption) (by assumption) (by omega) (HD2.out.past (by repeat (first | assumption | exact Below.refl _ _ | apply bl_gw | apply bl_alloc | apply bl_drewN | apply bl_drew))))))) | quiet_step ((first | (go_at_call 36; exact quiet_gw (mayLie_q HM.out _ _ k _ (by assumption) hlt (by assumption) (by assumption) (by omega) (HD2.out.past (by repeat (first | assumption | exact Below.refl _ _ | apply bl_gw | apply bl_alloc | apply bl_drewN | apply bl_drew))))))))
              refine wpQuiet_nil ?_
              rintro _ ⟨pq, rfl⟩
              go_wp2
              go_roundw
              case rel => exact ⟨i + 1, by omega, by go_num, by rw [HST.out, Int.toNat_natCast, HYL.out, t1, t2, t3, t4]; rfl, (by repeat (first | assumption | exact Below.refl _ _ | apply bl_gw | apply bl_alloc | apply bl_drewN | apply bl_drew))⟩
              case measure => simp [intOf]; omega
          · go_wp2
            refine wp_region_gw (by kernel_rfl) (by kernel_rfl) ?_
            repeat (first | go_big_quiet_step ((first | (go_at_call 36; exact quiet_gw (mayLie_q HM.out _ _ k _ (by assumption) hlt (by assumption) (by assumption) (by omega) (HD2.out.past (by repeat (first | assumption | exact Below.refl _ _ | apply bl_gw | apply bl_alloc | apply bl_drewN | apply bl_drew))))))) | quiet_step ((first | (go_at_call 36; exact quiet_gw (mayLie_q HM.out _ _ k _ (by assumption) hlt (by assumption) (by assumption) (by omega) (HD2.out.past (by repeat (first | assumption | exact Below.refl _ _ | apply bl_gw | apply bl_alloc | apply bl_drewN | apply bl_drew))))))))
            refine wpQuiet_nil ?_
            rintro _ ⟨pq, rfl⟩
            go_wp2
            go_roundw
            case rel => exact ⟨i + 1, by omega, by go_num, by rw [HST.out, t1, t2, t3]; rfl, (by repeat (first | assumption | exact Below.refl _ _ | apply bl_gw | apply bl_alloc | apply bl_drewN | apply bl_drew))⟩
            case measure => simp [intOf]; omega
        · obtain rfl : i = n := by omega
          rw [HB0.out]
          obtain ⟨b, eb⟩ : ∃ b, rotaB l wt k = b := ⟨_, rfl⟩
          have hbr := rotaB_rng l wt k
          have hrt := rotaT_rng wt (okShips_fits HOK.out) k
          rw [eb, HN.out] at hbr
          rw [eb]
          have HEB := Lib.hid eb
          have HL := Lib.hid (rotaD_length l wt k)
          have HU2 := Lib.hid (HU.out.past hb2 (Nat.le_refl _))
          have HO2 := Lib.hid (HO.out.past hb2 (Nat.le_refl _))
          have hz4 := Nat.le_trans HZ.out hsz2
          have HB2 := Lib.hid (below_step HB.out hb2)
          have HST := Lib.hid (rotaS_succ l wt k)
          have HTT := Lib.hid (show rotaT l wt (k + 1) = rotaT l wt k + givenS (rotaS l wt k) (rotaB l wt k) from rfl)
          have HDD := Lib.hid (show rotaD l wt (k + 1) = rotaD l wt k ++ [rotaB l wt k] from rfl)
          clear eb hb2
          rcases sp1 (decide (0 ≤ b)) with t1 | t1
          · have t2 : b < 0 := by simpa using t1
            go_wp2_with (at_builtin; refine wpList_app2 (E := encInt) rfl (.tmp 56) (.tmp 58) 33 rfl w1.heap.size 3 i0 _ 8 Tryd.underlying33 hinf hz0 hz1 hz2 rfl (by decide) _ _ rfl HU2.out b _ rfl rfl (by have := HL.out; unfold maxLen; omega) (by have := HL.out; omega) hz4 ?_; intro v5 w5 ho5 hb5; have O5 := Lib.hid ho5; have Q5 := Lib.hid (HO2.out.pastHi (hb5 w1.heap.size (Nat.le_refl _)) HI.out); have B5 := Lib.hid (hb5 w.heap.size hz1'); have G5 := Lib.hid (hb5 w1.heap.size (Nat.le_refl _)).size; clear ho5 hb5)
            go_roundw
            case rel => exact ⟨k + 1, by omega, by go_num, by rw [HTT.out, HEB.out, givenS_none t2, Int.add_zero], by rw [HDD.out, HEB.out]; exact O5.out, by rw [HST.out, HEB.out, loadS_none t2]; exact Q5.out, Nat.le_trans hz4 G5.out, HB2.out.trans B5.out⟩
            case measure => simp [intOf]; omega
          · obtain ⟨p, rfl⟩ : ∃ p : Nat, b = p := ⟨b.toNat, by simp at t1; omega⟩
            have hpn : p < i := by omega
            obtain ⟨g, rfl⟩ := HO2.out.some_ (show 0 < i by omega)
            have hgz : g < w1.heap.size := HI.out ⟨g, 0, none⟩ rfl
            have hy : S[p]? = some (S[p]'(by rw [HSn.out]; exact hpn)) := List.getElem?_eq_getElem _
            generalize S[p]'(by rw [HSn.out]; exact hpn) = y at hy
            obtain ⟨_, _, ⟨z5, z6⟩, ⟨z7, z8⟩⟩ := HSat.out _ _ hy
            have HLd := Lib.hid (loadS_at hy)
            have HGv := Lib.hid (givenS_at hy)
            have HY := Lib.hid hy
            clear hy
            obtain ⟨y1, y2, y3, y4, y5, y6⟩ := y
            dsimp only at z5 z6 z7 z8
            have k3 : (p : Int) < i := by omega
            have k4 : (0 : Int) ≤ p := by omega
            have k5 : IntKind.i64.wrap (y5 - y6) = y5 - y6 := IntWalk.i64_in _ (by omega)
            have k6 : IntKind.i64.wrap (y6 + min 300 (y5 - y6)) = y6 + min 300 (y5 - y6) := IntWalk.i64_in _ (by omega)
            have k7 : IntKind.i64.wrap (rotaT l wt k + min 300 (y5 - y6)) = rotaT l wt k + min 300 (y5 - y6) := IntWalk.i64_in _ (by omega)
            go_wp2_with (at_builtin; refine wpList_app2 (E := encInt) rfl (.tmp 56) (.tmp 58) 33 rfl w1.heap.size 3 i0 _ 8 Tryd.underlying33 hinf hz0 hz1 hz2 rfl (by decide) _ _ rfl HU2.out (p : Int) _ rfl rfl (by have := HL.out; unfold maxLen; omega) (by have := HL.out; omega) hz4 ?_; intro v5 w5 ho5 hb5; have O5 := Lib.hid ho5; have q5 := HO2.out.pastHi (hb5 w1.heap.size (Nat.le_refl _)) HI.out; have Q5 := Lib.hid q5; have B5 := Lib.hid (hb5 w.heap.size hz1'); have G5 := Lib.hid (hb5 w1.heap.size (Nat.le_refl _)).size; have hg5 : g < w5.heap.size := Nat.lt_of_lt_of_le hgz (Nat.le_trans hz4 G5.out); obtain ⟨_, c1, c2, c3, c4, c5, c6⟩ := (HES.out ▸ q5).ship HY.out; have f5 := q5.thaw (p * 6 + 5); clear ho5 hb5 q5)
            refine wp_region_gw (by kernel_rfl) (by kernel_rfl) ?_
            repeat (first | go_big_quiet_step ((fail)) | quiet_step ((fail)))
            refine wpQuiet_nil ?_
            rintro _ ⟨pq, rfl⟩
            go_wp2
            go_roundw
            case rel =>
              have hM : (if y5 - y6 < 300 then y5 - y6 else 300) = min 300 (y5 - y6) := by split <;> omega
              rw [hM]
              refine ⟨k + 1, by omega, by go_num, by rw [HTT.out, HEB.out, HES.out, HGv.out], ?_, ?_, ?_, ?_⟩
              · rw [HDD.out, HEB.out]
                exact (O5.out.turnV (Turn.refl.setCell _) HI.out).past (gw_below _ _ (Nat.le_refl _)) (Nat.le_refl _)
              · rw [HST.out, HEB.out, HES.out, HLd.out]
                exact ((HES.out ▸ Q5.out).setField hpn HY.out (j := 5) (y := topUp ⟨y1, y2, y3, y4, y5, y6⟩) (z := y6 + min 300 (y5 - y6)) (by decide) rfl rfl).past (gw_below _ _ (Nat.le_refl _)) (Nat.le_refl _)
              · have := G5.out
                simp
                omega
              · exact bl_gw ((HB2.out.trans B5.out).setCell (p := ⟨g, p * 6 + 5, none⟩) (Q5.out.lo ⟨g, 0, none⟩ rfl) _) pq
            case measure => simp [intOf]; omega
    · go_wp2
      go_ret3
      obtain rfl : k = m := by omega
      exact ⟨_, _, rfl, HO.out, HU.out.lower hz1', HB.out⟩
end Go.Proofs.YtggdcjajiaeklaaDoor
