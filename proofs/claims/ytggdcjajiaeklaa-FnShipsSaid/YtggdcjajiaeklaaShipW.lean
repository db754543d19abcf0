/- Walks of ships: the rota of the quay, and what is loaded in a ship. -/
import Derived.Test.YtggdcjajiaeklaaShipV
namespace Go.Proofs.Ytggdcjajiaeklaa
open Go.RowKit
set_option maxRecDepth 4000 in
set_option maxHeartbeats 8000000 in
theorem impl_QuayRota_any (l : List Ship) (wt : List Int) (n m : Nat) (hn : l.length = n) (hm : wt.length = m) (A A' : Option Addr) (cap cap' : Nat) (w : World) (hcap : n ≤ cap) (hl : n ≤ 1048576) (hl' : m ≤ 1048576) (hc : Sl encShip w w.heap.size A l) (hd : Sl encInt w w.heap.size A' wt) :
    Calls Try.prog 43 #[.slice A n cap, .slice A' m cap'] w fun e w' => ∃ v, e = .returned (.tuple #[v, .bool (rotaOK l wt)]) ∧ Own encInt w' w.heap.size 3 v (quayP l wt) ∧ Below w.heap.size w w' := by
  have HC := Lib.hid hc; clear hc
  have HD := Lib.hid hd; clear hd
  have HN := Lib.hid hn; clear hn
  have HM := Lib.hid hm; clear hm
  have hb00 : Below w.heap.size w w := (by repeat (first | assumption | exact Below.refl _ _ | apply bl_gw | apply bl_alloc | apply bl_drewN | apply bl_drew))
  have ho00 : Own encInt w w.heap.size 3 (.slice none 0 0) [] := Own.none_
  have OO := Lib.hid ho00
  have BB := Lib.hid hb00
  clear ho00 hb00
  rcases sp2 (areShips l) (areWaters wt) with t1 | ⟨t1, t2⟩ | ⟨t1, t2⟩
  · have hq : rotaOK l wt = false := by simp [rotaOK, t1]
    have hp : quayP l wt = [] := by simp [quayP, hq]
    rw [hq, hp]
    clear hq hp
    go_enter Try.func43, Try.ntmps43
    go_wp2_with fail
    refine (impl_AreShips_any l n HN.out _ _ _ hcap hl (HC.out.past BB.out)).mono ?_
    rintro e w1 ⟨rfl, b1⟩
    rw [t1]
    have OO1 := Lib.hid (OO.out.past b1 (Nat.le_refl _))
    have B1 := Lib.hid (below_step BB.out b1)
    go_wp2
    go_ret2
    exact ⟨_, rfl, Own.none_, B1.out⟩
  · have hq : rotaOK l wt = false := by simp [rotaOK, t2]
    have hp : quayP l wt = [] := by simp [quayP, hq]
    rw [hq, hp]
    clear hq hp
    go_enter Try.func43, Try.ntmps43
    go_wp2_with fail
    refine (impl_AreShips_any l n HN.out _ _ _ hcap hl (HC.out.past BB.out)).mono ?_
    rintro e w1 ⟨rfl, b1⟩
    rw [t1]
    have OO1 := Lib.hid (OO.out.past b1 (Nat.le_refl _))
    have B1 := Lib.hid (below_step BB.out b1)
    have D1 := Lib.hid (HD.out.past B1.out)
    go_wp2_with fail
    refine (impl_areWaters_any wt m HM.out _ _ _ hl' D1.out).mono ?_
    rintro e w2 ⟨rfl, b2⟩
    rw [t2]
    have OO2 := Lib.hid (OO1.out.past b2 (Nat.le_refl _))
    have B2 := Lib.hid (below_step B1.out b2)
    go_wp2
    go_ret2
    exact ⟨_, rfl, Own.none_, B2.out⟩
  · have hq : rotaOK l wt = true := by simp [rotaOK, t1, t2]
    obtain ⟨D, hD⟩ : ∃ D, rotaD l wt m = D := ⟨_, rfl⟩
    have hp : quayP l wt = ridTo l D m := by simp [quayP, hq, HM.out, hD]
    rw [hq, hp]
    have HE := Lib.hid hD
    clear hq hp hD
    have HT1 := Lib.hid t1
    have hm4 : m ≤ 400 := by have := areWaters_len t2; rw [HM.out] at this; exact this
    have hn8 : n ≤ 8 := by have := areShips_len t1; rw [HN.out] at this; exact this
    obtain ⟨i0, hinf, hz0, hz1, hz2⟩ := info_parts info_Int
    go_enter Try.func43, Try.ntmps43
    go_wp2_with fail
    refine (impl_AreShips_any l n HN.out _ _ _ hcap hl (HC.out.past BB.out)).mono ?_
    rintro e w1 ⟨rfl, b1⟩
    rw [t1]
    have B1 := Lib.hid (below_step BB.out b1)
    have D1 := Lib.hid (HD.out.past B1.out)
    have BB1 := Lib.hid b1
    clear b1
    go_wp2_with fail
    refine (impl_areWaters_any wt m HM.out _ _ _ hl' D1.out).mono ?_
    rintro e w2 ⟨rfl, b2⟩
    rw [t2]
    have B2 := Lib.hid (below_step B1.out b2)
    have C2 := Lib.hid (HC.out.past B2.out)
    have D2 := Lib.hid (HD.out.past B2.out)
    have BB2 := Lib.hid (below_step BB1.out b2)
    clear b2
    go_wp2_with fail
    refine (rota_any l wt n m HN.out HM.out _ _ _ _ _ (fun i x hx => areShips_ok HT1.out hx) hl hm4 C2.out D2.out).mono ?_
    rintro e w3 ⟨vs, vd, rfl, os, od, b3⟩
    obtain ⟨As, cs, rfl, _, _, _⟩ := os.slice
    obtain ⟨Ad, cd, rfl, _, _, _⟩ := od.slice
    rw [rotaS_length, HN.out] at os ⊢
    rw [rotaD_length] at od ⊢
    have OS := Lib.hid os
    have OD := Lib.hid od
    have B3 := Lib.hid (below_step B2.out b3)
    have BB3 := Lib.hid (below_step BB2.out b3)
    clear os od b3
    clear t1 t2
    have OO3 := Lib.hid (OO.out.past BB3.out (Nat.le_refl _))
    rw [HE.out] at OD
    have HDl := Lib.hid (HE.out ▸ rotaD_length l wt m)
    have HDr := Lib.hid (show ∀ (k : Nat) (x : Int), D[k]? = some x → -1 ≤ x ∧ x < n from fun k x hx => by
      have hk : k < m := by rw [← HDl.out]; exact (List.getElem?_eq_some_iff.1 hx).1
      rw [← HE.out, rotaD_get l wt m k hk] at hx
      injection hx with hx
      have := rotaB_rng l wt k
      rw [HN.out] at this
      omega)
    have hz2' := B2.out.size
    have hz3' := B3.out.size
    have hz4' := BB2.out.size
    try simp at hz4'
    go_wp2
    go_loopw [9, 29] (fun u j wr => ∃ k : Nat, k ≤ m ∧ j = .int .i64 k ∧ Own encInt wr w.heap.size 3 u (ridTo l D k) ∧ Own encInt wr w2.heap.size 3 (.slice Ad m cd) D ∧ (∀ q, (Value.slice Ad m cd).ownBlock = some q → u.ownBlock ≠ some q) ∧ Below w.heap.size w wr) (fun _ j _ => m - (intOf j).toNat)
    case atStart =>
      refine ⟨0, Nat.zero_le _, rfl, Own.none_, OD.out, ?_, B3.out⟩
      intro q hq
      have := OD.out.row q hq
      simp [Value.ownBlock]
      try omega
    case round =>
      obtain ⟨k, hk, rfl, hu, hs, hap, hbel⟩ := hrel
      have HU := Lib.hid hu
      have HS := Lib.hid hs
      have HA := Lib.hid hap
      have hsz := hbel.size
      have HB := Lib.hid hbel
      have HL := Lib.hid (ridTo_length l D k)
      clear hu hs hap
      by_cases hlt : k < m
      · obtain ⟨gd, rfl⟩ := HS.out.some_ (show 0 < m by omega)
        have hx : D[k]? = some (D[k]'(by rw [HDl.out]; exact hlt)) := List.getElem?_eq_getElem _
        generalize D[k]'(by rw [HDl.out]; exact hlt) = x at hx
        obtain ⟨hx0, hx1⟩ := HDr.out k x hx
        have c0 : wr.cell? ⟨gd, k, none⟩ = some (.int .i64 x) := by
          obtain ⟨b, off, e', hb, hc⟩ := HS.out.rd.int_ (by rw [HDl.out]; omega)
          injection e' with e'
          injection e' with e1 e2
          subst e1 e2
          have := hc k x hx
          simp only [Nat.zero_add] at this
          exact this
        have hst : ridTo l D (k + 1) = ridTo l D k ++ [ridAt l x] := by rw [ridTo_succ, List.getElem!_of_getElem? hx]
        clear hx
        have k1 : (k : Int) < m := by omega
        have k2 : (0 : Int) ≤ k := by omega
        by_cases hneg : x < 0
        · have HST := Lib.hid (show ridTo l D (k + 1) = ridTo l D k ++ [0] by rw [hst, ridAt, if_pos hneg])
          clear hst
          go_wp2_with (at_builtin; refine halt ?_)
          unfold Halt
          refine wpList_app3 (E := encInt) rfl (.tmp 35) (.tmp 36) 39 rfl w.heap.size 3 i0 _ 8 Try.underlying39 hinf hz0 hz1 hz2 rfl (by decide) _ _ rfl HU.out (0) _ rfl rfl (by have := HL.out; unfold maxLen; omega) (by have := HL.out; omega) (by omega) ?_
          intro v5 w5 ho5 hb5 hap5
          have O5 := Lib.hid ho5
          have Q5 := Lib.hid (hap5 HS.out HA.out)
          have B5 := Lib.hid (HB.out.trans (hb5 w.heap.size (Nat.le_refl _)))
          clear ho5 hb5 hap5
          go_wp2
          go_roundw
          case rel => exact ⟨k + 1, by omega, by go_num, by rw [HST.out]; exact O5.out, Q5.out.1, Q5.out.2, B5.out⟩
          case measure => simp [intOf]; omega
        · obtain ⟨p, rfl⟩ : ∃ p : Nat, x = p := ⟨x.toNat, by omega⟩
          have hpn : p < n := by omega
          obtain ⟨bk, off, rfl, hb, hcs⟩ := HC.out.ship (by rw [HN.out]; omega)
          have hy : l[p]? = some (l[p]'(by rw [HN.out]; exact hpn)) := List.getElem?_eq_getElem _
          generalize l[p]'(by rw [HN.out]; exact hpn) = y at hy
          obtain ⟨d0, _⟩ := hcs p y hy
          clear hcs
          rw [← HB.out.cell hb] at d0
          have hbw : bk < wr.heap.size := by omega
          have HST := Lib.hid (show ridTo l D (k + 1) = ridTo l D k ++ [y.id] by rw [hst, ridAt, if_neg hneg, Int.toNat_natCast, List.getElem!_of_getElem? hy])
          clear hst hy
          have k3 : (p : Int) < n := by omega
          have k4 : (0 : Int) ≤ p := by omega
          go_wp2_with (at_builtin; refine halt ?_)
          unfold Halt
          refine wpList_app3 (E := encInt) rfl (.tmp 38) (.tmp 44) 39 rfl w.heap.size 3 i0 _ 8 Try.underlying39 hinf hz0 hz1 hz2 rfl (by decide) _ _ rfl HU.out (y.id) _ rfl rfl (by have := HL.out; unfold maxLen; omega) (by have := HL.out; omega) (by omega) ?_
          intro v5 w5 ho5 hb5 hap5
          have O5 := Lib.hid ho5
          have Q5 := Lib.hid (hap5 HS.out HA.out)
          have B5 := Lib.hid (HB.out.trans (hb5 w.heap.size (Nat.le_refl _)))
          clear ho5 hb5 hap5
          go_wp2
          go_roundw
          case rel => exact ⟨k + 1, by omega, by go_num, by rw [HST.out]; exact O5.out, Q5.out.1, Q5.out.2, B5.out⟩
          case measure => simp [intOf]; omega
      · go_wp2
        go_ret2
        obtain rfl : k = m := by omega
        exact ⟨_, rfl, HU.out, HB.out⟩
set_option maxRecDepth 4000 in
set_option maxHeartbeats 8000000 in
theorem spec_QuayRota_any (l : List Ship) (wt : List Int) (n m : Nat) (hn : l.length = n) (hm : wt.length = m) (A A' : Option Addr) (cap cap' : Nat) (w : World) (hcap : n ≤ cap) (hl : n ≤ 1048576) (hl' : m ≤ 1048576) (hc : Sl encShip w w.heap.size A l) (hd : Sl encInt w w.heap.size A' wt) :
    Calls Try.prog 42 #[.slice A n cap, .slice A' m cap'] w fun e w' => ∃ v, e = .returned (.tuple #[v, .bool (rotaOK l wt)]) ∧ Own encInt w' w.heap.size 3 v (quayP l wt) ∧ Below w.heap.size w w' := by
  have HC := Lib.hid hc; clear hc
  have HD := Lib.hid hd; clear hd
  have HN := Lib.hid hn; clear hn
  have HM := Lib.hid hm; clear hm
  have hb00 : Below w.heap.size w (w.alloc (.cells #[] 3)) := (by repeat (first | assumption | exact Below.refl _ _ | apply bl_gw | apply bl_alloc | apply bl_drewN | apply bl_drew))
  have ho00 : Own encInt (w.alloc (.cells #[] 3)) w.heap.size 3 (.slice (some ⟨w.heap.size, 0, none⟩) 0 0) [] := Own.nil_ (Nat.le_refl _) _
  have OO := Lib.hid ho00
  have BB := Lib.hid hb00
  clear ho00 hb00
  rcases sp2 (areShips l) (areWaters wt) with t1 | ⟨t1, t2⟩ | ⟨t1, t2⟩
  · have hq : rotaOK l wt = false := by simp [rotaOK, t1]
    have hp : quayP l wt = [] := by simp [quayP, hq]
    rw [hq, hp]
    clear hq hp
    go_enter Try.func42, Try.ntmps42
    go_wp2_with fail
    refine (l17Good_any l n HN.out _ _ _ hcap hl (HC.out.past BB.out)).mono ?_
    rintro e w1 ⟨rfl, b1⟩
    rw [t1]
    have OO1 := Lib.hid (OO.out.past b1 (Nat.le_refl _))
    have B1 := Lib.hid (below_step BB.out b1)
    go_wp2
    go_ret2
    exact ⟨_, rfl, OO1.out, B1.out⟩
  · have hq : rotaOK l wt = false := by simp [rotaOK, t2]
    have hp : quayP l wt = [] := by simp [quayP, hq]
    rw [hq, hp]
    clear hq hp
    go_enter Try.func42, Try.ntmps42
    go_wp2_with fail
    refine (l17Good_any l n HN.out _ _ _ hcap hl (HC.out.past BB.out)).mono ?_
    rintro e w1 ⟨rfl, b1⟩
    rw [t1]
    have OO1 := Lib.hid (OO.out.past b1 (Nat.le_refl _))
    have B1 := Lib.hid (below_step BB.out b1)
    have D1 := Lib.hid (HD.out.past B1.out)
    go_wp2_with fail
    refine (l17Water_any wt m HM.out _ _ _ hl' D1.out).mono ?_
    rintro e w2 ⟨rfl, b2⟩
    rw [t2]
    have OO2 := Lib.hid (OO1.out.past b2 (Nat.le_refl _))
    have B2 := Lib.hid (below_step B1.out b2)
    go_wp2
    go_ret2
    exact ⟨_, rfl, OO2.out, B2.out⟩
  · have hq : rotaOK l wt = true := by simp [rotaOK, t1, t2]
    obtain ⟨D, hD⟩ : ∃ D, rotaD l wt m = D := ⟨_, rfl⟩
    have hp : quayP l wt = ridTo l D m := by simp [quayP, hq, HM.out, hD]
    rw [hq, hp]
    have HE := Lib.hid hD
    clear hq hp hD
    have HT1 := Lib.hid t1
    have hm4 : m ≤ 400 := by have := areWaters_len t2; rw [HM.out] at this; exact this
    have hn8 : n ≤ 8 := by have := areShips_len t1; rw [HN.out] at this; exact this
    obtain ⟨i0, hinf, hz0, hz1, hz2⟩ := info_parts info_Int
    go_enter Try.func42, Try.ntmps42
    go_wp2_with fail
    refine (l17Good_any l n HN.out _ _ _ hcap hl (HC.out.past BB.out)).mono ?_
    rintro e w1 ⟨rfl, b1⟩
    rw [t1]
    have B1 := Lib.hid (below_step BB.out b1)
    have D1 := Lib.hid (HD.out.past B1.out)
    have BB1 := Lib.hid b1
    clear b1
    go_wp2_with fail
    refine (l17Water_any wt m HM.out _ _ _ hl' D1.out).mono ?_
    rintro e w2 ⟨rfl, b2⟩
    rw [t2]
    have B2 := Lib.hid (below_step B1.out b2)
    have C2 := Lib.hid (HC.out.past B2.out)
    have D2 := Lib.hid (HD.out.past B2.out)
    have BB2 := Lib.hid (below_step BB1.out b2)
    clear b2
    go_wp2_with fail
    refine (l17Rota_any l wt n m m 400 HN.out HM.out _ _ _ _ _ (fun i x hx => areShips_ok HT1.out hx) hl hm4 (by omega) (by omega) C2.out D2.out).mono ?_
    rintro e w3 ⟨vd, vs, rfl, od, os, b3⟩
    obtain ⟨As, cs, rfl, _, _, _⟩ := os.slice
    obtain ⟨Ad, cd, rfl, _, _, _⟩ := od.slice
    rw [rotaS_length, HN.out] at os ⊢
    rw [rotaD_length] at od ⊢
    have OS := Lib.hid os
    have OD := Lib.hid od
    have B3 := Lib.hid (below_step B2.out b3)
    have BB3 := Lib.hid (below_step BB2.out b3)
    clear os od b3
    clear t1 t2
    have OO3 := Lib.hid (OO.out.past BB3.out (Nat.le_refl _))
    rw [HE.out] at OD
    have HDl := Lib.hid (HE.out ▸ rotaD_length l wt m)
    have HDr := Lib.hid (show ∀ (k : Nat) (x : Int), D[k]? = some x → -1 ≤ x ∧ x < n from fun k x hx => by
      have hk : k < m := by rw [← HDl.out]; exact (List.getElem?_eq_some_iff.1 hx).1
      rw [← HE.out, rotaD_get l wt m k hk] at hx
      injection hx with hx
      have := rotaB_rng l wt k
      rw [HN.out] at this
      omega)
    have hz2' := B2.out.size
    have hz3' := B3.out.size
    have hz4' := BB2.out.size
    try simp at hz4'
    go_wp2
    go_loopw [6, 9] (fun u j wr => ∃ k : Nat, k ≤ m ∧ j = .int .i64 k ∧ Own encInt wr w.heap.size 3 u (ridTo l D k) ∧ Own encInt wr w2.heap.size 3 (.slice Ad m cd) D ∧ (∀ q, (Value.slice Ad m cd).ownBlock = some q → u.ownBlock ≠ some q) ∧ Below w.heap.size w wr) (fun _ j _ => m - (intOf j).toNat)
    case atStart =>
      refine ⟨0, Nat.zero_le _, rfl, OO3.out, OD.out, ?_, B3.out⟩
      intro q hq
      have := OD.out.row q hq
      simp [Value.ownBlock]
      try omega
    case round =>
      obtain ⟨k, hk, rfl, hu, hs, hap, hbel⟩ := hrel
      have HU := Lib.hid hu
      have HS := Lib.hid hs
      have HA := Lib.hid hap
      have hsz := hbel.size
      have HB := Lib.hid hbel
      have HL := Lib.hid (ridTo_length l D k)
      clear hu hs hap
      by_cases hlt : k < m
      · obtain ⟨gd, rfl⟩ := HS.out.some_ (show 0 < m by omega)
        have hx : D[k]? = some (D[k]'(by rw [HDl.out]; exact hlt)) := List.getElem?_eq_getElem _
        generalize D[k]'(by rw [HDl.out]; exact hlt) = x at hx
        obtain ⟨hx0, hx1⟩ := HDr.out k x hx
        have c0 : wr.cell? ⟨gd, k, none⟩ = some (.int .i64 x) := by
          obtain ⟨b, off, e', hb, hc⟩ := HS.out.rd.int_ (by rw [HDl.out]; omega)
          injection e' with e'
          injection e' with e1 e2
          subst e1 e2
          have := hc k x hx
          simp only [Nat.zero_add] at this
          exact this
        have hst : ridTo l D (k + 1) = ridTo l D k ++ [ridAt l x] := by rw [ridTo_succ, List.getElem!_of_getElem? hx]
        clear hx
        have k1 : (k : Int) < m := by omega
        have k2 : (0 : Int) ≤ k := by omega
        by_cases hneg : x < 0
        · have HST := Lib.hid (show ridTo l D (k + 1) = ridTo l D k ++ [0] by rw [hst, ridAt, if_pos hneg])
          clear hst
          go_wp2_with (at_builtin; refine halt ?_)
          unfold Halt
          refine wpList_app3 (E := encInt) rfl (.tmp 37) (.tmp 38) 39 rfl w.heap.size 3 i0 _ 8 Try.underlying39 hinf hz0 hz1 hz2 rfl (by decide) _ _ rfl HU.out (0) _ rfl rfl (by have := HL.out; unfold maxLen; omega) (by have := HL.out; omega) (by omega) ?_
          intro v5 w5 ho5 hb5 hap5
          have O5 := Lib.hid ho5
          have Q5 := Lib.hid (hap5 HS.out HA.out)
          have B5 := Lib.hid (HB.out.trans (hb5 w.heap.size (Nat.le_refl _)))
          clear ho5 hb5 hap5
          go_wp2
          go_roundw
          case rel => exact ⟨k + 1, by omega, by go_num, by rw [HST.out]; exact O5.out, Q5.out.1, Q5.out.2, B5.out⟩
          case measure => simp [intOf]; omega
        · obtain ⟨p, rfl⟩ : ∃ p : Nat, x = p := ⟨x.toNat, by omega⟩
          have hpn : p < n := by omega
          obtain ⟨bk, off, rfl, hb, hcs⟩ := HC.out.ship (by rw [HN.out]; omega)
          have hy : l[p]? = some (l[p]'(by rw [HN.out]; exact hpn)) := List.getElem?_eq_getElem _
          generalize l[p]'(by rw [HN.out]; exact hpn) = y at hy
          obtain ⟨d0, _⟩ := hcs p y hy
          clear hcs
          rw [← HB.out.cell hb] at d0
          have hbw : bk < wr.heap.size := by omega
          have HST := Lib.hid (show ridTo l D (k + 1) = ridTo l D k ++ [y.id] by rw [hst, ridAt, if_neg hneg, Int.toNat_natCast, List.getElem!_of_getElem? hy])
          clear hst hy
          have k3 : (p : Int) < n := by omega
          have k4 : (0 : Int) ≤ p := by omega
          go_wp2_with (at_builtin; refine halt ?_)
          unfold Halt
          refine wpList_app3 (E := encInt) rfl (.tmp 40) (.tmp 49) 39 rfl w.heap.size 3 i0 _ 8 Try.underlying39 hinf hz0 hz1 hz2 rfl (by decide) _ _ rfl HU.out (y.id) _ rfl rfl (by have := HL.out; unfold maxLen; omega) (by have := HL.out; omega) (by omega) ?_
          intro v5 w5 ho5 hb5 hap5
          have O5 := Lib.hid ho5
          have Q5 := Lib.hid (hap5 HS.out HA.out)
          have B5 := Lib.hid (HB.out.trans (hb5 w.heap.size (Nat.le_refl _)))
          clear ho5 hb5 hap5
          go_wp2
          go_roundw
          case rel => exact ⟨k + 1, by omega, by go_num, by rw [HST.out]; exact O5.out, Q5.out.1, Q5.out.2, B5.out⟩
          case measure => simp [intOf]; omega
      · go_wp2
        go_ret2
        obtain rfl : k = m := by omega
        exact ⟨_, rfl, HU.out, HB.out⟩
end Go.Proofs.Ytggdcjajiaeklaa
