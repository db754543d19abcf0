/- Walks of ships: what is loaded in a ship. -/
import Derived.Test.YtggdcjajiaeklaaDoorShipV
namespace Go.Proofs.YtggdcjajiaeklaaDoor
open Go.RowKit
/-! What is loaded in a ship. -/
def loadOK (l : List Ship) (wt : List Int) (id day : Int) : Bool := (rotaOK l wt && decide (0 ≤ shipPlace l id)) && inB day 0 4000
def loadP (l : List Ship) (wt : List Int) (id day : Int) : Int := if loadOK l wt id day then (rotaS l wt (min (day + 1).toNat wt.length))[(shipPlace l id).toNat]!.loaded else 0
set_option maxRecDepth 4000 in
set_option maxHeartbeats 8000000 in
theorem spec_LoadedBy_any (l : List Ship) (wt : List Int) (n m : Nat) (hn : l.length = n) (hm : wt.length = m) (A A' : Option Addr) (cap cap' : Nat) (id day : Int) (w : World) (hcap : n ≤ cap) (_hcap' : m ≤ cap') (hl : n ≤ 1048576) (hl' : m ≤ 1048576) (hc : Sl encShip w w.heap.size A l) (hd : Sl encInt w w.heap.size A' wt) :
    Calls Tryd.prog 16 #[.slice A n cap, .slice A' m cap', .int .i64 id, .int .i64 day] w fun e w' => e = .returned (.tuple #[.int .i64 (loadP l wt id day), .bool (loadOK l wt id day)]) ∧ Below w.heap.size w w' := by
  have HC := Lib.hid hc; clear hc
  have HD := Lib.hid hd; clear hd
  have HN := Lib.hid hn; clear hn
  have HM := Lib.hid hm; clear hm
  obtain ⟨at_, hat⟩ : ∃ v, shipPlace l id = v := ⟨_, rfl⟩
  have HAT := Lib.hid hat
  rcases sp4 (areShips l) (areWaters wt) (decide (0 ≤ at_)) (inB day 0 4000) with t1 | ⟨t1, t2⟩ | ⟨t1, t2, t3⟩ | ⟨t1, t2, t3, t4⟩ | ⟨t1, t2, t3, t4⟩
  · have hq : loadOK l wt id day = false := by simp [loadOK, rotaOK, t1]
    have hp : loadP l wt id day = 0 := by simp [loadP, hq]
    rw [hq, hp]
    clear hq hp
    go_enter Tryd.func16, Tryd.ntmps16
    go_wp2_with fail
    refine (l17Find_any l n HN.out _ _ id _ hl HC.out).mono ?_
    rintro e w0 ⟨rfl, b0⟩
    rw [HAT.out]
    have B0 := Lib.hid b0
    clear b0
    go_wp2_with fail
    refine (l17Good_any l n HN.out _ _ _ hcap hl (HC.out.past B0.out)).mono ?_
    rintro e w1 ⟨rfl, b1⟩
    rw [t1]
    have B1 := Lib.hid (below_step B0.out b1)
    have D1 := Lib.hid (HD.out.past B1.out)
    clear b1
    go_wp2
    go_ret2
    exact ⟨rfl, B1.out⟩
  · have hq : loadOK l wt id day = false := by simp [loadOK, rotaOK, t2]
    have hp : loadP l wt id day = 0 := by simp [loadP, hq]
    rw [hq, hp]
    clear hq hp
    go_enter Tryd.func16, Tryd.ntmps16
    go_wp2_with fail
    refine (l17Find_any l n HN.out _ _ id _ hl HC.out).mono ?_
    rintro e w0 ⟨rfl, b0⟩
    rw [HAT.out]
    have B0 := Lib.hid b0
    clear b0
    go_wp2_with fail
    refine (l17Good_any l n HN.out _ _ _ hcap hl (HC.out.past B0.out)).mono ?_
    rintro e w1 ⟨rfl, b1⟩
    rw [t1]
    have B1 := Lib.hid (below_step B0.out b1)
    have D1 := Lib.hid (HD.out.past B1.out)
    clear b1
    go_wp2_with fail
    refine (l17Water_any wt m HM.out _ _ _ hl' D1.out).mono ?_
    rintro e w2 ⟨rfl, b2⟩
    rw [t2]
    have B2 := Lib.hid (below_step B1.out b2)
    have C2 := Lib.hid (HC.out.past B2.out)
    have D2 := Lib.hid (HD.out.past B2.out)
    clear b2
    go_wp2
    go_ret2
    exact ⟨rfl, B2.out⟩
  · have t3' : ¬ 0 ≤ at_ := by simpa using t3
    have t5 : at_ < 0 := by omega
    have hq : loadOK l wt id day = false := by simp [loadOK, rotaOK, hat, t3']
    have hp : loadP l wt id day = 0 := by simp [loadP, hq]
    rw [hq, hp]
    clear hq hp
    clear t3
    go_enter Tryd.func16, Tryd.ntmps16
    go_wp2_with fail
    refine (l17Find_any l n HN.out _ _ id _ hl HC.out).mono ?_
    rintro e w0 ⟨rfl, b0⟩
    rw [HAT.out]
    have B0 := Lib.hid b0
    clear b0
    go_wp2_with fail
    refine (l17Good_any l n HN.out _ _ _ hcap hl (HC.out.past B0.out)).mono ?_
    rintro e w1 ⟨rfl, b1⟩
    rw [t1]
    have B1 := Lib.hid (below_step B0.out b1)
    have D1 := Lib.hid (HD.out.past B1.out)
    clear b1
    go_wp2_with fail
    refine (l17Water_any wt m HM.out _ _ _ hl' D1.out).mono ?_
    rintro e w2 ⟨rfl, b2⟩
    rw [t2]
    have B2 := Lib.hid (below_step B1.out b2)
    have C2 := Lib.hid (HC.out.past B2.out)
    have D2 := Lib.hid (HD.out.past B2.out)
    clear b2
    go_wp2
    go_ret2
    exact ⟨rfl, B2.out⟩
  · have hq : loadOK l wt id day = false := by simp [loadOK, rotaOK, t4]
    have hp : loadP l wt id day = 0 := by simp [loadP, hq]
    rw [hq, hp]
    clear hq hp
    have t5 : ¬ at_ < 0 := by simp at t3; omega
    go_enter Tryd.func16, Tryd.ntmps16
    go_wp2_with fail
    refine (l17Find_any l n HN.out _ _ id _ hl HC.out).mono ?_
    rintro e w0 ⟨rfl, b0⟩
    rw [HAT.out]
    have B0 := Lib.hid b0
    clear b0
    go_wp2_with fail
    refine (l17Good_any l n HN.out _ _ _ hcap hl (HC.out.past B0.out)).mono ?_
    rintro e w1 ⟨rfl, b1⟩
    rw [t1]
    have B1 := Lib.hid (below_step B0.out b1)
    have D1 := Lib.hid (HD.out.past B1.out)
    clear b1
    go_wp2_with fail
    refine (l17Water_any wt m HM.out _ _ _ hl' D1.out).mono ?_
    rintro e w2 ⟨rfl, b2⟩
    rw [t2]
    have B2 := Lib.hid (below_step B1.out b2)
    have C2 := Lib.hid (HC.out.past B2.out)
    have D2 := Lib.hid (HD.out.past B2.out)
    clear b2
    go_wp2_with fail
    refine (l2Day_any _ _).mono ?_
    rintro e w2' ⟨rfl, rfl⟩
    rw [t4]
    go_wp2
    go_ret2
    exact ⟨rfl, B2.out⟩
  · have hq : loadOK l wt id day = true := by simp only [loadOK, rotaOK, t1, t2, hat, t3, t4]; rfl
    have t5 : ¬ at_ < 0 := by simp at t3; omega
    obtain ⟨p, rfl, hpl⟩ := shipPlace_lt hat (of_decide_eq_true t3)
    rw [HN.out] at hpl
    obtain ⟨d0, d1⟩ := inB_true t4
    obtain ⟨dd, rfl⟩ : ∃ dd : Nat, day = dd := ⟨day.toNat, by omega⟩
    obtain ⟨mm, hmm⟩ : ∃ mm : Nat, mm = min (dd + 1) m := ⟨_, rfl⟩
    have hp : loadP l wt id dd = (rotaS l wt mm)[p]!.loaded := by
      rw [loadP, if_pos hq, hat, Int.toNat_natCast, HM.out, show ((dd : Int) + 1).toNat = dd + 1 by omega, hmm]
    rw [hq, hp]
    clear hq hp hat
    have HT1 := Lib.hid t1
    have hm4 : m ≤ 400 := by have := areWaters_len t2; rw [HM.out] at this; exact this
    have hn8 : n ≤ 8 := by have := areShips_len t1; rw [HN.out] at this; exact this
    go_enter Tryd.func16, Tryd.ntmps16
    go_wp2_with fail
    refine (l17Find_any l n HN.out _ _ id _ hl HC.out).mono ?_
    rintro e w0 ⟨rfl, b0⟩
    rw [HAT.out]
    have B0 := Lib.hid b0
    clear b0
    go_wp2_with fail
    refine (l17Good_any l n HN.out _ _ _ hcap hl (HC.out.past B0.out)).mono ?_
    rintro e w1 ⟨rfl, b1⟩
    rw [t1]
    have B1 := Lib.hid (below_step B0.out b1)
    have D1 := Lib.hid (HD.out.past B1.out)
    clear b1
    go_wp2_with fail
    refine (l17Water_any wt m HM.out _ _ _ hl' D1.out).mono ?_
    rintro e w2 ⟨rfl, b2⟩
    rw [t2]
    have B2 := Lib.hid (below_step B1.out b2)
    have C2 := Lib.hid (HC.out.past B2.out)
    have D2 := Lib.hid (HD.out.past B2.out)
    clear b2
    go_wp2_with fail
    refine (l2Day_any _ _).mono ?_
    rintro e w2' ⟨rfl, rfl⟩
    rw [t4]
    clear t1 t2 t3 t4
    have kd : IntKind.i64.wrap ((dd : Int) + 1) = (dd : Int) + 1 := IntWalk.i64_in _ (by omega)
    go_wp2_with fail
    refine (l17Rota_any l wt n m mm ((dd : Int) + 1) HN.out HM.out _ _ _ _ _ (fun i x hx => areShips_ok HT1.out hx) hl hm4 (by omega) (by omega) C2.out D2.out).mono ?_
    rintro e w3 ⟨vd, vs, rfl, od, os, b3⟩
    clear od
    obtain ⟨As, cs, rfl, _, _, _⟩ := os.slice
    rw [rotaS_length, HN.out] at os ⊢
    obtain ⟨g, rfl⟩ := os.some_ (show 0 < n by omega)
    have hy : (rotaS l wt mm)[p]? = some ((rotaS l wt mm)[p]'(by rw [rotaS_length, HN.out]; exact hpl)) := List.getElem?_eq_getElem _
    generalize (rotaS l wt mm)[p]'(by rw [rotaS_length, HN.out]; exact hpl) = y at hy
    obtain ⟨hgw, c0, c1, c2, c3, c4, c5⟩ := os.ship hy
    have HY := Lib.hid (List.getElem!_of_getElem? hy)
    have B3 := Lib.hid (below_step B2.out b3)
    have k3 : (p : Int) < n := by omega
    have k4 : (0 : Int) ≤ p := by omega
    clear os b3 hy
    go_wp2
    go_ret2
    rw [HY.out]
    exact ⟨rfl, B3.out⟩
set_option maxRecDepth 4000 in
set_option maxHeartbeats 8000000 in
theorem impl_LoadedBy_any (l : List Ship) (wt : List Int) (n m : Nat) (hn : l.length = n) (hm : wt.length = m) (A A' : Option Addr) (cap cap' : Nat) (id day : Int) (w : World) (hcap : n ≤ cap) (_hcap' : m ≤ cap') (hl : n ≤ 1048576) (hl' : m ≤ 1048576) (hc : Sl encShip w w.heap.size A l) (hd : Sl encInt w w.heap.size A' wt) :
    Calls Tryd.prog 15 #[.slice A n cap, .slice A' m cap', .int .i64 id, .int .i64 day] w fun e w' => e = .returned (.tuple #[.int .i64 (loadP l wt id day), .bool (loadOK l wt id day)]) ∧ Below w.heap.size w w' := by
  have HC := Lib.hid hc; clear hc
  have HD := Lib.hid hd; clear hd
  have HN := Lib.hid hn; clear hn
  have HM := Lib.hid hm; clear hm
  obtain ⟨at_, hat⟩ : ∃ v, shipPlace l id = v := ⟨_, rfl⟩
  have HAT := Lib.hid hat
  rcases sp4 (areShips l) (areWaters wt) (decide (0 ≤ at_)) (inB day 0 4000) with t1 | ⟨t1, t2⟩ | ⟨t1, t2, t3⟩ | ⟨t1, t2, t3, t4⟩ | ⟨t1, t2, t3, t4⟩
  · have hq : loadOK l wt id day = false := by simp [loadOK, rotaOK, t1]
    have hp : loadP l wt id day = 0 := by simp [loadP, hq]
    rw [hq, hp]
    clear hq hp
    go_enter Tryd.func15, Tryd.ntmps15
    go_wp2_with fail
    refine (shipAt_any l n HN.out _ _ id _ hl HC.out).mono ?_
    rintro e w0 ⟨rfl, b0⟩
    rw [HAT.out]
    have B0 := Lib.hid b0
    clear b0
    go_wp2_with fail
    refine (impl_AreShips_any l n HN.out _ _ _ hcap hl (HC.out.past B0.out)).mono ?_
    rintro e w1 ⟨rfl, b1⟩
    rw [t1]
    have B1 := Lib.hid (below_step B0.out b1)
    have D1 := Lib.hid (HD.out.past B1.out)
    clear b1
    go_wp2
    go_ret2
    exact ⟨rfl, B1.out⟩
  · have hq : loadOK l wt id day = false := by simp [loadOK, rotaOK, t2]
    have hp : loadP l wt id day = 0 := by simp [loadP, hq]
    rw [hq, hp]
    clear hq hp
    go_enter Tryd.func15, Tryd.ntmps15
    go_wp2_with fail
    refine (shipAt_any l n HN.out _ _ id _ hl HC.out).mono ?_
    rintro e w0 ⟨rfl, b0⟩
    rw [HAT.out]
    have B0 := Lib.hid b0
    clear b0
    go_wp2_with fail
    refine (impl_AreShips_any l n HN.out _ _ _ hcap hl (HC.out.past B0.out)).mono ?_
    rintro e w1 ⟨rfl, b1⟩
    rw [t1]
    have B1 := Lib.hid (below_step B0.out b1)
    have D1 := Lib.hid (HD.out.past B1.out)
    clear b1
    go_wp2_with fail
    refine (impl_areWaters_any wt m HM.out _ _ _ hl' D1.out).mono ?_
    rintro e w2 ⟨rfl, b2⟩
    rw [t2]
    have B2 := Lib.hid (below_step B1.out b2)
    have C2 := Lib.hid (HC.out.past B2.out)
    have D2 := Lib.hid (HD.out.past B2.out)
    clear b2
    go_wp2
    go_ret2
    exact ⟨rfl, B2.out⟩
  · have t3' : ¬ 0 ≤ at_ := by simpa using t3
    have t5 : at_ < 0 := by omega
    have hq : loadOK l wt id day = false := by simp [loadOK, rotaOK, hat, t3']
    have hp : loadP l wt id day = 0 := by simp [loadP, hq]
    rw [hq, hp]
    clear hq hp
    clear t3
    go_enter Tryd.func15, Tryd.ntmps15
    go_wp2_with fail
    refine (shipAt_any l n HN.out _ _ id _ hl HC.out).mono ?_
    rintro e w0 ⟨rfl, b0⟩
    rw [HAT.out]
    have B0 := Lib.hid b0
    clear b0
    go_wp2_with fail
    refine (impl_AreShips_any l n HN.out _ _ _ hcap hl (HC.out.past B0.out)).mono ?_
    rintro e w1 ⟨rfl, b1⟩
    rw [t1]
    have B1 := Lib.hid (below_step B0.out b1)
    have D1 := Lib.hid (HD.out.past B1.out)
    clear b1
    go_wp2_with fail
    refine (impl_areWaters_any wt m HM.out _ _ _ hl' D1.out).mono ?_
    rintro e w2 ⟨rfl, b2⟩
    rw [t2]
    have B2 := Lib.hid (below_step B1.out b2)
    have C2 := Lib.hid (HC.out.past B2.out)
    have D2 := Lib.hid (HD.out.past B2.out)
    clear b2
    go_wp2
    go_ret2
    exact ⟨rfl, B2.out⟩
  · have hq : loadOK l wt id day = false := by simp [loadOK, rotaOK, t4]
    have hp : loadP l wt id day = 0 := by simp [loadP, hq]
    rw [hq, hp]
    clear hq hp
    have t5 : ¬ at_ < 0 := by simp at t3; omega
    go_enter Tryd.func15, Tryd.ntmps15
    go_wp2_with fail
    refine (shipAt_any l n HN.out _ _ id _ hl HC.out).mono ?_
    rintro e w0 ⟨rfl, b0⟩
    rw [HAT.out]
    have B0 := Lib.hid b0
    clear b0
    go_wp2_with fail
    refine (impl_AreShips_any l n HN.out _ _ _ hcap hl (HC.out.past B0.out)).mono ?_
    rintro e w1 ⟨rfl, b1⟩
    rw [t1]
    have B1 := Lib.hid (below_step B0.out b1)
    have D1 := Lib.hid (HD.out.past B1.out)
    clear b1
    go_wp2_with fail
    refine (impl_areWaters_any wt m HM.out _ _ _ hl' D1.out).mono ?_
    rintro e w2 ⟨rfl, b2⟩
    rw [t2]
    have B2 := Lib.hid (below_step B1.out b2)
    have C2 := Lib.hid (HC.out.past B2.out)
    have D2 := Lib.hid (HD.out.past B2.out)
    clear b2
    go_wp2_with fail
    refine (isDay_any _ _).mono ?_
    rintro e w2' ⟨rfl, rfl⟩
    rw [t4]
    go_wp2
    go_ret2
    exact ⟨rfl, B2.out⟩
  · have hq : loadOK l wt id day = true := by simp only [loadOK, rotaOK, t1, t2, hat, t3, t4]; rfl
    have t5 : ¬ at_ < 0 := by simp at t3; omega
    obtain ⟨p, rfl, hpl⟩ := shipPlace_lt hat (of_decide_eq_true t3)
    rw [HN.out] at hpl
    obtain ⟨d0, d1⟩ := inB_true t4
    obtain ⟨dd, rfl⟩ : ∃ dd : Nat, day = dd := ⟨day.toNat, by omega⟩
    obtain ⟨mm, hmm⟩ : ∃ mm : Nat, mm = min (dd + 1) m := ⟨_, rfl⟩
    have hp : loadP l wt id dd = (rotaS l wt mm)[p]!.loaded := by
      rw [loadP, if_pos hq, hat, Int.toNat_natCast, HM.out, show ((dd : Int) + 1).toNat = dd + 1 by omega, hmm]
    rw [hq, hp]
    clear hq hp hat
    have HT1 := Lib.hid t1
    have hm4 : m ≤ 400 := by have := areWaters_len t2; rw [HM.out] at this; exact this
    have hn8 : n ≤ 8 := by have := areShips_len t1; rw [HN.out] at this; exact this
    go_enter Tryd.func15, Tryd.ntmps15
    go_wp2_with fail
    refine (shipAt_any l n HN.out _ _ id _ hl HC.out).mono ?_
    rintro e w0 ⟨rfl, b0⟩
    rw [HAT.out]
    have B0 := Lib.hid b0
    clear b0
    go_wp2_with fail
    refine (impl_AreShips_any l n HN.out _ _ _ hcap hl (HC.out.past B0.out)).mono ?_
    rintro e w1 ⟨rfl, b1⟩
    rw [t1]
    have B1 := Lib.hid (below_step B0.out b1)
    have D1 := Lib.hid (HD.out.past B1.out)
    clear b1
    go_wp2_with fail
    refine (impl_areWaters_any wt m HM.out _ _ _ hl' D1.out).mono ?_
    rintro e w2 ⟨rfl, b2⟩
    rw [t2]
    have B2 := Lib.hid (below_step B1.out b2)
    have C2 := Lib.hid (HC.out.past B2.out)
    have D2 := Lib.hid (HD.out.past B2.out)
    clear b2
    go_wp2_with fail
    refine (isDay_any _ _).mono ?_
    rintro e w2' ⟨rfl, rfl⟩
    rw [t4]
    clear t1 t2 t3 t4
    have kd : IntKind.i64.wrap ((dd : Int) + 1) = (dd : Int) + 1 := IntWalk.i64_in _ (by omega)
    have HTk := Lib.hid (show (wt.take mm).length = mm by rw [List.length_take, HM.out, hmm]; omega)
    have hmi : (if (m : Int) < (dd : Int) + 1 then (m : Int) else (dd : Int) + 1) = mm := by split <;> omega
    have hm5 : (mm : Int) ≤ cap' := by have := _hcap'; omega
    have hm6 : (0 : Int) ≤ mm := by omega
    have hm7 : ((mm : Int)).toNat = mm := by omega
    go_wp2_with fail
    rw [← hmm]
    refine (rota_any l (wt.take mm) n mm HN.out HTk.out _ _ _ _ _ (fun i x hx => areShips_ok HT1.out hx) hl (by omega) C2.out (D2.out.take mm)).mono ?_
    rintro e w3 ⟨vs, vd, rfl, os, od, b3⟩
    rw [rotaS_take l wt mm mm (Nat.le_refl _)] at os
    clear od
    obtain ⟨As, cs, rfl, _, _, _⟩ := os.slice
    rw [rotaS_length, HN.out] at os ⊢
    obtain ⟨g, rfl⟩ := os.some_ (show 0 < n by omega)
    have hy : (rotaS l wt mm)[p]? = some ((rotaS l wt mm)[p]'(by rw [rotaS_length, HN.out]; exact hpl)) := List.getElem?_eq_getElem _
    generalize (rotaS l wt mm)[p]'(by rw [rotaS_length, HN.out]; exact hpl) = y at hy
    obtain ⟨hgw, c0, c1, c2, c3, c4, c5⟩ := os.ship hy
    have HY := Lib.hid (List.getElem!_of_getElem? hy)
    have B3 := Lib.hid (below_step B2.out b3)
    have k3 : (p : Int) < n := by omega
    have k4 : (0 : Int) ≤ p := by omega
    clear os b3 hy
    go_wp2
    go_ret2
    rw [HY.out]
    exact ⟨rfl, B3.out⟩
end Go.Proofs.YtggdcjajiaeklaaDoor
