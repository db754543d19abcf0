/- Walks of ships: waters. -/
import Derived.Test.YtggdcjajiaeklaaDoorShipC
import Derived.Test.YtggdcjajiaeklaaDoorInts
namespace Go.Proofs.YtggdcjajiaeklaaDoor
open Go.RowKit
def badWater (l : List Int) (i : Nat) : Bool := !(inB l[i]! 0 100)
def placeI (o : Option Nat) : Int := match o with | some k => k | none => -1
theorem placeI_neg (o : Option Nat) : decide (0 ≤ placeI o) = !o.isNone := by
  cases o with
  | none => rfl
  | some k => simp [placeI]
set_option maxHeartbeats 1000000 in
theorem closWater_any (a : Int) (w : World) :
    Calls Tryd.prog 58 #[.int .i64 a] w fun x w' => x = .returned (.bool (!(inB a 0 100))) ∧ w = w' := by
  go_enter Tryd.func58, Tryd.ntmps58
  go_wp2_with (first | (go_at_call 53; refine (within_any _ _ _ _).mono ?_; rintro e w1 ⟨rfl, rfl⟩))
  go_ret
  exact ⟨rfl, rfl⟩
set_option maxHeartbeats 4000000 in
theorem indexWater_any (l : List Int) (n : Nat) (hn : l.length = n) (A : Option Addr) (cap : Nat) (w : World) (hl : n ≤ 1048576) (hc : Sl encInt w w.heap.size A l) :
    Calls Tryd.prog 64 #[.slice A n cap, .func (.func 58) #[] #[]] w fun e w' => e = .returned (.int .i64 (placeI (firstTo (badWater l) l.length))) ∧ Below w.heap.size w w' := by
  have HC := Lib.hid hc; clear hc
  have HN := Lib.hid hn; clear hn
  go_enter Tryd.func64, Tryd.ntmps64
  go_wp2
  go_loopw [8] (fun i wr => ∃ k : Nat, k ≤ n ∧ i = .int .i64 k ∧ firstTo (badWater l) k = none ∧ Below w.heap.size w wr) (fun i _ => n - (intOf i).toNat)
  case atStart => exact ⟨0, Nat.zero_le _, rfl, rfl, Below.refl _ _⟩
  case round =>
    obtain ⟨k, hk, rfl, hall, hbel⟩ := hrel
    have HA := Lib.hid hall; clear hall
    have hsz := hbel.size
    by_cases hlt : k < n
    · obtain ⟨b, off, rfl, hb, hcs⟩ := HC.out.int_ (by rw [HN.out]; omega)
      have hx : l[k]? = some (l[k]'(by rw [HN.out]; exact hlt)) := List.getElem?_eq_getElem _
      generalize l[k]'(by rw [HN.out]; exact hlt) = x at hx
      have c0 := hcs k x hx
      clear hcs
      have hbad : badWater l k = !(inB x 0 100) := by simp [badWater, hx]
      clear hx
      rw [← hbel.cell hb] at c0
      have hbw : b < wr.heap.size := by omega
      have HX := Lib.hid (show badWater l k = true → placeI (firstTo (badWater l) l.length) = k from fun h => by
        simp [firstTo_hit HA.out h l.length (by rw [HN.out]; exact hlt), placeI])
      have HY := Lib.hid (show badWater l k = false → firstTo (badWater l) (k + 1) = none from fun h => firstTo_miss HA.out h)
      have HB := Lib.hid hbad
      clear hbad
      have k1 : (k : Int) < n := by omega
      have k2 : (0 : Int) ≤ (k : Int) := by omega
      rcases Bool.eq_false_or_eq_true (!(inB x 0 100)) with hq | hq
      · have HQ := Lib.hid hq; clear hq
        go_wp2_with (go_at_call 58; refine (closWater_any _ _).mono ?_; rintro e w1 ⟨rfl, rfl⟩; rw [HQ.out])
        go_ret
        rw [HX.out (by rw [HB.out]; exact HQ.out)]
        exact ⟨rfl, (by repeat (first | assumption | exact Below.refl _ _ | apply bl_gw | apply bl_alloc | apply bl_drewN | apply bl_drew))⟩
      · have HQ := Lib.hid hq; clear hq
        go_wp2_with (go_at_call 58; refine (closWater_any _ _).mono ?_; rintro e w1 ⟨rfl, rfl⟩; rw [HQ.out])
        go_roundw
        case rel => exact ⟨k + 1, by omega, by go_num, HY.out (by rw [HB.out]; exact HQ.out), (by repeat (first | assumption | exact Below.refl _ _ | apply bl_gw | apply bl_alloc | apply bl_drewN | apply bl_drew))⟩
        case measure => simp [intOf]; omega
    · go_wp2
      go_ret
      obtain rfl : k = n := by omega
      refine ⟨?_, hbel⟩
      rw [HN.out, HA.out]
      rfl
set_option maxHeartbeats 1000000 in
theorem containsWater_any (l : List Int) (n : Nat) (hn : l.length = n) (A : Option Addr) (cap : Nat) (w : World) (hl : n ≤ 1048576) (hc : Sl encInt w w.heap.size A l) :
    Calls Tryd.prog 57 #[.slice A n cap, .func (.func 58) #[] #[]] w fun e w' => e = .returned (.bool (!(firstTo (badWater l) l.length).isNone)) ∧ Below w.heap.size w w' := by
  have HC := Lib.hid hc; clear hc
  have HN := Lib.hid hn; clear hn
  rw [← placeI_neg]
  go_enter Tryd.func57, Tryd.ntmps57
  go_wp2_with (go_at_call 64; refine (indexWater_any l n HN.out _ _ _ hl HC.out).mono ?_; rintro e w1 ⟨rfl, hb⟩)
  go_ret
  exact ⟨ret_bool (by simp), hb⟩
def areWaters (l : List Int) : Bool := decide (l.length ≤ 400) && (firstTo (badWater l) l.length).isNone
set_option maxHeartbeats 1000000 in
theorem impl_areWaters_any (l : List Int) (n : Nat) (hn : l.length = n) (A : Option Addr) (cap : Nat) (w : World) (hl : n ≤ 1048576) (hc : Sl encInt w w.heap.size A l) :
    Calls Tryd.prog 35 #[.slice A n cap] w fun e w' => e = .returned (.bool (areWaters l)) ∧ Below w.heap.size w w' := by
  have HC := Lib.hid hc; clear hc
  obtain ⟨u, hu⟩ : ∃ u, (!(firstTo (badWater l) l.length).isNone) = u := ⟨_, rfl⟩
  have hd : areWaters l = (decide (n ≤ 400) && !u) := by rw [← hu, areWaters, hn]; simp
  have HN := Lib.hid hn; clear hn
  have HU := Lib.hid hu; clear hu
  rw [hd]
  clear hd
  by_cases h4 : n ≤ 400
  · have h5 : (n : Int) ≤ 400 := by omega
    go_enter Tryd.func35, Tryd.ntmps35
    go_wp2_with (go_at_call 57; refine (containsWater_any l n HN.out _ _ _ hl HC.out).mono ?_; rintro e w1 ⟨rfl, hb⟩; rw [HU.out]; obtain ⟨p, rfl⟩ := below_gw hb; clear hb)
    go_ret
    exact ⟨ret_bool (by simp [h4]), (by repeat (first | assumption | exact Below.refl _ _ | apply bl_gw | apply bl_alloc | apply bl_drewN | apply bl_drew))⟩
  · have h5 : ¬ (n : Int) ≤ 400 := by omega
    go_enter Tryd.func35, Tryd.ntmps35
    go_wp2
    go_ret
    exact ⟨ret_bool (by first | (simp; done) | (simp; omega)), (by repeat (first | assumption | exact Below.refl _ _ | apply bl_gw | apply bl_alloc | apply bl_drewN | apply bl_drew))⟩
set_option maxHeartbeats 4000000 in
theorem l17Water_any (l : List Int) (n : Nat) (hn : l.length = n) (A : Option Addr) (cap : Nat) (w : World) (hl : n ≤ 1048576) (hc : Sl encInt w w.heap.size A l) :
    Calls Tryd.prog 45 #[.slice A n cap] w fun e w' => e = .returned (.bool (areWaters l)) ∧ Below w.heap.size w w' := by
  have HC := Lib.hid hc; clear hc
  have HN := Lib.hid hn; clear hn
  by_cases h4 : (400 : Int) < n
  · go_enter Tryd.func45, Tryd.ntmps45
    go_wp2
    go_ret
    exact ⟨ret_bool (by rw [areWaters, HN.out]; simp; omega), (by repeat (first | assumption | exact Below.refl _ _ | apply bl_gw | apply bl_alloc | apply bl_drewN | apply bl_drew))⟩
  have h4' : n ≤ 400 := by omega
  go_enter Tryd.func45, Tryd.ntmps45
  go_wp2
  go_loopw [3] (fun i wr => ∃ k : Nat, k ≤ n ∧ i = .int .i64 k ∧ firstTo (badWater l) k = none ∧ Below w.heap.size w wr) (fun i _ => n - (intOf i).toNat)
  case atStart => exact ⟨0, Nat.zero_le _, rfl, rfl, Below.refl _ _⟩
  case round =>
    obtain ⟨k, hk, rfl, hall, hbel⟩ := hrel
    have HA := Lib.hid hall; clear hall
    have hsz := hbel.size
    by_cases hlt : k < n
    · obtain ⟨b, off, rfl, hb, hcs⟩ := HC.out.int_ (by rw [HN.out]; omega)
      have hx : l[k]? = some (l[k]'(by rw [HN.out]; exact hlt)) := List.getElem?_eq_getElem _
      generalize l[k]'(by rw [HN.out]; exact hlt) = x at hx
      have c0 := hcs k x hx
      clear hcs
      have hbad : badWater l k = !(inB x 0 100) := by simp [badWater, hx]
      clear hx
      rw [← hbel.cell hb] at c0
      have hbw : b < wr.heap.size := by omega
      have HX := Lib.hid (show badWater l k = true → Ending.returned (.bool false) = .returned (.bool (areWaters l)) from fun h => by
        simp [areWaters, firstTo_hit HA.out h l.length (by rw [HN.out]; exact hlt)])
      have HY := Lib.hid (show badWater l k = false → firstTo (badWater l) (k + 1) = none from fun h => firstTo_miss HA.out h)
      have HB := Lib.hid hbad
      clear hbad
      have k1 : (k : Int) < n := by omega
      have k2 : (0 : Int) ≤ (k : Int) := by omega
      rcases sp1 (inB x 0 100) with t1 | t1
      all_goals
        go_wp2_with (go_at_call 33; refine (l1In_q (by assumption) _).mono ?_; rintro e w1 ⟨rfl, rfl⟩)
      all_goals first
        | (go_ret
           exact ⟨HX.out (by rw [HB.out, t1]; rfl), (by repeat (first | assumption | exact Below.refl _ _ | apply bl_gw | apply bl_alloc | apply bl_drewN | apply bl_drew))⟩)
        | (go_roundw
           case rel => exact ⟨k + 1, by omega, by go_num, HY.out (by rw [HB.out, t1]; rfl), (by repeat (first | assumption | exact Below.refl _ _ | apply bl_gw | apply bl_alloc | apply bl_drewN | apply bl_drew))⟩
           case measure => simp [intOf]; omega)
    · go_wp2
      go_ret
      obtain rfl : k = n := by omega
      exact ⟨ret_bool (by rw [areWaters, HN.out, HA.out]; simp; omega), hbel⟩
end Go.Proofs.YtggdcjajiaeklaaDoor
