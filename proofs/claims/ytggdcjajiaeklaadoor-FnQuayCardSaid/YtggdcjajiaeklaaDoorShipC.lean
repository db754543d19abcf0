/- Walks of ships: whether a list are ships. -/
import Derived.Test.YtggdcjajiaeklaaDoorShipB
namespace Go.Proofs.YtggdcjajiaeklaaDoor
open Go.RowKit
theorem IsShip_q {a b c d e f : Int} {v : Bool} (h : shipOK ⟨a, b, c, d, e, f⟩ = v) (w : World) :
    Calls Tryd.prog 24 #[.agg #[.int .i64 a, .int .i64 b, .int .i64 c, .int .i64 d, .int .i64 e, .int .i64 f]] w fun x w' => x = .returned (.bool v) ∧ Below w.heap.size w w' := h ▸ IsShip_any a b c d e f w
theorem l17One_q {a b c d e f : Int} {v : Bool} (h : shipOK ⟨a, b, c, d, e, f⟩ = v) (w : World) :
    Calls Tryd.prog 27 #[.agg #[.int .i64 a, .int .i64 b, .int .i64 c, .int .i64 d, .int .i64 e, .int .i64 f]] w fun x w' => x = .returned (.bool v) ∧ Below w.heap.size w w' := h ▸ l17One_any a b c d e f w
theorem l17Find_q {l : List Ship} {n : Nat} (hn : l.length = n) (A : Option Addr) (cap : Nat) (id : Int) {v : Int} (h : shipPlace l id = v) (w : World) (hl : n ≤ 1048576) (hc : Sl encShip w w.heap.size A l) :
    Calls Tryd.prog 44 #[.slice A n cap, .int .i64 id] w fun e w' => e = .returned (.int .i64 v) ∧ Below w.heap.size w w' := h ▸ l17Find_any l n hn A cap id w hl hc
theorem shipAt_q {l : List Ship} {n : Nat} (hn : l.length = n) (A : Option Addr) (cap : Nat) (id : Int) {v : Int} (h : shipPlace l id = v) (w : World) (hl : n ≤ 1048576) (hc : Sl encShip w w.heap.size A l) :
    Calls Tryd.prog 34 #[.slice A n cap, .int .i64 id] w fun e w' => e = .returned (.int .i64 v) ∧ Below w.heap.size w w' := h ▸ shipAt_any l n hn A cap id w hl hc
def badShip (l : List Ship) (i : Nat) : Bool := !(shipOK l[i]! && ((decide (i = 0) || decide (l[i-1]!.come ≤ l[i]!.come)) && decide (shipPlace (l.take i) l[i]!.id < 0)))
def areShips (l : List Ship) : Bool := decide (l.length ≤ 8) && (firstTo (badShip l) l.length).isNone
theorem areShips_exit {l : List Ship} {k : Nat} (h0 : firstTo (badShip l) k = none) (h1 : badShip l k = true) (h : k < l.length) : areShips l = false := by
  simp [areShips, firstTo_hit h0 h1 l.length h]
set_option maxHeartbeats 4000000 in
theorem impl_AreShips_any (l : List Ship) (n : Nat) (hn : l.length = n) (A : Option Addr) (cap : Nat) (w : World) (hcap : n ≤ cap) (hl : n ≤ 1048576) (hc : Sl encShip w w.heap.size A l) :
    Calls Tryd.prog 25 #[.slice A n cap] w fun e w' => e = .returned (.bool (areShips l)) ∧ Below w.heap.size w w' := by
  have HC := Lib.hid hc; clear hc
  have HN := Lib.hid hn; clear hn
  by_cases h8 : 8 < n
  · go_enter Tryd.func25, Tryd.ntmps25
    go_wp2
    go_ret
    refine ⟨ret_bool ?_, Below.refl _ _⟩
    simp [areShips, HN.out]
    omega
  go_enter Tryd.func25, Tryd.ntmps25
  go_wp2
  go_loopw [10] (fun i wr => ∃ k : Nat, k ≤ n ∧ i = .int .i64 k ∧ firstTo (badShip l) k = none ∧ Below w.heap.size w wr) (fun i _ => n - (intOf i).toNat)
  case atStart => exact ⟨0, Nat.zero_le _, rfl, rfl, Below.refl _ _⟩
  case round =>
    obtain ⟨k, hk, rfl, hall, hbel⟩ := hrel
    have HA := Lib.hid hall; clear hall
    have hsz := hbel.size
    by_cases hlt : k < n
    · obtain ⟨b, off, rfl, hb, hcs⟩ := HC.out.ship (by rw [HN.out]; omega)
      have hx : l[k]? = some (l[k]'(by rw [HN.out]; exact hlt)) := List.getElem?_eq_getElem _
      have hy : l[k-1]? = some (l[k-1]'(by rw [HN.out]; omega)) := List.getElem?_eq_getElem _
      generalize l[k]'(by rw [HN.out]; exact hlt) = x at hx
      generalize l[k-1]'(by rw [HN.out]; omega) = y at hy
      obtain ⟨c0, c1, c2, c3, c4, c5⟩ := hcs k x hx
      have d1 := (hcs (k-1) y hy).2.1
      clear hcs
      have hbad : badShip l k = !(shipOK x && ((decide (k = 0) || decide (y.come ≤ x.come)) && decide (shipPlace (l.take k) x.id < 0))) := by simp [badShip, hx, hy]
      clear hx hy
      generalize y.come = yi at *
      obtain ⟨x1, x2, x3, x4, x5, x6⟩ := x
      dsimp only at c0 c1 c2 c3 c4 c5 d1 hbad
      obtain ⟨at_, hat⟩ : ∃ v, shipPlace (l.take k) x1 = v := ⟨_, rfl⟩
      rw [hat] at hbad
      have HT := Lib.hid hat
      have HTk := Lib.hid (show (l.take k).length = k by rw [List.length_take, HN.out]; omega)
      have HS := Lib.hid ((HC.out.below hbel).more hbel.size |>.take k)
      clear hat
      rw [← hbel.cell hb] at c0 c1 c2 c3 c4 c5 d1
      have hbw : b < wr.heap.size := by omega
      have hexit : badShip l k = true → Ending.returned (.bool false) = .returned (.bool (areShips l)) := fun h => by
        rw [areShips_exit HA.out h (by rw [HN.out]; exact hlt)]
      have hnext : badShip l k = false → firstTo (badShip l) (k + 1) = none := fun h => firstTo_miss HA.out h
      rw [hbad] at hexit hnext
      have HX := Lib.hid hexit
      have HY := Lib.hid hnext
      clear hexit hnext hbad
      have k1 : 0 < k → (0 : Int) ≤ (k : Int) - 1 := fun h => by omega
      have k2 : 0 < k → (1 : Int) ≤ (k : Int) := fun h => by omega
      have k3 : ((k : Int) - 1).toNat = k - 1 := by omega
      have k4 : (k : Int) - 1 < n := by omega
      have k5' : (k : Int) < n := by omega
      have k6' : (0 : Int) ≤ (k : Int) := by omega
      have k8 : (k : Int) ≤ cap := by omega
      have K1 := Lib.hid k1
      have K2 := Lib.hid k2
      clear k1 k2
      rcases sp3 (shipOK ⟨x1, x2, x3, x4, x5, x6⟩) (decide (0 < k)) (decide (x2 < yi)) with t1 | ⟨t1, t2⟩ | ⟨t1, t2, t3⟩ | ⟨t1, t2, t3⟩
      case' inr.inr.inl =>
        have t5 : 0 < k := by simpa using t2
        have k5 := K1.out (by omega)
        have k6 := K2.out (by omega)
        have k7 : IntKind.i64.wrap ((k : Int) - 1) = (k : Int) - 1 := IntWalk.i64_in _ (by omega)
      case' inr.inr.inr =>
        have t5 : 0 < k := by simpa using t2
        have k5 := K1.out (by omega)
        have k6 := K2.out (by omega)
        have k7 : IntKind.i64.wrap ((k : Int) - 1) = (k : Int) - 1 := IntWalk.i64_in _ (by omega)
      all_goals
        go_wp2
        refine wp_region_gw (by kernel_rfl) (by kernel_rfl) ?_
        repeat (first | go_big_quiet_step ((first | (go_at_call 24; exact quiet_gw (IsShip_q (by assumption) _)) | (go_at_call 34; exact quiet_gw (shipAt_q HTk.out _ _ _ HT.out _ (by omega) (HS.out.past (by repeat (first | assumption | exact Below.refl _ _ | apply bl_gw | apply bl_alloc | apply bl_drewN | apply bl_drew))))))) | quiet_step ((first | (go_at_call 24; exact quiet_gw (IsShip_q (by assumption) _)) | (go_at_call 34; exact quiet_gw (shipAt_q HTk.out _ _ _ HT.out _ (by omega) (HS.out.past (by repeat (first | assumption | exact Below.refl _ _ | apply bl_gw | apply bl_alloc | apply bl_drewN | apply bl_drew))))))))
        refine wpQuiet_nil ?_
        rintro _ ⟨pq, rfl⟩
        go_wp2
      all_goals first
        | (go_ret
           exact ⟨HX.out (by simp [*] <;> first | omega | (simp at t2; omega) | (simp at t3; omega)), (by repeat (first | assumption | exact Below.refl _ _ | apply bl_gw | apply bl_alloc | apply bl_drewN | apply bl_drew))⟩)
        | (go_roundw
           case rel => exact ⟨k + 1, by omega, by go_num, HY.out (by simp [*] <;> first | omega | (simp at t2; omega) | (simp at t3; omega)), (by repeat (first | assumption | exact Below.refl _ _ | apply bl_gw | apply bl_alloc | apply bl_drewN | apply bl_drew))⟩
           case measure => simp [intOf]; omega)
    · go_wp2
      go_ret
      refine ⟨ret_bool ?_, hbel⟩
      obtain rfl : k = n := by omega
      simp [areShips, HN.out, HA.out]
      omega
theorem areShips_big {l : List Ship} (h : 8 < l.length) : areShips l = false := by
  unfold areShips
  rw [decide_eq_false (by omega)]
  rfl
set_option maxHeartbeats 4000000 in
theorem l17Good_any (l : List Ship) (n : Nat) (hn : l.length = n) (A : Option Addr) (cap : Nat) (w : World) (hcap : n ≤ cap) (hl : n ≤ 1048576) (hc : Sl encShip w w.heap.size A l) :
    Calls Tryd.prog 31 #[.slice A n cap] w fun e w' => e = .returned (.bool (areShips l)) ∧ Below w.heap.size w w' := by
  have HC := Lib.hid hc; clear hc
  have HN := Lib.hid hn; clear hn
  go_enter Tryd.func31, Tryd.ntmps31
  go_wp2
  go_loopw [3] (fun i wr => ∃ k : Nat, k ≤ n ∧ i = .int .i64 k ∧ firstTo (badShip l) k = none ∧ Below w.heap.size w wr) (fun i _ => n - (intOf i).toNat)
  case atStart => exact ⟨0, Nat.zero_le _, rfl, rfl, Below.refl _ _⟩
  case round =>
    obtain ⟨k, hk, rfl, hall, hbel⟩ := hrel
    have HA := Lib.hid hall; clear hall
    have hsz := hbel.size
    by_cases hlt : k < n
    · by_cases h8 : k ≤ 8
      · have h9 : (k : Int) ≤ 8 := by omega
        obtain ⟨b, off, rfl, hb, hcs⟩ := HC.out.ship (by rw [HN.out]; omega)
        have hx : l[k]? = some (l[k]'(by rw [HN.out]; exact hlt)) := List.getElem?_eq_getElem _
        have hy : l[k-1]? = some (l[k-1]'(by rw [HN.out]; omega)) := List.getElem?_eq_getElem _
        generalize l[k]'(by rw [HN.out]; exact hlt) = x at hx
        generalize l[k-1]'(by rw [HN.out]; omega) = y at hy
        obtain ⟨c0, c1, c2, c3, c4, c5⟩ := hcs k x hx
        have d1 := (hcs (k-1) y hy).2.1
        clear hcs
        have hbad : badShip l k = !(shipOK x && ((decide (k = 0) || decide (y.come ≤ x.come)) && decide (shipPlace (l.take k) x.id < 0))) := by simp [badShip, hx, hy]
        clear hx hy
        generalize y.come = yi at *
        obtain ⟨x1, x2, x3, x4, x5, x6⟩ := x
        dsimp only at c0 c1 c2 c3 c4 c5 d1 hbad
        obtain ⟨at_, hat⟩ : ∃ v, shipPlace (l.take k) x1 = v := ⟨_, rfl⟩
        rw [hat] at hbad
        have HT := Lib.hid hat
        have HTk := Lib.hid (show (l.take k).length = k by rw [List.length_take, HN.out]; omega)
        have HS := Lib.hid ((HC.out.below hbel).more hbel.size |>.take k)
        clear hat
        rw [← hbel.cell hb] at c0 c1 c2 c3 c4 c5 d1
        have hbw : b < wr.heap.size := by omega
        have hexit : badShip l k = true → Ending.returned (.bool false) = .returned (.bool (areShips l)) := fun h => by
          rw [areShips_exit HA.out h (by rw [HN.out]; exact hlt)]
        have hnext : badShip l k = false → firstTo (badShip l) (k + 1) = none := fun h => firstTo_miss HA.out h
        rw [hbad] at hexit hnext
        have HX := Lib.hid hexit
        have HY := Lib.hid hnext
        clear hexit hnext hbad
        have k1 : 0 < k → (0 : Int) ≤ (k : Int) - 1 := fun h => by omega
        have k2 : 0 < k → (1 : Int) ≤ (k : Int) := fun h => by omega
        have k3 : ((k : Int) - 1).toNat = k - 1 := by omega
        have k4 : (k : Int) - 1 < n := by omega
        have k5' : (k : Int) < n := by omega
        have k6' : (0 : Int) ≤ (k : Int) := by omega
        have k8 : (k : Int) ≤ cap := by omega
        have K1 := Lib.hid k1
        have K2 := Lib.hid k2
        clear k1 k2
        rcases sp3 (shipOK ⟨x1, x2, x3, x4, x5, x6⟩) (decide (0 < k)) (decide (x2 < yi)) with t1 | ⟨t1, t2⟩ | ⟨t1, t2, t3⟩ | ⟨t1, t2, t3⟩
        case' inr.inr.inl =>
          have t5 : 0 < k := by simpa using t2
          have k5 := K1.out (by omega)
          have k6 := K2.out (by omega)
          have k7 : IntKind.i64.wrap ((k : Int) - 1) = (k : Int) - 1 := IntWalk.i64_in _ (by omega)
        case' inr.inr.inr =>
          have t5 : 0 < k := by simpa using t2
          have k5 := K1.out (by omega)
          have k6 := K2.out (by omega)
          have k7 : IntKind.i64.wrap ((k : Int) - 1) = (k : Int) - 1 := IntWalk.i64_in _ (by omega)
        all_goals
          go_wp2
          refine wp_region_gw (by kernel_rfl) (by kernel_rfl) ?_
          repeat (first | go_big_quiet_step ((first | (go_at_call 27; exact quiet_gw (l17One_q (by assumption) _)) | (go_at_call 44; exact quiet_gw (l17Find_q HTk.out _ _ _ HT.out _ (by omega) (HS.out.past (by repeat (first | assumption | exact Below.refl _ _ | apply bl_gw | apply bl_alloc | apply bl_drewN | apply bl_drew))))))) | quiet_step ((first | (go_at_call 27; exact quiet_gw (l17One_q (by assumption) _)) | (go_at_call 44; exact quiet_gw (l17Find_q HTk.out _ _ _ HT.out _ (by omega) (HS.out.past (by repeat (first | assumption | exact Below.refl _ _ | apply bl_gw | apply bl_alloc | apply bl_drewN | apply bl_drew))))))))
          refine wpQuiet_nil ?_
          rintro _ ⟨pq, rfl⟩
          go_wp2
        all_goals first
          | (go_ret
             exact ⟨HX.out (by simp [*] <;> first | omega | (simp at t2; omega) | (simp at t3; omega)), (by repeat (first | assumption | exact Below.refl _ _ | apply bl_gw | apply bl_alloc | apply bl_drewN | apply bl_drew))⟩)
          | (go_roundw
             case rel => exact ⟨k + 1, by omega, by go_num, HY.out (by simp [*] <;> first | omega | (simp at t2; omega) | (simp at t3; omega)), (by repeat (first | assumption | exact Below.refl _ _ | apply bl_gw | apply bl_alloc | apply bl_drewN | apply bl_drew))⟩
             case measure => simp [intOf]; omega)
      · have h9 : ¬ (k : Int) ≤ 8 := by omega
        have k5' : (k : Int) < n := by omega
        go_wp2
        go_ret
        refine ⟨ret_bool ?_, hbel⟩
        rw [areShips_big (by rw [HN.out]; omega)]
        simp
        omega
    · have k5' : ¬ (k : Int) < n := by omega
      go_wp2
      go_ret
      refine ⟨ret_bool ?_, hbel⟩
      obtain rfl : k = n := by omega
      simp [areShips, HN.out, HA.out]
      omega
theorem Own.capLe {α : Type} {E : Enc α} {w : World} {base : Nat} {e : TypeId} {A : Option Addr} {n c : Nat} {l : List α} (h : Own E w base e (.slice A n c) l) : n ≤ c := by
  obtain ⟨A', c', he, hc, _⟩ := h.slice
  cases he
  exact hc
set_option maxHeartbeats 1000000 in
theorem specAreShips_any (l : List Ship) (n : Nat) (hn : l.length = n) (A : Option Addr) (cap : Nat) (w : World) (hcap : n ≤ cap) (hl : n ≤ 1048576) (hc : Sl encShip w w.heap.size A l) :
    Calls Tryd.prog 26 #[.slice A n cap] w fun e w' => e = .returned (.bool (areShips l)) ∧ Below w.heap.size w w' := by
  have HC := Lib.hid hc; clear hc
  have HN := Lib.hid hn; clear hn
  go_enter Tryd.func26, Tryd.ntmps26
  go_wp2_with (go_at_call 31; refine (l17Good_any l n HN.out _ _ _ hcap hl HC.out).mono ?_; rintro e w1 ⟨rfl, hb⟩)
  go_ret
  exact ⟨rfl, hb⟩
end Go.Proofs.YtggdcjajiaeklaaDoor
