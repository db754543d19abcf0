/- Walks of contracts: whether a list are contracts. -/
import Derived.Test.YtcljfdpjlkaagaaDoorContractA
namespace Go.Proofs.YtcljfdpjlkaagaaDoor
open Go.RowKit
theorem IsContract_q {a b c d e f g : Int} {v : Bool} (h : contractOK ⟨a, b, c, d, e, f, g⟩ = v) (w : World) :
    Calls Tryd.prog 20 #[.agg #[.int .i64 a, .int .i64 b, .int .i64 c, .int .i64 d, .int .i64 e, .int .i64 f, .int .i64 g]] w fun x w' => x = .returned (.bool v) ∧ Below w.heap.size w w' := h ▸ IsContract_any a b c d e f g w
theorem l18One_q {a b c d e f g : Int} {v : Bool} (h : contractOK ⟨a, b, c, d, e, f, g⟩ = v) (w : World) :
    Calls Tryd.prog 21 #[.agg #[.int .i64 a, .int .i64 b, .int .i64 c, .int .i64 d, .int .i64 e, .int .i64 f, .int .i64 g]] w fun x w' => x = .returned (.bool v) ∧ Below w.heap.size w w' := h ▸ l18One_any a b c d e f g w
def badContract (l : List Contract) (i : Nat) : Bool := !(contractOK l[i]! && (decide (i = 0) || decide (l[i-1]!.id < l[i]!.id)))
def areContracts (l : List Contract) : Bool := (firstTo (badContract l) l.length).isNone && decide (l.length ≤ 10)
set_option maxHeartbeats 4000000 in
theorem l18Good_any (l : List Contract) (n : Nat) (hn : l.length = n) (A : Option Addr) (cap : Nat) (w : World) (hl : n ≤ 1048576) (hc : Sl encContract w w.heap.size A l) :
    Calls Tryd.prog 32 #[.slice A n cap] w fun e w' => e = .returned (.bool (areContracts l)) ∧ Below w.heap.size w w' := by
  have HC := Lib.hid hc; clear hc
  have HN := Lib.hid hn; clear hn
  go_enter Tryd.func32, Tryd.ntmps32
  go_wp2
  go_loopw [3] (fun i wr => ∃ k : Nat, k ≤ n ∧ i = .int .i64 k ∧ firstTo (badContract l) k = none ∧ Below w.heap.size w wr) (fun i _ => n - (intOf i).toNat)
  case atStart => exact ⟨0, Nat.zero_le _, rfl, rfl, Below.refl _ _⟩
  case round =>
    obtain ⟨k, hk, rfl, hall, hbel⟩ := hrel
    have HA := Lib.hid hall; clear hall
    have hsz := hbel.size
    by_cases hlt : k < n
    · obtain ⟨b, off, rfl, hb, hcs⟩ := HC.out.contract (by rw [HN.out]; omega)
      have hx : l[k]? = some (l[k]'(by rw [HN.out]; exact hlt)) := List.getElem?_eq_getElem _
      have hy : l[k-1]? = some (l[k-1]'(by rw [HN.out]; omega)) := List.getElem?_eq_getElem _
      generalize l[k]'(by rw [HN.out]; exact hlt) = x at hx
      generalize l[k-1]'(by rw [HN.out]; omega) = y at hy
      obtain ⟨c0, c1, c2, c3, c4, c5, c6⟩ := hcs k x hx
      have d0 := (hcs (k-1) y hy).1
      clear hcs
      have hbad : badContract l k = !(contractOK x && (decide (k = 0) || decide (y.id < x.id))) := by simp [badContract, hx, hy]
      clear hx hy
      generalize y.id = yi at *
      obtain ⟨x1, x2, x3, x4, x5, x6, x7⟩ := x
      dsimp only at c0 c1 c2 c3 c4 c5 c6 d0 hbad
      rw [← hbel.cell hb] at c0 c1 c2 c3 c4 c5 c6 d0
      have hbw : b < wr.heap.size := by omega
      have hexit : badContract l k = true → Ending.returned (.bool false) = .returned (.bool (areContracts l)) := fun h => by
        simp [areContracts, firstTo_hit HA.out h l.length (by rw [HN.out]; exact hlt)]
      have hnext : badContract l k = false → firstTo (badContract l) (k + 1) = none := fun h => firstTo_miss HA.out h
      rw [hbad] at hexit hnext
      have HX := Lib.hid hexit
      have HY := Lib.hid hnext
      clear hexit hnext hbad
      have k1 : 0 < k → (0 : Int) ≤ (k : Int) - 1 := fun h => by omega
      have k2 : 0 < k → (1 : Int) ≤ (k : Int) := fun h => by omega
      have k3 : ((k : Int) - 1).toNat = k - 1 := by omega
      have k4 : (k : Int) - 1 < n := by omega
      have k5' : (k : Int) < n := by omega
      have k6' : (0 : Int) ≤ (k : Int) := by omega
      have K1 := Lib.hid k1
      have K2 := Lib.hid k2
      clear k1 k2
      rcases sp2 (contractOK ⟨x1, x2, x3, x4, x5, x6, x7⟩) (decide (0 < k)) with t1 | ⟨t1, t2⟩ | ⟨t1, t2⟩
      case' inr.inr =>
        have t5 : 0 < k := by simpa using t2
        have k5 := K1.out (by omega)
        have k6 := K2.out (by omega)
        have k7 : IntKind.i64.wrap ((k : Int) - 1) = (k : Int) - 1 := IntWalk.i64_in _ (by omega)
      all_goals
        go_wp2
        refine wp_region_gw (by kernel_rfl) (by kernel_rfl) ?_
        repeat (first | go_big_quiet_step ((go_at_call 21; exact quiet_gw (l18One_q (by assumption) _))) | quiet_step ((go_at_call 21; exact quiet_gw (l18One_q (by assumption) _))))
        refine wpQuiet_nil ?_
        rintro _ ⟨pq, rfl⟩
        go_wp2
      all_goals first
        | (go_ret
           exact ⟨HX.out (by simp [*] <;> first | omega | (simp at t2; omega)), (by repeat (first | assumption | exact Below.refl _ _ | apply bl_gw | apply bl_alloc | apply bl_drewN | apply bl_drew))⟩)
        | (go_roundw
           case rel => exact ⟨k + 1, by omega, by go_num, HY.out (by simp [*] <;> first | omega | (simp at t2; omega)), (by repeat (first | assumption | exact Below.refl _ _ | apply bl_gw | apply bl_alloc | apply bl_drewN | apply bl_drew))⟩
           case measure => simp [intOf]; omega)
    · go_wp2
      go_ret
      refine ⟨ret_bool ?_, hbel⟩
      obtain rfl : k = n := by omega
      simp [areContracts, HN.out, HA.out]
      omega
set_option maxHeartbeats 4000000 in
theorem impl_AreContracts_any (l : List Contract) (n : Nat) (hn : l.length = n) (A : Option Addr) (cap : Nat) (w : World) (hl : n ≤ 1048576) (hc : Sl encContract w w.heap.size A l) :
    Calls Tryd.prog 18 #[.slice A n cap] w fun e w' => e = .returned (.bool (areContracts l)) ∧ Below w.heap.size w w' := by
  have HC := Lib.hid hc; clear hc
  have HN := Lib.hid hn; clear hn
  go_enter Tryd.func18, Tryd.ntmps18
  go_wp2
  go_loopw [7] (fun i wr => ∃ k : Nat, k ≤ n ∧ i = .int .i64 k ∧ firstTo (badContract l) k = none ∧ Below w.heap.size w wr) (fun i _ => n - (intOf i).toNat)
  case atStart => exact ⟨0, Nat.zero_le _, rfl, rfl, Below.refl _ _⟩
  case round =>
    obtain ⟨k, hk, rfl, hall, hbel⟩ := hrel
    have HA := Lib.hid hall; clear hall
    have hsz := hbel.size
    by_cases hlt : k < n
    · obtain ⟨b, off, rfl, hb, hcs⟩ := HC.out.contract (by rw [HN.out]; omega)
      have hx : l[k]? = some (l[k]'(by rw [HN.out]; exact hlt)) := List.getElem?_eq_getElem _
      have hy : l[k-1]? = some (l[k-1]'(by rw [HN.out]; omega)) := List.getElem?_eq_getElem _
      generalize l[k]'(by rw [HN.out]; exact hlt) = x at hx
      generalize l[k-1]'(by rw [HN.out]; omega) = y at hy
      obtain ⟨c0, c1, c2, c3, c4, c5, c6⟩ := hcs k x hx
      have d0 := (hcs (k-1) y hy).1
      clear hcs
      have hbad : badContract l k = !(contractOK x && (decide (k = 0) || decide (y.id < x.id))) := by simp [badContract, hx, hy]
      clear hx hy
      generalize y.id = yi at *
      obtain ⟨x1, x2, x3, x4, x5, x6, x7⟩ := x
      dsimp only at c0 c1 c2 c3 c4 c5 c6 d0 hbad
      rw [← hbel.cell hb] at c0 c1 c2 c3 c4 c5 c6 d0
      have hbw : b < wr.heap.size := by omega
      have hexit : badContract l k = true → Ending.returned (.bool false) = .returned (.bool (areContracts l)) := fun h => by
        simp [areContracts, firstTo_hit HA.out h l.length (by rw [HN.out]; exact hlt)]
      have hnext : badContract l k = false → firstTo (badContract l) (k + 1) = none := fun h => firstTo_miss HA.out h
      rw [hbad] at hexit hnext
      have HX := Lib.hid hexit
      have HY := Lib.hid hnext
      clear hexit hnext hbad
      have k1 : 0 < k → (0 : Int) ≤ (k : Int) - 1 := fun h => by omega
      have k2 : 0 < k → (1 : Int) ≤ (k : Int) := fun h => by omega
      have k3 : ((k : Int) - 1).toNat = k - 1 := by omega
      have k4 : (k : Int) - 1 < n := by omega
      have k5' : (k : Int) < n := by omega
      have k6' : (0 : Int) ≤ (k : Int) := by omega
      have K1 := Lib.hid k1
      have K2 := Lib.hid k2
      clear k1 k2
      rcases sp2 (contractOK ⟨x1, x2, x3, x4, x5, x6, x7⟩) (decide (0 < k)) with t1 | ⟨t1, t2⟩ | ⟨t1, t2⟩
      case' inr.inr =>
        have t5 : 0 < k := by simpa using t2
        have k5 := K1.out (by omega)
        have k6 := K2.out (by omega)
        have k7 : IntKind.i64.wrap ((k : Int) - 1) = (k : Int) - 1 := IntWalk.i64_in _ (by omega)
      all_goals
        go_wp2
        refine wp_region_gw (by kernel_rfl) (by kernel_rfl) ?_
        repeat (first | go_big_quiet_step ((go_at_call 20; exact quiet_gw (IsContract_q (by assumption) _))) | quiet_step ((go_at_call 20; exact quiet_gw (IsContract_q (by assumption) _))))
        refine wpQuiet_nil ?_
        rintro _ ⟨pq, rfl⟩
        go_wp2
      all_goals first
        | (go_ret
           exact ⟨HX.out (by simp [*] <;> first | omega | (simp at t2; omega)), (by repeat (first | assumption | exact Below.refl _ _ | apply bl_gw | apply bl_alloc | apply bl_drewN | apply bl_drew))⟩)
        | (go_roundw
           case rel => exact ⟨k + 1, by omega, by go_num, HY.out (by simp [*] <;> first | omega | (simp at t2; omega)), (by repeat (first | assumption | exact Below.refl _ _ | apply bl_gw | apply bl_alloc | apply bl_drewN | apply bl_drew))⟩
           case measure => simp [intOf]; omega)
    · go_wp2
      go_ret
      refine ⟨ret_bool ?_, hbel⟩
      obtain rfl : k = n := by omega
      simp [areContracts, HN.out, HA.out]
      omega
end Go.Proofs.YtcljfdpjlkaagaaDoor
