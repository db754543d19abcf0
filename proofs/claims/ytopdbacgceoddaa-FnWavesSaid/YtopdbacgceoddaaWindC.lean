/- Walks of blows, part C: whether a list are blows. -/
import Derived.Test.YtopdbacgceoddaaWindB
namespace Go.Proofs.Ytopdbacgceoddaa
open Go.RowKit
def badBlow (l : List Blow) (i : Nat) : Bool := !(inB l[i]!.hour 0 9999 && (inB l[i]!.speed 0 60 && (inB l[i]!.frm 0 3 && (decide (i = 0) || decide (l[i-1]!.hour < l[i]!.hour)))))
def areBlows (l : List Blow) : Bool := (firstTo (badBlow l) l.length).isNone && decide (l.length ≤ 20)
set_option maxHeartbeats 4000000 in
theorem l19Good_any (l : List Blow) (n : Nat) (hn : l.length = n) (A : Option Addr) (cap : Nat) (w : World) (hl : n ≤ 1048576) (hc : Sl encBlow w w.heap.size A l) :
    Calls Try.prog 56 #[.slice A n cap] w fun e w' => e = .returned (.bool (areBlows l)) ∧ Below w.heap.size w w' := by
  have HC := Lib.hid hc; clear hc
  have HN := Lib.hid hn; clear hn
  go_enter Try.func56, Try.ntmps56
  go_wp2
  go_loopw [3] (fun i wr => ∃ k : Nat, k ≤ n ∧ i = .int .i64 k ∧ firstTo (badBlow l) k = none ∧ Below w.heap.size w wr) (fun i _ => n - (intOf i).toNat)
  case atStart => exact ⟨0, Nat.zero_le _, rfl, rfl, Below.refl _ _⟩
  case round =>
    obtain ⟨k, hk, rfl, hall, hbel⟩ := hrel
    have HA := Lib.hid hall; clear hall
    have hsz := hbel.size
    by_cases hlt : k < n
    · obtain ⟨b, off, rfl, hb, hcs⟩ := HC.out.blow (by rw [HN.out]; omega)
      have hx : l[k]? = some (l[k]'(by rw [HN.out]; exact hlt)) := List.getElem?_eq_getElem _
      have hy : l[k-1]? = some (l[k-1]'(by rw [HN.out]; omega)) := List.getElem?_eq_getElem _
      generalize l[k]'(by rw [HN.out]; exact hlt) = x at hx
      generalize l[k-1]'(by rw [HN.out]; omega) = y at hy
      obtain ⟨c0, c1, c2⟩ := hcs k x hx
      obtain ⟨d0, _, _⟩ := hcs (k-1) y hy
      clear hcs
      have hbad : badBlow l k = !(inB x.hour 0 9999 && (inB x.speed 0 60 && (inB x.frm 0 3 && (decide (k = 0) || decide (y.hour < x.hour))))) := by simp [badBlow, hx, hy]
      clear hx hy
      generalize x.hour = hr at *
      generalize x.speed = sp at *
      generalize x.frm = fr at *
      generalize y.hour = hp at *
      rw [← hbel.cell hb] at c0 c1 c2 d0
      have hbw : b < wr.heap.size := by omega
      have hexit : badBlow l k = true → Ending.returned (.bool false) = .returned (.bool (areBlows l)) := fun h => by
        simp [areBlows, firstTo_hit HA.out h l.length (by rw [HN.out]; exact hlt)]
      have hnext : badBlow l k = false → firstTo (badBlow l) (k + 1) = none := fun h => firstTo_miss HA.out h
      rw [hbad] at hexit hnext
      have HX := Lib.hid hexit
      have HY := Lib.hid hnext
      clear hexit hnext hbad
      have k1 : 0 < k → (0 : Int) ≤ (k : Int) - 1 := fun h => by omega
      have k2 : 0 < k → (1 : Int) ≤ (k : Int) := fun h => by omega
      have k3 : ((k : Int) - 1).toNat = k - 1 := by omega
      have k4 : (k : Int) - 1 < n := by omega
      have K1 := Lib.hid k1
      have K2 := Lib.hid k2
      clear k1 k2
      go_wp2
      rcases sp4 (inB hr 0 9999) (inB sp 0 60) (inB fr 0 3) (decide (0 < k)) with t1 | ⟨t1, t2⟩ | ⟨t1, t2, t3⟩ | ⟨t1, t2, t3, t4⟩ | ⟨t1, t2, t3, t4⟩
      case' inr.inr.inr.inr =>
        have t5 : 0 < k := by simpa using t4
        have k5 := K1.out (by omega)
        have k6 := K2.out (by omega)
        have k7 : IntKind.i64.wrap ((k : Int) - 1) = (k : Int) - 1 := IntWalk.i64_in _ (by omega)
      all_goals
        refine wp_region_gw (by kernel_rfl) (by kernel_rfl) ?_
        repeat (first | go_big_quiet_step ((go_at_call 51; exact quiet_gw_same (l1In_q (by assumption) _))) | quiet_step ((go_at_call 51; exact quiet_gw_same (l1In_q (by assumption) _))))
        refine wpQuiet_nil ?_
        rintro _ ⟨pq, rfl⟩
        go_wp2
      all_goals first
        | (go_ret
           exact ⟨HX.out (by simp [*] <;> first | omega | (simp at t4; omega)), (by repeat (first | assumption | exact Below.refl _ _ | apply bl_gw | apply bl_alloc | apply bl_drewN | apply bl_drew))⟩)
        | (go_roundw
           case rel => exact ⟨k + 1, by omega, by go_num, HY.out (by simp [*] <;> first | omega | (simp at t4; omega)), (by repeat (first | assumption | exact Below.refl _ _ | apply bl_gw | apply bl_alloc | apply bl_drewN | apply bl_drew))⟩
           case measure => simp [intOf]; omega)
    · go_wp2
      go_ret
      refine ⟨ret_bool ?_, hbel⟩
      obtain rfl : k = n := by omega
      simp [areBlows, HN.out, HA.out]
      omega
set_option maxHeartbeats 4000000 in
theorem impl_AreBlows_any (l : List Blow) (n : Nat) (hn : l.length = n) (A : Option Addr) (cap : Nat) (w : World) (hl : n ≤ 1048576) (hc : Sl encBlow w w.heap.size A l) :
    Calls Try.prog 24 #[.slice A n cap] w fun e w' => e = .returned (.bool (areBlows l)) ∧ Below w.heap.size w w' := by
  have HC := Lib.hid hc; clear hc
  have HN := Lib.hid hn; clear hn
  go_enter Try.func24, Try.ntmps24
  go_wp2
  go_loopw [7] (fun i wr => ∃ k : Nat, k ≤ n ∧ i = .int .i64 k ∧ firstTo (badBlow l) k = none ∧ Below w.heap.size w wr) (fun i _ => n - (intOf i).toNat)
  case atStart => exact ⟨0, Nat.zero_le _, rfl, rfl, Below.refl _ _⟩
  case round =>
    obtain ⟨k, hk, rfl, hall, hbel⟩ := hrel
    have HA := Lib.hid hall; clear hall
    have hsz := hbel.size
    by_cases hlt : k < n
    · obtain ⟨b, off, rfl, hb, hcs⟩ := HC.out.blow (by rw [HN.out]; omega)
      have hx : l[k]? = some (l[k]'(by rw [HN.out]; exact hlt)) := List.getElem?_eq_getElem _
      have hy : l[k-1]? = some (l[k-1]'(by rw [HN.out]; omega)) := List.getElem?_eq_getElem _
      generalize l[k]'(by rw [HN.out]; exact hlt) = x at hx
      generalize l[k-1]'(by rw [HN.out]; omega) = y at hy
      obtain ⟨c0, c1, c2⟩ := hcs k x hx
      obtain ⟨d0, _, _⟩ := hcs (k-1) y hy
      clear hcs
      have hbad : badBlow l k = !(inB x.hour 0 9999 && (inB x.speed 0 60 && (inB x.frm 0 3 && (decide (k = 0) || decide (y.hour < x.hour))))) := by simp [badBlow, hx, hy]
      clear hx hy
      generalize x.hour = hr at *
      generalize x.speed = sp at *
      generalize x.frm = fr at *
      generalize y.hour = hp at *
      rw [← hbel.cell hb] at c0 c1 c2 d0
      have hbw : b < wr.heap.size := by omega
      have hexit : badBlow l k = true → Ending.returned (.bool false) = .returned (.bool (areBlows l)) := fun h => by
        simp [areBlows, firstTo_hit HA.out h l.length (by rw [HN.out]; exact hlt)]
      have hnext : badBlow l k = false → firstTo (badBlow l) (k + 1) = none := fun h => firstTo_miss HA.out h
      rw [hbad] at hexit hnext
      have HX := Lib.hid hexit
      have HY := Lib.hid hnext
      clear hexit hnext hbad
      have k1 : 0 < k → (0 : Int) ≤ (k : Int) - 1 := fun h => by omega
      have k2 : 0 < k → (1 : Int) ≤ (k : Int) := fun h => by omega
      have k3 : ((k : Int) - 1).toNat = k - 1 := by omega
      have k4 : (k : Int) - 1 < n := by omega
      have K1 := Lib.hid k1
      have K2 := Lib.hid k2
      clear k1 k2
      go_wp2
      rcases sp4 (inB hr 0 9999) (inB sp 0 60) (inB fr 0 3) (decide (0 < k)) with t1 | ⟨t1, t2⟩ | ⟨t1, t2, t3⟩ | ⟨t1, t2, t3, t4⟩ | ⟨t1, t2, t3, t4⟩
      case' inr.inr.inr.inr =>
        have t5 : 0 < k := by simpa using t4
        have k5 := K1.out (by omega)
        have k6 := K2.out (by omega)
        have k7 : IntKind.i64.wrap ((k : Int) - 1) = (k : Int) - 1 := IntWalk.i64_in _ (by omega)
      all_goals
        refine wp_region_gw (by kernel_rfl) (by kernel_rfl) ?_
        repeat (first | go_big_quiet_step ((first | (go_at_call 58; exact quiet_gw_same (isHour_q (by assumption) _)) | (go_at_call 53; exact quiet_gw_same (isSpeed_q (by assumption) _)) | (go_at_call 54; exact quiet_gw_same (isDirection_q (by assumption) _)))) | quiet_step ((first | (go_at_call 58; exact quiet_gw_same (isHour_q (by assumption) _)) | (go_at_call 53; exact quiet_gw_same (isSpeed_q (by assumption) _)) | (go_at_call 54; exact quiet_gw_same (isDirection_q (by assumption) _)))))
        refine wpQuiet_nil ?_
        rintro _ ⟨pq, rfl⟩
        go_wp2
      all_goals first
        | (go_ret
           exact ⟨HX.out (by simp [*] <;> first | omega | (simp at t4; omega)), (by repeat (first | assumption | exact Below.refl _ _ | apply bl_gw | apply bl_alloc | apply bl_drewN | apply bl_drew))⟩)
        | (go_roundw
           case rel => exact ⟨k + 1, by omega, by go_num, HY.out (by simp [*] <;> first | omega | (simp at t4; omega)), (by repeat (first | assumption | exact Below.refl _ _ | apply bl_gw | apply bl_alloc | apply bl_drewN | apply bl_drew))⟩
           case measure => simp [intOf]; omega)
    · go_wp2
      go_ret
      refine ⟨ret_bool ?_, hbel⟩
      obtain rfl : k = n := by omega
      simp [areBlows, HN.out, HA.out]
      omega
set_option maxHeartbeats 1000000 in
theorem specAreBlows_any (l : List Blow) (n : Nat) (hn : l.length = n) (A : Option Addr) (cap : Nat) (w : World) (hl : n ≤ 1048576) (hc : Sl encBlow w w.heap.size A l) :
    Calls Try.prog 22 #[.slice A n cap] w fun e w' => e = .returned (.bool (areBlows l)) ∧ Below w.heap.size w w' := by
  have HC := Lib.hid hc; clear hc
  have HN := Lib.hid hn; clear hn
  go_enter Try.func22, Try.ntmps22
  go_wp2_with (go_at_call 56; refine (l19Good_any l n HN.out _ _ _ hl HC.out).mono ?_; rintro e w1 ⟨rfl, hb⟩)
  go_ret
  exact ⟨rfl, hb⟩
end Go.Proofs.Ytopdbacgceoddaa
