/- Walks of fields: the reference. -/
import Derived.Test.YtbedepmcecdhfaaFieldA
namespace Go.Proofs.Ytbedepmcecdhfaa
open Go.RowKit
theorem field_hit {g : List Gauge} {D : List Ditch} {n m k : Nat} (hn : g.length = n) (hm : D.length = m) (h0 : firstTo (badDitch n D) k = none) (h1 : badDitch n D k = true) (hk : k < m) : isField g D = false := by
  unfold isField
  rw [hn, firstTo_hit h0 h1 D.length (by rw [hm]; exact hk)]
  simp
theorem bad_of {n : Nat} {D : List Ditch} {k : Nat} {a b : Int} (hx : D[k]? = some ⟨a, b⟩) : badDitch n D k = (!(inB a 0 ((n : Int) - 1) && inB b 0 ((n : Int) - 1) && !(decide (a = b))) || (decide (0 < k) && lexGE D[k - 1]! ⟨a, b⟩)) := by
  rw [badDitch, List.getElem!_of_getElem? hx]; rfl
set_option maxRecDepth 4000 in
set_option maxHeartbeats 8000000 in
theorem l16Field_any (g : List Gauge) (D : List Ditch) (n m : Nat) (hn : g.length = n) (hm : D.length = m) (A A' : Option Addr) (cap cap' : Nat) (w : World) (hl : n ≤ 1048576) (hl' : m ≤ 1048576) (hc : Sl encGauge w w.heap.size A g) (hd : Sl encDitch w w.heap.size A' D) :
    Calls Try.prog 70 #[.slice A n cap, .slice A' m cap'] w fun e w' => e = .returned (.bool (isField g D)) ∧ Below w.heap.size w w' := by
  have HC := Lib.hid hc; clear hc
  have HD := Lib.hid hd; clear hd
  have HN := Lib.hid hn; clear hn
  have HM := Lib.hid hm; clear hm
  have hwn : IntKind.i64.wrap ((n : Int) - 1) = (n : Int) - 1 := IntWalk.i64_in _ (by omega)
  go_enter Try.func70, Try.ntmps70
  go_wp2
  go_loopw [5] (fun i wr => ∃ k : Nat, k ≤ m ∧ i = .int .i64 k ∧ firstTo (badDitch n D) k = none ∧ Below w.heap.size w wr) (fun i _ => m - (intOf i).toNat)
  case atStart => exact ⟨0, Nat.zero_le _, rfl, rfl, Below.refl _ _⟩
  case round =>
    obtain ⟨k, hk, rfl, hall, hbel⟩ := hrel
    have HA := Lib.hid hall; clear hall
    have hsz := hbel.size
    have HBL := Lib.hid hbel
    by_cases hlt : k < m
    · obtain ⟨bk, off, rfl, hb, hcs⟩ := HD.out.ditch (by rw [HM.out]; omega)
      have hx : D[k]? = some (D[k]'(by rw [HM.out]; exact hlt)) := List.getElem?_eq_getElem _
      have hy : D[k - 1]? = some (D[k - 1]'(by rw [HM.out]; omega)) := List.getElem?_eq_getElem _
      generalize D[k]'(by rw [HM.out]; exact hlt) = x at hx
      generalize D[k - 1]'(by rw [HM.out]; omega) = y at hy
      obtain ⟨c0, c1⟩ := hcs k x hx
      obtain ⟨d0, d1⟩ := hcs (k - 1) y hy
      obtain ⟨a, b⟩ := x
      obtain ⟨a', b'⟩ := y
      have hbad := bad_of (n := n) hx
      rw [List.getElem!_of_getElem? hy, show decide (a = b) = (a == b) by by_cases h : a = b <;> simp [h]] at hbad
      have hexit : badDitch n D k = true → Ending.returned (.bool false) = .returned (.bool (isField g D)) := fun h => by rw [field_hit HN.out HM.out HA.out h hlt]
      have hnext : badDitch n D k = false → firstTo (badDitch n D) (k + 1) = none := fun h => firstTo_miss HA.out h
      rw [hbad] at hexit hnext
      have HX := Lib.hid hexit
      have HY := Lib.hid hnext
      dsimp only at c0 c1 d0 d1
      clear hcs hx hy hexit hnext hbad
      rw [← hbel.cell hb] at c0 c1 d0 d1
      have hbw : bk < wr.heap.size := by omega
      have k0 : (k : Int) < m := by omega
      have k1 : 0 < k → (0 : Int) ≤ (k : Int) - 1 := fun h => by omega
      have k2 : 0 < k → (1 : Int) ≤ (k : Int) := fun h => by omega
      have k3 : ((k : Int) - 1).toNat = k - 1 := by omega
      have k4 : (k : Int) - 1 < m := by omega
      have K1 := Lib.hid k1
      have K2 := Lib.hid k2
      clear k1 k2
      go_wp2
      refine wp_region_gw (by kernel_rfl) (by kernel_rfl) ?_
      repeat (first | go_big_quiet_step ((fail)) | quiet_step ((fail)))
      refine wpQuiet_nil ?_
      rintro _ ⟨pq, rfl⟩
      rcases sp3 (inB a 0 ((n : Int) - 1)) (inB b 0 ((n : Int) - 1)) (decide (0 < k)) with t1 | ⟨t1, t2⟩ | ⟨t1, t2, t4⟩ | ⟨t1, t2, t4⟩
      case' inr.inr.inr =>
        have t5 : 0 < k := by simpa using t4
        have k5 := K1.out (by omega)
        have k6 := K2.out (by omega)
        have k7 : IntKind.i64.wrap ((k : Int) - 1) = (k : Int) - 1 := IntWalk.i64_in _ (by omega)
      all_goals
        go_wp2_with (first | (go_at_call 80; refine (l1In_any _ _ _ _).mono ?_; rintro e w1 ⟨rfl, rfl⟩))
      all_goals first
        | (go_ret
           exact ⟨HX.out (by simp [lexGE, *] <;> first | omega | (simp at t4; omega)), (by repeat (first | assumption | exact Below.refl _ _ | apply bl_gw | apply bl_alloc | apply bl_drewN | apply bl_drew))⟩)
        | (go_roundw
           case rel => exact ⟨k + 1, by omega, by go_num, HY.out (by simp [lexGE, *] <;> first | omega | (simp at t4; omega)), (by repeat (first | assumption | exact Below.refl _ _ | apply bl_gw | apply bl_alloc | apply bl_drewN | apply bl_drew))⟩
           case measure => simp [intOf]; omega)
    · obtain rfl : k = m := by omega
      have HG := Lib.hid (show isField g D = (areGauges g && decide (k ≤ 8)) by
        unfold isField
        rw [HM.out, HN.out, HA.out]
        simp)
      have hw8 : ((k : Int) ≤ 8) = (k ≤ 8) := by rw [eq_iff_iff]; omega
      rcases sp1 (areGauges g) with t1 | t1
      all_goals
        go_wp2_with fail
        refine (l16Gauges_any g n HN.out _ _ _ hl (HC.out.past (by repeat (first | assumption | exact Below.refl _ _ | apply bl_gw | apply bl_alloc | apply bl_drewN | apply bl_drew)))).mono ?_
        rintro e w1 ⟨rfl, hb1⟩
        rw [t1]
        have hb2 := below_step HBL.out hb1
        go_wp2
        go_ret
        exact ⟨ret_bool (by rw [HG.out, t1]; simp), hb2⟩
end Go.Proofs.Ytbedepmcecdhfaa
