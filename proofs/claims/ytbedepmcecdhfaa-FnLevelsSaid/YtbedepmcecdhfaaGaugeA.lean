/- Walks of gauges: whether lists are gauges and levels. -/
import Derived.Test.YtbedepmcecdhfaaGauge
import Derived.Test.YtbedepmcecdhfaaInts
namespace Go.Proofs.Ytbedepmcecdhfaa
open Go.RowKit
set_option maxHeartbeats 400000 in
theorem within_any (n a b : Int) (w : World) :
    Calls Try.prog 68 #[.int .i64 n, .int .i64 a, .int .i64 b] w fun e w' => e = .returned (.bool (inB n a b)) ∧ w = w' := by
  go_enter Try.func68, Try.ntmps68
  go_wp2
  all_goals go_ret
  all_goals refine ⟨?_, rfl⟩
  all_goals simp [inB, *]
  all_goals omega
theorem within_q {n a b : Int} {v : Bool} (h : inB n a b = v) (w : World) :
    Calls Try.prog 68 #[.int .i64 n, .int .i64 a, .int .i64 b] w fun e w' => e = .returned (.bool v) ∧ w = w' := h ▸ within_any n a b w
set_option maxHeartbeats 400000 in
theorem l1In_any (n a b : Int) (w : World) :
    Calls Try.prog 80 #[.int .i64 n, .int .i64 a, .int .i64 b] w fun e w' => e = .returned (.bool (inB n a b)) ∧ w = w' := by
  go_enter Try.func80, Try.ntmps80
  go_wp2
  all_goals go_ret
  all_goals refine ⟨?_, rfl⟩
  all_goals simp [inB, *]
  all_goals omega
theorem l1In_q {n a b : Int} {v : Bool} (h : inB n a b = v) (w : World) :
    Calls Try.prog 80 #[.int .i64 n, .int .i64 a, .int .i64 b] w fun e w' => e = .returned (.bool v) ∧ w = w' := h ▸ l1In_any n a b w
set_option maxHeartbeats 400000 in
theorem szGaugeS_fit (n : Nat) (A : Option Addr) (c : Nat) (z : Int) (w : World) (hn : (n : Int) ≤ z) (hz : z ≤ 1048576) :
    Calls Try.prog 29 #[.slice A n c, .int .i64 z] w fun e w' => e = .returned (.int .i64 (z - n)) ∧ w = w' := by
  have k1 : IntKind.i64.wrap (z - n) = z - n := IntWalk.i64_in _ (by omega)
  have k2 : ¬ z - (n : Int) < 0 := by omega
  go_enter Try.func29, Try.ntmps29
  go_wp2
  go_ret
  exact ⟨rfl, rfl⟩
set_option maxHeartbeats 400000 in
theorem szGaugeS_over (n : Nat) (A : Option Addr) (c : Nat) (z : Int) (w : World) (hn : z < n) (hz : 0 ≤ z ∧ z ≤ 1048576) (hm : n ≤ 9223372036854775807) :
    Calls Try.prog 29 #[.slice A n c, .int .i64 z] w fun e w' => e = .returned (.int .i64 (-1)) ∧ w = w' := by
  have k1 : IntKind.i64.wrap (z - n) = z - n := IntWalk.i64_in _ (by omega)
  have k2 : z - (n : Int) < 0 := by omega
  go_enter Try.func29, Try.ntmps29
  go_wp2
  go_ret
  exact ⟨rfl, rfl⟩
def gaugeOK (g : Gauge) : Bool := inB g.least 0 g.most && decide (g.most ≤ 6)
def badGauge (l : List Gauge) (i : Nat) : Bool := !(gaugeOK l[i]!)
def areGauges (l : List Gauge) : Bool := inB l.length 1 5 && (firstTo (badGauge l) l.length).isNone
def placeOf (o : Option Nat) : Int := match o with | some k => k | none => -1
set_option maxHeartbeats 1000000 in
theorem gauge1_any (a b : Int) (w : World) :
    Calls Try.prog 97 #[.agg #[.int .i64 a, .int .i64 b]] w fun x w' => x = .returned (.bool (!(gaugeOK ⟨a, b⟩))) ∧ Below w.heap.size w w' := by
  go_enter Try.func97, Try.ntmps97
  go_wp2
  all_goals go_ret
  all_goals refine ⟨ret_bool ?_, (by repeat (first | assumption | exact Below.refl _ _ | apply bl_gw | apply bl_alloc | apply bl_drewN | apply bl_drew))⟩
  all_goals simp [gaugeOK, inB, *]
  all_goals first | omega | (rw [Bool.eq_iff_iff]; simp; omega)
set_option maxHeartbeats 4000000 in
theorem indexGauge_any (l : List Gauge) (n : Nat) (hn : l.length = n) (A : Option Addr) (cap : Nat) (w : World) (hl : n ≤ 1048576) (hc : Sl encGauge w w.heap.size A l) :
    Calls Try.prog 102 #[.slice A n cap, .func (.func 97) #[] #[]] w fun e w' => e = .returned (.int .i64 (placeOf (firstTo (badGauge l) l.length))) ∧ Below w.heap.size w w' := by
  have HC := Lib.hid hc; clear hc
  have HN := Lib.hid hn; clear hn
  go_enter Try.func102, Try.ntmps102
  go_wp2
  go_loopw [8] (fun i wr => ∃ k : Nat, k ≤ n ∧ i = .int .i64 k ∧ firstTo (badGauge l) k = none ∧ Below w.heap.size w wr) (fun i _ => n - (intOf i).toNat)
  case atStart => exact ⟨0, Nat.zero_le _, rfl, rfl, Below.refl _ _⟩
  case round =>
    obtain ⟨k, hk, rfl, hall, hbel⟩ := hrel
    have HA := Lib.hid hall; clear hall
    have hsz := hbel.size
    by_cases hlt : k < n
    · obtain ⟨b, off, rfl, hb, hcs⟩ := HC.out.gauge (by rw [HN.out]; omega)
      have hx : l[k]? = some (l[k]'(by rw [HN.out]; exact hlt)) := List.getElem?_eq_getElem _
      generalize l[k]'(by rw [HN.out]; exact hlt) = x at hx
      obtain ⟨c0, c1⟩ := hcs k x hx
      clear hcs
      have hbad : badGauge l k = !(gaugeOK x) := by simp [badGauge, hx]
      clear hx
      obtain ⟨x1, x2⟩ := x
      dsimp only at c0 c1
      rw [← hbel.cell hb] at c0 c1
      have hbw : b < wr.heap.size := by omega
      have HX := Lib.hid (show badGauge l k = true → placeOf (firstTo (badGauge l) l.length) = k from fun h => by
        simp [firstTo_hit HA.out h l.length (by rw [HN.out]; exact hlt), placeOf])
      have HY := Lib.hid (show badGauge l k = false → firstTo (badGauge l) (k + 1) = none from fun h => firstTo_miss HA.out h)
      have HB := Lib.hid hbad
      clear hbad
      have k1 : (k : Int) < n := by omega
      have k2 : (0 : Int) ≤ (k : Int) := by omega
      rcases Bool.eq_false_or_eq_true (!(gaugeOK ⟨x1, x2⟩)) with hq | hq
      · have HQ := Lib.hid hq; clear hq
        go_wp2_with (go_at_call 97; refine (gauge1_any _ _ _).mono ?_; rintro e w1 ⟨rfl, hb1⟩; obtain ⟨p, rfl⟩ := below_gw hb1; clear hb1; rw [HQ.out])
        go_ret
        rw [HX.out (by rw [HB.out]; exact HQ.out)]
        exact ⟨rfl, (by repeat (first | assumption | exact Below.refl _ _ | apply bl_gw | apply bl_alloc | apply bl_drewN | apply bl_drew))⟩
      · have HQ := Lib.hid hq; clear hq
        go_wp2_with (go_at_call 97; refine (gauge1_any _ _ _).mono ?_; rintro e w1 ⟨rfl, hb1⟩; obtain ⟨p, rfl⟩ := below_gw hb1; clear hb1; rw [HQ.out])
        go_roundw
        case rel => exact ⟨k + 1, by omega, by go_num, HY.out (by rw [HB.out]; exact HQ.out), (by repeat (first | assumption | exact Below.refl _ _ | apply bl_gw | apply bl_alloc | apply bl_drewN | apply bl_drew))⟩
        case measure => simp [intOf]; omega
    · go_wp2
      go_ret
      obtain rfl : k = n := by omega
      refine ⟨?_, hbel⟩
      rw [HN.out, HA.out]
      rfl
theorem placeOf_neg (o : Option Nat) : decide (0 ≤ placeOf o) = !o.isNone := by
  cases o with
  | none => rfl
  | some k => simp [placeOf]
set_option maxHeartbeats 1000000 in
theorem containsGauge_any (l : List Gauge) (n : Nat) (hn : l.length = n) (A : Option Addr) (cap : Nat) (w : World) (hl : n ≤ 1048576) (hc : Sl encGauge w w.heap.size A l) :
    Calls Try.prog 96 #[.slice A n cap, .func (.func 97) #[] #[]] w fun e w' => e = .returned (.bool (!(firstTo (badGauge l) l.length).isNone)) ∧ Below w.heap.size w w' := by
  have HC := Lib.hid hc; clear hc
  have HN := Lib.hid hn; clear hn
  rw [← placeOf_neg]
  go_enter Try.func96, Try.ntmps96
  go_wp2_with (go_at_call 102; refine (indexGauge_any l n HN.out _ _ _ hl HC.out).mono ?_; rintro e w1 ⟨rfl, hb⟩)
  go_ret
  exact ⟨ret_bool (by simp), hb⟩
set_option maxHeartbeats 1000000 in
theorem impl_areGauges_any (l : List Gauge) (n : Nat) (hn : l.length = n) (A : Option Addr) (cap : Nat) (w : World) (hl : n ≤ 1048576) (hc : Sl encGauge w w.heap.size A l) :
    Calls Try.prog 67 #[.slice A n cap] w fun e w' => e = .returned (.bool (areGauges l)) ∧ Below w.heap.size w w' := by
  have HC := Lib.hid hc; clear hc
  obtain ⟨u, hu⟩ : ∃ u, (!(firstTo (badGauge l) l.length).isNone) = u := ⟨_, rfl⟩
  have hd : areGauges l = (inB n 1 5 && !u) := by rw [← hu, areGauges, hn]; simp
  have HN := Lib.hid hn; clear hn
  have HU := Lib.hid hu; clear hu
  rw [hd]
  clear hd
  rcases sp1 (inB n 1 5) with t | t
  all_goals
    go_enter Try.func67, Try.ntmps67
    go_wp2_with (first | (go_at_call 68; refine (within_any _ _ _ _).mono ?_; rintro e w1 ⟨rfl, rfl⟩) | (go_at_call 96; refine (containsGauge_any l n HN.out _ _ _ hl HC.out).mono ?_; rintro e w1 ⟨rfl, hb⟩; rw [HU.out]; obtain ⟨p, rfl⟩ := below_gw hb; clear hb))
    go_ret
    exact ⟨ret_bool (by simp [t]), (by repeat (first | assumption | exact Below.refl _ _ | apply bl_gw | apply bl_alloc | apply bl_drewN | apply bl_drew))⟩
set_option maxHeartbeats 4000000 in
theorem l16Gauges_any (l : List Gauge) (n : Nat) (hn : l.length = n) (A : Option Addr) (cap : Nat) (w : World) (hl : n ≤ 1048576) (hc : Sl encGauge w w.heap.size A l) :
    Calls Try.prog 82 #[.slice A n cap] w fun e w' => e = .returned (.bool (areGauges l)) ∧ Below w.heap.size w w' := by
  have HC := Lib.hid hc; clear hc
  have HN := Lib.hid hn; clear hn
  go_enter Try.func82, Try.ntmps82
  go_wp2
  go_loopw [3] (fun i wr => ∃ k : Nat, k ≤ n ∧ i = .int .i64 k ∧ firstTo (badGauge l) k = none ∧ Below w.heap.size w wr) (fun i _ => n - (intOf i).toNat)
  case atStart => exact ⟨0, Nat.zero_le _, rfl, rfl, Below.refl _ _⟩
  case round =>
    obtain ⟨k, hk, rfl, hall, hbel⟩ := hrel
    have HA := Lib.hid hall; clear hall
    have hsz := hbel.size
    by_cases hlt : k < n
    · obtain ⟨b, off, rfl, hb, hcs⟩ := HC.out.gauge (by rw [HN.out]; omega)
      have hx : l[k]? = some (l[k]'(by rw [HN.out]; exact hlt)) := List.getElem?_eq_getElem _
      generalize l[k]'(by rw [HN.out]; exact hlt) = x at hx
      obtain ⟨c0, c1⟩ := hcs k x hx
      clear hcs
      have hbad : badGauge l k = !(gaugeOK x) := by simp [badGauge, hx]
      clear hx
      obtain ⟨x1, x2⟩ := x
      dsimp only at c0 c1
      rw [← hbel.cell hb] at c0 c1
      have hbw : b < wr.heap.size := by omega
      have HX := Lib.hid (show badGauge l k = true → Ending.returned (.bool false) = .returned (.bool (areGauges l)) from fun h => by
        simp [areGauges, firstTo_hit HA.out h l.length (by rw [HN.out]; exact hlt)])
      have HY := Lib.hid (show badGauge l k = false → firstTo (badGauge l) (k + 1) = none from fun h => firstTo_miss HA.out h)
      have HB := Lib.hid hbad
      clear hbad
      have k1 : (k : Int) < n := by omega
      have k2 : (0 : Int) ≤ (k : Int) := by omega
      rcases sp1 (inB x1 0 x2) with t1 | t1
      all_goals
        go_wp2
        refine wp_region_gw (by kernel_rfl) (by kernel_rfl) ?_
        repeat (first | go_big_quiet_step ((go_at_call 80; exact quiet_gw_same (l1In_q (by assumption) _))) | quiet_step ((go_at_call 80; exact quiet_gw_same (l1In_q (by assumption) _))))
        refine wpQuiet_nil ?_
        rintro _ ⟨pq, rfl⟩
        go_wp2
      all_goals first
        | (go_ret
           exact ⟨HX.out (by rw [HB.out]; simp [gaugeOK, *] <;> omega), (by repeat (first | assumption | exact Below.refl _ _ | apply bl_gw | apply bl_alloc | apply bl_drewN | apply bl_drew))⟩)
        | (go_roundw
           case rel => exact ⟨k + 1, by omega, by go_num, HY.out (by rw [HB.out]; simp [gaugeOK, *] <;> omega), (by repeat (first | assumption | exact Below.refl _ _ | apply bl_gw | apply bl_alloc | apply bl_drewN | apply bl_drew))⟩
           case measure => simp [intOf]; omega)
    · obtain rfl : k = n := by omega
      have hd : areGauges l = inB k 1 5 := by simp [areGauges, HN.out, HA.out]
      have HE := Lib.hid hd
      clear hd
      go_wp2_with (first | (go_at_call 80; refine (l1In_any _ _ _ _).mono ?_; rintro e w1 ⟨rfl, rfl⟩))
      go_ret
      exact ⟨by rw [HE.out]; rfl, hbel⟩
end Go.Proofs.Ytbedepmcecdhfaa
