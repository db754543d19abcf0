/- Walks of gauges: whether a list are levels. -/
import Derived.Test.YtbedepmcecdhfaaGaugeA
namespace Go.Proofs.Ytbedepmcecdhfaa
open Go.RowKit
def badLevel (g : List Gauge) (l : List Int) (i : Nat) : Bool := !(inB l[i]! g[i]!.least g[i]!.most)
def areLevels (g : List Gauge) (l : List Int) : Bool := decide (l.length = g.length) && (firstTo (badLevel g l) g.length).isNone
def areLevelsP (g : List Gauge) (l : List Int) : Bool × Bool := if areGauges g then (areLevels g l, true) else (false, false)
theorem areLevels_ne {g : List Gauge} {l : List Int} {n m : Nat} (hn : g.length = n) (hm : l.length = m) (h : m ≠ n) : areLevels g l = false := by
  unfold areLevels; rw [hn, hm, decide_eq_false h]; rfl
theorem areLevels_hit {g : List Gauge} {l : List Int} {n k : Nat} (hn : g.length = n) (h0 : firstTo (badLevel g l) k = none) (h1 : badLevel g l k = true) (hk : k < n) : areLevels g l = false := by
  unfold areLevels; rw [firstTo_hit h0 h1 g.length (by rw [hn]; exact hk)]; simp
theorem areLevels_end {g : List Gauge} {l : List Int} {n m : Nat} (hn : g.length = n) (hm : l.length = m) (h0 : firstTo (badLevel g l) n = none) (h : m = n) : areLevels g l = true := by
  unfold areLevels; rw [hn, hm, h0, h]; simp
set_option maxRecDepth 4000 in
set_option maxHeartbeats 4000000 in
theorem impl_areLevels_any (g : List Gauge) (l : List Int) (n m : Nat) (hn : g.length = n) (hm : l.length = m) (A A' : Option Addr) (cap cap' : Nat) (w : World) (hl : n ≤ 1048576) (hl' : m ≤ 1048576) (hc : Sl encGauge w w.heap.size A g) (hd : Sl encInt w w.heap.size A' l) :
    Calls Try.prog 81 #[.slice A n cap, .slice A' m cap'] w fun e w' => e = .returned (.bool (areLevels g l)) ∧ Below w.heap.size w w' := by
  have HC := Lib.hid hc; clear hc
  have HD := Lib.hid hd; clear hd
  have HN := Lib.hid hn; clear hn
  have HM := Lib.hid hm; clear hm
  by_cases hne : (m : Int) = n
  rotate_left
  · go_enter Try.func81, Try.ntmps81
    go_wp2
    go_ret
    rw [areLevels_ne HN.out HM.out (by omega)]
    exact ⟨rfl, Below.refl _ _⟩
  have HMN := Lib.hid (show m = n by omega)
  go_enter Try.func81, Try.ntmps81
  go_wp2
  clear hne
  go_loopw [14] (fun i wr => ∃ k : Nat, k ≤ n ∧ i = .int .i64 k ∧ firstTo (badLevel g l) k = none ∧ Below w.heap.size w wr) (fun i _ => n - (intOf i).toNat)
  case atStart => exact ⟨0, Nat.zero_le _, rfl, rfl, Below.refl _ _⟩
  case round =>
    obtain ⟨k, hk, rfl, hall, hbel⟩ := hrel
    have HA := Lib.hid hall; clear hall
    have hsz := hbel.size
    by_cases hlt : k < n
    · have hlt' : k < m := by have := HMN.out; omega
      obtain ⟨b, off, rfl, hb, hcs⟩ := HC.out.gauge (by rw [HN.out]; omega)
      obtain ⟨b', off', rfl, hb', hcs'⟩ := HD.out.int_ (by rw [HM.out]; omega)
      have hx : g[k]? = some (g[k]'(by rw [HN.out]; exact hlt)) := List.getElem?_eq_getElem _
      have hy : l[k]? = some (l[k]'(by rw [HM.out]; exact hlt')) := List.getElem?_eq_getElem _
      generalize g[k]'(by rw [HN.out]; exact hlt) = x at hx
      generalize l[k]'(by rw [HM.out]; exact hlt') = y at hy
      obtain ⟨c0, c1⟩ := hcs k x hx
      have d0 := hcs' k y hy
      clear hcs hcs'
      have hbad : badLevel g l k = !(inB y x.least x.most) := by simp [badLevel, hx, hy]
      clear hx hy
      obtain ⟨x1, x2⟩ := x
      dsimp only at c0 c1 hbad
      rw [← hbel.cell hb] at c0 c1
      rw [← hbel.cell hb'] at d0
      have hbw : b < wr.heap.size := by omega
      have hbw' : b' < wr.heap.size := by omega
      have HX := Lib.hid (show badLevel g l k = true → Ending.returned (.bool false) = .returned (.bool (areLevels g l)) from fun h => by rw [areLevels_hit HN.out HA.out h hlt])
      have HY := Lib.hid (show badLevel g l k = false → firstTo (badLevel g l) (k + 1) = none from fun h => firstTo_miss HA.out h)
      have HB := Lib.hid hbad
      clear hbad
      have k1 : (k : Int) < n := by omega
      have k1' : (k : Int) < m := by omega
      have k2 : (0 : Int) ≤ (k : Int) := by omega
      rcases sp1 (inB y x1 x2) with t1 | t1
      all_goals
        go_wp2
        refine wp_region_gw (by kernel_rfl) (by kernel_rfl) ?_
        repeat (first | go_big_quiet_step ((go_at_call 68; exact quiet_gw_same (within_q (by assumption) _))) | quiet_step ((go_at_call 68; exact quiet_gw_same (within_q (by assumption) _))))
        refine wpQuiet_nil ?_
        rintro _ ⟨pq, rfl⟩
        go_wp2
      all_goals first
        | (go_ret
           exact ⟨HX.out (by rw [HB.out, t1]; rfl), (by repeat (first | assumption | exact Below.refl _ _ | apply bl_gw | apply bl_alloc | apply bl_drewN | apply bl_drew))⟩)
        | (go_roundw
           case rel => exact ⟨k + 1, by omega, by go_num, HY.out (by rw [HB.out, t1]; rfl), (by repeat (first | assumption | exact Below.refl _ _ | apply bl_gw | apply bl_alloc | apply bl_drewN | apply bl_drew))⟩
           case measure => simp [intOf]; omega)
    · go_wp2
      go_ret
      obtain rfl : k = n := by omega
      rw [areLevels_end HN.out HM.out HA.out HMN.out]
      exact ⟨rfl, hbel⟩
set_option maxRecDepth 4000 in
set_option maxHeartbeats 4000000 in
theorem l16Levels_any (g : List Gauge) (l : List Int) (n m : Nat) (hn : g.length = n) (hm : l.length = m) (A A' : Option Addr) (cap cap' : Nat) (w : World) (hl : n ≤ 1048576) (hl' : m ≤ 1048576) (hc : Sl encGauge w w.heap.size A g) (hd : Sl encInt w w.heap.size A' l) :
    Calls Try.prog 63 #[.slice A n cap, .slice A' m cap'] w fun e w' => e = .returned (.bool (areLevels g l)) ∧ Below w.heap.size w w' := by
  have HC := Lib.hid hc; clear hc
  have HD := Lib.hid hd; clear hd
  have HN := Lib.hid hn; clear hn
  have HM := Lib.hid hm; clear hm
  go_enter Try.func63, Try.ntmps63
  go_wp2
  go_loopw [5] (fun i wr => ∃ k : Nat, k ≤ n ∧ i = .int .i64 k ∧ firstTo (badLevel g l) k = none ∧ Below w.heap.size w wr) (fun i _ => n - (intOf i).toNat)
  case atStart => exact ⟨0, Nat.zero_le _, rfl, rfl, Below.refl _ _⟩
  case round =>
    obtain ⟨k, hk, rfl, hall, hbel⟩ := hrel
    have HA := Lib.hid hall; clear hall
    have hsz := hbel.size
    by_cases hlt : k < n
    · by_cases hlt' : k < m
      · have hle : k < m := hlt'
        obtain ⟨b, off, rfl, hb, hcs⟩ := HC.out.gauge (by rw [HN.out]; omega)
        obtain ⟨b', off', rfl, hb', hcs'⟩ := HD.out.int_ (by rw [HM.out]; omega)
        have hx : g[k]? = some (g[k]'(by rw [HN.out]; exact hlt)) := List.getElem?_eq_getElem _
        have hy : l[k]? = some (l[k]'(by rw [HM.out]; exact hlt')) := List.getElem?_eq_getElem _
        generalize g[k]'(by rw [HN.out]; exact hlt) = x at hx
        generalize l[k]'(by rw [HM.out]; exact hlt') = y at hy
        obtain ⟨c0, c1⟩ := hcs k x hx
        have d0 := hcs' k y hy
        clear hcs hcs'
        have hbad : badLevel g l k = !(inB y x.least x.most) := by simp [badLevel, hx, hy]
        clear hx hy
        obtain ⟨x1, x2⟩ := x
        dsimp only at c0 c1 hbad
        rw [← hbel.cell hb] at c0 c1
        rw [← hbel.cell hb'] at d0
        have hbw : b < wr.heap.size := by omega
        have hbw' : b' < wr.heap.size := by omega
        have HX := Lib.hid (show badLevel g l k = true → Ending.returned (.bool false) = .returned (.bool (areLevels g l)) from fun h => by rw [areLevels_hit HN.out HA.out h hlt])
        have HY := Lib.hid (show badLevel g l k = false → firstTo (badLevel g l) (k + 1) = none from fun h => firstTo_miss HA.out h)
        have HB := Lib.hid hbad
        clear hbad
        have k1 : (k : Int) < n := by omega
        have k1' : (k : Int) < m := by omega
        have k2 : (0 : Int) ≤ (k : Int) := by omega
        rcases sp1 (inB y x1 x2) with t1 | t1
        all_goals
          go_wp2
          refine wp_region_gw (by kernel_rfl) (by kernel_rfl) ?_
          repeat (first | go_big_quiet_step ((go_at_call 80; exact quiet_gw_same (l1In_q (by assumption) _))) | quiet_step ((go_at_call 80; exact quiet_gw_same (l1In_q (by assumption) _))))
          refine wpQuiet_nil ?_
          rintro _ ⟨pq, rfl⟩
          go_wp2
        all_goals first
          | (go_ret
             exact ⟨HX.out (by rw [HB.out, t1]; rfl), (by repeat (first | assumption | exact Below.refl _ _ | apply bl_gw | apply bl_alloc | apply bl_drewN | apply bl_drew))⟩)
          | (go_roundw
             case rel => exact ⟨k + 1, by omega, by go_num, HY.out (by rw [HB.out, t1]; rfl), (by repeat (first | assumption | exact Below.refl _ _ | apply bl_gw | apply bl_alloc | apply bl_drewN | apply bl_drew))⟩
             case measure => simp [intOf]; omega)
      · have k1' : ¬ (k : Int) < m := by omega
        have k1 : (k : Int) < n := by omega
        have k3 : ¬ (m : Int) = n := by omega
        go_wp2
        go_ret
        rw [areLevels_ne HN.out HM.out (by omega)]
        exact ⟨ret_bool (by simp <;> omega), hbel⟩
    · obtain rfl : k = n := by omega
      have k1 : ¬ (k : Int) < k := by omega
      by_cases hmk : (m : Int) = k
      · have HQ := Lib.hid hmk
        have HE : areLevels g l = true := areLevels_end HN.out HM.out HA.out (by omega)
        have HE' := Lib.hid HE
        clear HE hmk
        by_cases hkm : (k : Int) < m
        · have := HQ.out; omega
        · go_wp2
          go_ret
          rw [HE'.out]
          exact ⟨ret_bool (by have := HQ.out; simp; omega), hbel⟩
      · have HE := Lib.hid (areLevels_ne HN.out HM.out (by omega))
        by_cases hkm : (k : Int) < m
        · go_wp2
          go_ret
          rw [HE.out]
          exact ⟨ret_bool (by simp; omega), hbel⟩
        · go_wp2
          go_ret
          rw [HE.out]
          exact ⟨ret_bool (by simp; omega), hbel⟩
set_option maxHeartbeats 4000000 in
theorem impl_AreLevels_any (g : List Gauge) (l : List Int) (n m : Nat) (hn : g.length = n) (hm : l.length = m) (A A' : Option Addr) (cap cap' : Nat) (w : World) (hl : n ≤ 1048576) (hl' : m ≤ 1048576) (hc : Sl encGauge w w.heap.size A g) (hd : Sl encInt w w.heap.size A' l) :
    Calls Try.prog 26 #[.slice A n cap, .slice A' m cap'] w fun e w' => e = .returned (.tuple #[.bool (areLevelsP g l).1, .bool (areLevelsP g l).2]) ∧ Below w.heap.size w w' := by
  have HC := Lib.hid hc; clear hc
  have HD := Lib.hid hd; clear hd
  have HN := Lib.hid hn; clear hn
  have HM := Lib.hid hm; clear hm
  rcases sp1 (areGauges g) with t1 | t1
  · have hp : areLevelsP g l = (false, false) := by simp [areLevelsP, t1]
    rw [hp]
    clear hp
    go_enter Try.func26, Try.ntmps26
    go_wp2_with (go_at_call 67; refine (impl_areGauges_any g n HN.out _ _ _ hl HC.out).mono ?_; rintro e w1 ⟨rfl, hb⟩; rw [t1])
    go_ret2
    exact ⟨rfl, hb⟩
  · have hp : areLevelsP g l = (areLevels g l, true) := by simp [areLevelsP, t1]
    rw [hp]
    clear hp
    go_enter Try.func26, Try.ntmps26
    go_wp2_with (go_at_call 67; refine (impl_areGauges_any g n HN.out _ _ _ hl HC.out).mono ?_; rintro e w1 ⟨rfl, hb⟩; rw [t1])
    refine (impl_areLevels_any g l n m HN.out HM.out _ _ _ _ _ hl hl' (HC.out.past hb) (HD.out.past hb)).mono ?_
    rintro e w2 ⟨rfl, hb2⟩
    go_wp2
    go_ret2
    exact ⟨rfl, below_step hb hb2⟩
set_option maxHeartbeats 4000000 in
theorem spec_AreLevels_any (g : List Gauge) (l : List Int) (n m : Nat) (hn : g.length = n) (hm : l.length = m) (A A' : Option Addr) (cap cap' : Nat) (w : World) (hl : n ≤ 1048576) (hl' : m ≤ 1048576) (hc : Sl encGauge w w.heap.size A g) (hd : Sl encInt w w.heap.size A' l) :
    Calls Try.prog 30 #[.slice A n cap, .slice A' m cap'] w fun e w' => e = .returned (.tuple #[.bool (areLevelsP g l).1, .bool (areLevelsP g l).2]) ∧ Below w.heap.size w w' := by
  have HC := Lib.hid hc; clear hc
  have HD := Lib.hid hd; clear hd
  have HN := Lib.hid hn; clear hn
  have HM := Lib.hid hm; clear hm
  rcases sp1 (areGauges g) with t1 | t1
  · have hp : areLevelsP g l = (false, false) := by simp [areLevelsP, t1]
    rw [hp]
    clear hp
    go_enter Try.func30, Try.ntmps30
    go_wp2_with (go_at_call 82; refine (l16Gauges_any g n HN.out _ _ _ hl HC.out).mono ?_; rintro e w1 ⟨rfl, hb⟩; rw [t1])
    go_ret2
    exact ⟨rfl, hb⟩
  · have hp : areLevelsP g l = (areLevels g l, true) := by simp [areLevelsP, t1]
    rw [hp]
    clear hp
    go_enter Try.func30, Try.ntmps30
    go_wp2_with (go_at_call 82; refine (l16Gauges_any g n HN.out _ _ _ hl HC.out).mono ?_; rintro e w1 ⟨rfl, hb⟩; rw [t1])
    refine (l16Levels_any g l n m HN.out HM.out _ _ _ _ _ hl hl' (HC.out.past hb) (HD.out.past hb)).mono ?_
    rintro e w2 ⟨rfl, hb2⟩
    go_wp2
    go_ret2
    exact ⟨rfl, below_step hb hb2⟩
end Go.Proofs.Ytbedepmcecdhfaa
