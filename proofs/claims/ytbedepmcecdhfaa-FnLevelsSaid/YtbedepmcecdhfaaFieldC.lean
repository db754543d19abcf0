/- Walks of fields: the program. -/
import Derived.Test.YtbedepmcecdhfaaFieldB
import Derived.Deep.Cut
namespace Go.Proofs.Ytbedepmcecdhfaa
open Go.RowKit
theorem sl_two {w : World} {B bk off : Nat} {a b : Int} (hb : bk < B) (c0 : w.cell? ⟨bk, off, none⟩ = some (.int .i64 a)) (c1 : w.cell? ⟨bk, off + 1, none⟩ = some (.int .i64 b)) : Sl encInt w B (some ⟨bk, off, none⟩) [a, b] := by
  intro _
  refine ⟨bk, off, rfl, hb, fun i x hx j z hz => ?_⟩
  have hj : j = 0 := by
    have := (List.getElem?_eq_some_iff.1 hz).1
    simp [encInt] at this
    exact this
  subst hj
  simp [encInt] at hz
  subst hz
  match i, hx with
  | 0, hx => simp at hx; subst hx; simpa [encInt] using c0
  | 1, hx => simp at hx; subst hx; simpa [encInt] using c1
theorem spec_IsField_any (g : List Gauge) (D : List Ditch) (n m : Nat) (hn : g.length = n) (hm : D.length = m) (A A' : Option Addr) (cap cap' : Nat) (w : World) (hl : n ≤ 1048576) (hl' : m ≤ 1048576) (hc : Sl encGauge w w.heap.size A g) (hd : Sl encDitch w w.heap.size A' D) :
    Calls Try.prog 20 #[.slice A n cap, .slice A' m cap'] w fun e w' => e = .returned (.bool (isField g D)) ∧ Below w.heap.size w w' := by
  go_enter Try.func20, Try.ntmps20
  go_wp2_with fail
  refine (l16Field_any g D n m hn hm _ _ _ _ _ hl hl' hc hd).mono ?_
  rintro e w1 ⟨rfl, b⟩
  go_wp2
  go_ret
  exact ⟨rfl, b⟩
set_option maxRecDepth 4000 in
set_option maxHeartbeats 8000000 in
theorem impl_IsField_any (g : List Gauge) (D : List Ditch) (n m : Nat) (hn : g.length = n) (hm : D.length = m) (A A' : Option Addr) (cap cap' : Nat) (w : World) (hl : n ≤ 1048576) (hl' : m ≤ 1048576) (hc : Sl encGauge w w.heap.size A g) (hd : Sl encDitch w w.heap.size A' D) :
    Calls Try.prog 19 #[.slice A n cap, .slice A' m cap'] w fun e w' => e = .returned (.bool (isField g D)) ∧ Below w.heap.size w w' := by
  have HC := Lib.hid hc; clear hc
  have HD := Lib.hid hd; clear hd
  have HN := Lib.hid hn; clear hn
  have HM := Lib.hid hm; clear hm
  have hwn : IntKind.i64.wrap ((n : Int) - 1) = (n : Int) - 1 := IntWalk.i64_in _ (by omega)
  rcases sp1 (areGauges g) with t1 | t1
  · have hf : isField g D = false := by simp [isField, t1]
    rw [hf]
    clear hf
    go_enter Try.func19, Try.ntmps19
    go_wp2_with fail
    refine (impl_areGauges_any g n HN.out _ _ _ hl HC.out).mono ?_
    rintro e w1 ⟨rfl, b⟩
    rw [t1]
    go_wp2
    go_ret
    exact ⟨rfl, b⟩
  by_cases h8 : m ≤ 8
  rotate_left
  · have hf : isField g D = false := by simp [isField, HM.out, h8]
    rw [hf]
    clear hf
    have h8' : (8 : Int) < m := by omega
    go_enter Try.func19, Try.ntmps19
    go_wp2_with fail
    refine (impl_areGauges_any g n HN.out _ _ _ hl HC.out).mono ?_
    rintro e w1 ⟨rfl, b⟩
    rw [t1]
    go_wp2
    go_ret
    exact ⟨rfl, b⟩
  have h8' : ¬ (8 : Int) < m := by omega
  have HG := Lib.hid t1
  go_enter Try.func19, Try.ntmps19
  go_wp2_with fail
  refine (impl_areGauges_any g n HN.out _ _ _ hl HC.out).mono ?_
  rintro e w1 ⟨rfl, b1⟩
  rw [t1]
  have B1 := Lib.hid b1
  clear t1 b1
  go_wp2
  clear h8'
  go_loopw [17] (fun i wr => ∃ k : Nat, k ≤ m ∧ i = .int .i64 k ∧ firstTo (badDitch n D) k = none ∧ Below w.heap.size w wr) (fun i _ => m - (intOf i).toNat)
  case atStart => exact ⟨0, Nat.zero_le _, rfl, rfl, B1.out⟩
  case round =>
    obtain ⟨k, hk, rfl, hall, hbel⟩ := hrel
    have HA := Lib.hid hall; clear hall
    have hsz := hbel.size
    have HBL := Lib.hid hbel
    by_cases hlt : k < m
    · obtain ⟨bk, off, rfl, hb, hcs⟩ := HD.out.ditch (by rw [HM.out]; omega)
      have hx : D[k]? = some (D[k]'(by rw [HM.out]; exact hlt)) := List.getElem?_eq_getElem _
      have hy : D[k - 1]? = some (D[k - 1]'(by rw [HM.out]; omega)) := List.getElem?_eq_getElem _
      generalize D[k]'(by rw [HM.out]; exact hlt) = x at hx
      generalize D[k - 1]'(by rw [HM.out]; omega) = y at hy
      obtain ⟨c0, c1⟩ := hcs k x hx
      obtain ⟨d0, d1⟩ := hcs (k - 1) y hy
      obtain ⟨a, b⟩ := x
      obtain ⟨a', b'⟩ := y
      have hbad := bad_of (n := n) hx
      rw [List.getElem!_of_getElem? hy, show decide (a = b) = (a == b) by by_cases h : a = b <;> simp [h]] at hbad
      have hexit : badDitch n D k = true → Ending.returned (.bool false) = .returned (.bool (isField g D)) := fun h => by rw [field_hit HN.out HM.out HA.out h hlt]
      have hnext : badDitch n D k = false → firstTo (badDitch n D) (k + 1) = none := fun h => firstTo_miss HA.out h
      rw [hbad] at hexit hnext
      have HX := Lib.hid hexit
      have HY := Lib.hid hnext
      dsimp only at c0 c1 d0 d1
      clear hcs hx hy hexit hnext hbad
      rw [← hbel.cell hb] at c0 c1 d0 d1
      have hbw : bk < wr.heap.size := by omega
      have k0 : (k : Int) < m := by omega
      have k1 : 0 < k → (0 : Int) ≤ (k : Int) - 1 := fun h => by omega
      have k2 : 0 < k → (1 : Int) ≤ (k : Int) := fun h => by omega
      have k3 : ((k : Int) - 1).toNat = k - 1 := by omega
      have k4 : (k : Int) - 1 < m := by omega
      have K1 := Lib.hid k1
      have K2 := Lib.hid k2
      clear k1 k2
      clear hbel
      have HC0 := Lib.hid c0
      have HC1 := Lib.hid c1
      have HD0 := Lib.hid d0
      have HD1 := Lib.hid d1
      have HKW := Lib.hid (Blk.new wr 84 #[.int .i64 a, .int .i64 b])
      obtain ⟨cv, hcv⟩ : ∃ cv, cmpAt [a', b'] [a, b] 2 = cv := ⟨_, rfl⟩
      have hcl := cmpAt_ditch ⟨a', b'⟩ ⟨a, b⟩
      dsimp only at hcl
      rw [hcv] at hcl
      rw [← hcl] at HX HY
      have HCV := Lib.hid hcv
      clear hcl hcv
      rcases sp3 (inB a 0 ((n : Int) - 1)) (inB b 0 ((n : Int) - 1)) (decide (0 < k)) with t1 | ⟨t1, t2⟩ | ⟨t1, t2, t4⟩ | ⟨t1, t2, t4⟩
      case' inr.inr.inr =>
        have t5 : 0 < k := by simpa using t4
        have k5 := K1.out (by omega)
        have k6 := K2.out (by omega)
        have k7 : IntKind.i64.wrap ((k : Int) - 1) = (k : Int) - 1 := IntWalk.i64_in _ (by omega)
      all_goals
        go_upto_region 8 with (first | (go_at_call 68; refine (within_any _ _ _ _).mono ?_; rintro e w1 ⟨rfl, rfl⟩))
      all_goals try
        refine wp_region_gw (by kernel_rfl) (by kernel_rfl) ?_
        repeat (first | go_big_quiet_step ((go_at_call 69; exact quiet_gw (v := .int .i64 cv) ((compare_any [a', b'] [a, b] 2 rfl rfl _ _ _ _ _ (by omega) ((sl_two hbw HD0.out HD1.out).past (by repeat (first | assumption | exact Below.refl _ _ | apply bl_gw | apply bl_alloc | apply bl_drewN | apply bl_drew))) ((sl_two HKW.out.lt (HKW.out.cell 0) (HKW.out.cell 1)).past (by repeat (first | assumption | exact Below.refl _ _ | apply bl_gw | apply bl_alloc | apply bl_drewN | apply bl_drew)))).mono (fun _ _ ⟨he, hb⟩ => ⟨by rw [he, HCV.out], hb⟩)))) | quiet_step ((go_at_call 69; exact quiet_gw (v := .int .i64 cv) ((compare_any [a', b'] [a, b] 2 rfl rfl _ _ _ _ _ (by omega) ((sl_two hbw HD0.out HD1.out).past (by repeat (first | assumption | exact Below.refl _ _ | apply bl_gw | apply bl_alloc | apply bl_drewN | apply bl_drew))) ((sl_two HKW.out.lt (HKW.out.cell 0) (HKW.out.cell 1)).past (by repeat (first | assumption | exact Below.refl _ _ | apply bl_gw | apply bl_alloc | apply bl_drewN | apply bl_drew)))).mono (fun _ _ ⟨he, hb⟩ => ⟨by rw [he, HCV.out], hb⟩)))))
        refine wpQuiet_nil ?_
        rintro _ ⟨pq, rfl⟩
      all_goals go_wp2
      all_goals first
        | (go_ret
           exact ⟨HX.out (by simp [*] <;> first | omega | (simp at t4; omega)), HBL.out.trans ((show Below wr.heap.size wr _ from (by repeat (first | assumption | exact Below.refl _ _ | apply bl_gw | apply bl_alloc | apply bl_drewN | apply bl_drew))).mono hsz)⟩)
        | (go_roundw
           case rel => exact ⟨k + 1, by omega, by go_num, HY.out (by simp [*] <;> first | omega | (simp at t4; omega)), HBL.out.trans ((show Below wr.heap.size wr _ from (by repeat (first | assumption | exact Below.refl _ _ | apply bl_gw | apply bl_alloc | apply bl_drewN | apply bl_drew))).mono hsz)⟩
           case measure => simp [intOf]; omega)
    · obtain rfl : k = m := by omega
      have HF := Lib.hid (show isField g D = true by
        unfold isField
        rw [HM.out, HN.out, HA.out, HG.out]
        simp [h8])
      go_wp2
      go_ret
      rw [HF.out]
      exact ⟨rfl, HBL.out⟩
end Go.Proofs.Ytbedepmcecdhfaa
