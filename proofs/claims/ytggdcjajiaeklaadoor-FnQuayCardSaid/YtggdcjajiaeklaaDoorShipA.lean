/- Walks of ships: one ship. -/
import Derived.Test.YtggdcjajiaeklaaDoorShip
namespace Go.Proofs.YtggdcjajiaeklaaDoor
open Go.RowKit
set_option maxHeartbeats 400000 in
theorem within_any (n a b : Int) (w : World) :
    Calls Tryd.prog 53 #[.int .i64 n, .int .i64 a, .int .i64 b] w fun e w' => e = .returned (.bool (inB n a b)) ∧ w = w' := by
  go_enter Tryd.func53, Tryd.ntmps53
  go_wp2
  all_goals go_ret
  all_goals refine ⟨?_, rfl⟩
  all_goals simp [inB, *]
  all_goals omega
theorem within_q {n a b : Int} {v : Bool} (h : inB n a b = v) (w : World) :
    Calls Tryd.prog 53 #[.int .i64 n, .int .i64 a, .int .i64 b] w fun e w' => e = .returned (.bool v) ∧ w = w' := h ▸ within_any n a b w
set_option maxHeartbeats 400000 in
theorem l1In_any (n a b : Int) (w : World) :
    Calls Tryd.prog 33 #[.int .i64 n, .int .i64 a, .int .i64 b] w fun e w' => e = .returned (.bool (inB n a b)) ∧ w = w' := by
  go_enter Tryd.func33, Tryd.ntmps33
  go_wp2
  all_goals go_ret
  all_goals refine ⟨?_, rfl⟩
  all_goals simp [inB, *]
  all_goals omega
theorem l1In_q {n a b : Int} {v : Bool} (h : inB n a b = v) (w : World) :
    Calls Tryd.prog 33 #[.int .i64 n, .int .i64 a, .int .i64 b] w fun e w' => e = .returned (.bool v) ∧ w = w' := h ▸ l1In_any n a b w
set_option maxHeartbeats 400000 in
theorem isId_any (n : Int) (w : World) :
    Calls Tryd.prog 52 #[.int .i64 n] w fun e w' => e = .returned (.bool (inB n 1 99)) ∧ w = w' := by
  go_enter Tryd.func52, Tryd.ntmps52
  go_wp2_with (go_at_call 53; refine (within_any _ _ _ _).mono ?_; rintro e w' ⟨rfl, rfl⟩)
  go_ret
  exact ⟨rfl, rfl⟩
theorem isId_q {n : Int} {v : Bool} (h : inB n 1 99 = v) (w : World) :
    Calls Tryd.prog 52 #[.int .i64 n] w fun e w' => e = .returned (.bool v) ∧ w = w' := h ▸ isId_any n w
set_option maxHeartbeats 400000 in
theorem isDay_any (n : Int) (w : World) :
    Calls Tryd.prog 42 #[.int .i64 n] w fun e w' => e = .returned (.bool (inB n 0 4000)) ∧ w = w' := by
  go_enter Tryd.func42, Tryd.ntmps42
  go_wp2_with (go_at_call 53; refine (within_any _ _ _ _).mono ?_; rintro e w' ⟨rfl, rfl⟩)
  go_ret
  exact ⟨rfl, rfl⟩
theorem isDay_q {n : Int} {v : Bool} (h : inB n 0 4000 = v) (w : World) :
    Calls Tryd.prog 42 #[.int .i64 n] w fun e w' => e = .returned (.bool v) ∧ w = w' := h ▸ isDay_any n w
set_option maxHeartbeats 400000 in
theorem l2Day_any (n : Int) (w : World) :
    Calls Tryd.prog 46 #[.int .i64 n] w fun e w' => e = .returned (.bool (inB n 0 4000)) ∧ w = w' := by
  go_enter Tryd.func46, Tryd.ntmps46
  go_wp2_with (first | (go_at_call 33; refine (l1In_any _ _ _ _).mono ?_; rintro e w1 ⟨rfl, rfl⟩))
  go_ret
  exact ⟨rfl, rfl⟩
def shipOK (s : Ship) : Bool := inB s.id 1 99 && (inB s.come 0 4000 && (inB s.leave 0 4000 && (decide (s.come < s.leave) && (inB s.draft 10 90 && (inB s.holds 1 3000 && inB s.loaded 0 s.holds)))))
set_option maxHeartbeats 4000000 in
theorem IsShip_any (a b c d e f : Int) (w : World) :
    Calls Tryd.prog 24 #[.agg #[.int .i64 a, .int .i64 b, .int .i64 c, .int .i64 d, .int .i64 e, .int .i64 f]] w fun x w' => x = .returned (.bool (shipOK ⟨a, b, c, d, e, f⟩)) ∧ Below w.heap.size w w' := by
  rcases sp6 (inB a 1 99) (inB b 0 4000) (inB c 0 4000) (decide (b < c)) (inB d 10 90) (inB e 1 3000) with t | ⟨t1, t⟩ | ⟨t1, t2, t⟩ | ⟨t1, t2, t3, t⟩ | ⟨t1, t2, t3, t4, t⟩ | ⟨t1, t2, t3, t4, t5, t⟩ | ⟨t1, t2, t3, t4, t5, t⟩
  all_goals
    go_enter Tryd.func24, Tryd.ntmps24
    go_wp2_with (first | (go_at_call 53; refine (within_any _ _ _ _).mono ?_; rintro e w1 ⟨rfl, rfl⟩) | (go_at_call 52; refine (isId_any _ _).mono ?_; rintro e w1 ⟨rfl, rfl⟩) | (go_at_call 42; refine (isDay_any _ _).mono ?_; rintro e w1 ⟨rfl, rfl⟩))
    all_goals go_ret
    all_goals exact ⟨ret_bool (by simp [shipOK, *]), (by repeat (first | assumption | exact Below.refl _ _ | apply bl_gw | apply bl_alloc | apply bl_drewN | apply bl_drew))⟩
set_option maxHeartbeats 4000000 in
theorem l17One_any (a b c d e f : Int) (w : World) :
    Calls Tryd.prog 27 #[.agg #[.int .i64 a, .int .i64 b, .int .i64 c, .int .i64 d, .int .i64 e, .int .i64 f]] w fun x w' => x = .returned (.bool (shipOK ⟨a, b, c, d, e, f⟩)) ∧ Below w.heap.size w w' := by
  have hd : shipOK ⟨a, b, c, d, e, f⟩ = (inB a 1 99 && (inB c 0 4000 && (inB b 0 (c - 1) && (inB d 10 90 && (inB e 1 3000 && inB f 0 e))))) := by
    rw [Bool.eq_iff_iff]
    simp only [shipOK, inB, Bool.and_eq_true, decide_eq_true_eq]
    omega
  rw [hd]
  clear hd
  rcases sp5 (inB a 1 99) (inB c 0 4000) (inB b 0 (c - 1)) (inB d 10 90) (inB e 1 3000) with t | ⟨t1, t⟩ | ⟨t1, t2, t⟩ | ⟨t1, t2, t3, t⟩ | ⟨t1, t2, t3, t4, t⟩ | ⟨t1, t2, t3, t4, t⟩
  case' inr.inr.inl => obtain ⟨q1, q2⟩ := inB_true t2
  case' inr.inr.inr.inl => obtain ⟨q1, q2⟩ := inB_true t2
  case' inr.inr.inr.inr.inl => obtain ⟨q1, q2⟩ := inB_true t2
  case' inr.inr.inr.inr.inr => obtain ⟨q1, q2⟩ := inB_true t2
  all_goals
    go_enter Tryd.func27, Tryd.ntmps27
    go_wp2_with (first | (go_at_call 33; refine (l1In_any _ _ _ _).mono ?_; rintro e w1 ⟨rfl, rfl⟩) | (go_at_call 46; refine (l2Day_any _ _).mono ?_; rintro e w1 ⟨rfl, rfl⟩))
    all_goals go_ret
    all_goals exact ⟨ret_bool (by simp [*]), (by repeat (first | assumption | exact Below.refl _ _ | apply bl_gw | apply bl_alloc | apply bl_drewN | apply bl_drew))⟩
end Go.Proofs.YtggdcjajiaeklaaDoor
