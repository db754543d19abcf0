/- Walks of contracts: one contract. -/
import Derived.Test.YtcljfdpjlkaagaaDoorContract
namespace Go.Proofs.YtcljfdpjlkaagaaDoor
open Go.RowKit
set_option maxHeartbeats 400000 in
theorem within_any (n a b : Int) (w : World) :
    Calls Tryd.prog 28 #[.int .i64 n, .int .i64 a, .int .i64 b] w fun e w' => e = .returned (.bool (inB n a b)) ∧ w = w' := by
  go_enter Tryd.func28, Tryd.ntmps28
  go_wp2
  all_goals go_ret
  all_goals refine ⟨?_, rfl⟩
  all_goals simp [inB, *]
  all_goals omega
theorem within_q {n a b : Int} {v : Bool} (h : inB n a b = v) (w : World) :
    Calls Tryd.prog 28 #[.int .i64 n, .int .i64 a, .int .i64 b] w fun e w' => e = .returned (.bool v) ∧ w = w' := h ▸ within_any n a b w
set_option maxHeartbeats 400000 in
theorem l1In_any (n a b : Int) (w : World) :
    Calls Tryd.prog 34 #[.int .i64 n, .int .i64 a, .int .i64 b] w fun e w' => e = .returned (.bool (inB n a b)) ∧ w = w' := by
  go_enter Tryd.func34, Tryd.ntmps34
  go_wp2
  all_goals go_ret
  all_goals refine ⟨?_, rfl⟩
  all_goals simp [inB, *]
  all_goals omega
theorem l1In_q {n a b : Int} {v : Bool} (h : inB n a b = v) (w : World) :
    Calls Tryd.prog 34 #[.int .i64 n, .int .i64 a, .int .i64 b] w fun e w' => e = .returned (.bool v) ∧ w = w' := h ▸ l1In_any n a b w
set_option maxHeartbeats 400000 in
theorem isId_any (n : Int) (w : World) :
    Calls Tryd.prog 40 #[.int .i64 n] w fun e w' => e = .returned (.bool (inB n 1 99)) ∧ w = w' := by
  go_enter Tryd.func40, Tryd.ntmps40
  go_wp2_with (go_at_call 28; refine (within_any _ _ _ _).mono ?_; rintro e w' ⟨rfl, rfl⟩)
  go_ret
  exact ⟨rfl, rfl⟩
theorem isId_q {n : Int} {v : Bool} (h : inB n 1 99 = v) (w : World) :
    Calls Tryd.prog 40 #[.int .i64 n] w fun e w' => e = .returned (.bool v) ∧ w = w' := h ▸ isId_any n w
set_option maxHeartbeats 400000 in
theorem isDay_any (n : Int) (w : World) :
    Calls Tryd.prog 27 #[.int .i64 n] w fun e w' => e = .returned (.bool (inB n 0 4000)) ∧ w = w' := by
  go_enter Tryd.func27, Tryd.ntmps27
  go_wp2_with (go_at_call 28; refine (within_any _ _ _ _).mono ?_; rintro e w' ⟨rfl, rfl⟩)
  go_ret
  exact ⟨rfl, rfl⟩
theorem isDay_q {n : Int} {v : Bool} (h : inB n 0 4000 = v) (w : World) :
    Calls Tryd.prog 27 #[.int .i64 n] w fun e w' => e = .returned (.bool v) ∧ w = w' := h ▸ isDay_any n w
set_option maxHeartbeats 400000 in
theorem isGrade_any (n : Int) (w : World) :
    Calls Tryd.prog 41 #[.int .i64 n] w fun e w' => e = .returned (.bool (inB n 1 4)) ∧ w = w' := by
  go_enter Tryd.func41, Tryd.ntmps41
  go_wp2_with (go_at_call 28; refine (within_any _ _ _ _).mono ?_; rintro e w' ⟨rfl, rfl⟩)
  go_ret
  exact ⟨rfl, rfl⟩
theorem isGrade_q {n : Int} {v : Bool} (h : inB n 1 4 = v) (w : World) :
    Calls Tryd.prog 41 #[.int .i64 n] w fun e w' => e = .returned (.bool v) ∧ w = w' := h ▸ isGrade_any n w
set_option maxHeartbeats 400000 in
theorem l2Day_any (n : Int) (w : World) :
    Calls Tryd.prog 33 #[.int .i64 n] w fun e w' => e = .returned (.bool (inB n 0 4000)) ∧ w = w' := by
  go_enter Tryd.func33, Tryd.ntmps33
  go_wp2_with (first | (go_at_call 34; refine (l1In_any _ _ _ _).mono ?_; rintro e w1 ⟨rfl, rfl⟩))
  go_ret
  exact ⟨rfl, rfl⟩
set_option maxHeartbeats 400000 in
theorem l7Grade_any (n : Int) (w : World) :
    Calls Tryd.prog 43 #[.int .i64 n] w fun e w' => e = .returned (.bool (inB n 1 4)) ∧ w = w' := by
  go_enter Tryd.func43, Tryd.ntmps43
  go_wp2_with (first | (go_at_call 34; refine (l1In_any _ _ _ _).mono ?_; rintro e w1 ⟨rfl, rfl⟩))
  go_ret
  exact ⟨rfl, rfl⟩
set_option maxHeartbeats 400000 in
theorem areDays_any (a b : Int) (w : World) :
    Calls Tryd.prog 42 #[.int .i64 a, .int .i64 b] w fun e w' => e = .returned (.bool (inB a 0 4000 && (inB b 0 4000 && decide (a ≤ b)))) ∧ w = w' := by
  rcases sp2 (inB a 0 4000) (inB b 0 4000) with t | ⟨t1, t⟩ | ⟨t1, t⟩
  all_goals
    go_enter Tryd.func42, Tryd.ntmps42
    go_wp2_with (first | (go_at_call 27; refine (isDay_any _ _).mono ?_; rintro e w1 ⟨rfl, rfl⟩))
    all_goals go_ret
    all_goals exact ⟨ret_bool (by simp [*]), rfl⟩
def contractOK (s : Contract) : Bool := inB s.id 1 99 && (inB s.grade 1 4 && (inB s.tons 1 5000 && (inB s.price 1 500 && ((inB s.first 0 4000 && (inB s.last 0 4000 && decide (s.first ≤ s.last))) && inB s.fine 0 1000))))
set_option maxHeartbeats 4000000 in
theorem IsContract_any (a b c d e f g : Int) (w : World) :
    Calls Tryd.prog 20 #[.agg #[.int .i64 a, .int .i64 b, .int .i64 c, .int .i64 d, .int .i64 e, .int .i64 f, .int .i64 g]] w fun x w' => x = .returned (.bool (contractOK ⟨a, b, c, d, e, f, g⟩)) ∧ Below w.heap.size w w' := by
  obtain ⟨u, hu⟩ : ∃ u, (inB e 0 4000 && (inB f 0 4000 && decide (e ≤ f))) = u := ⟨_, rfl⟩
  have hd : contractOK ⟨a, b, c, d, e, f, g⟩ = (inB a 1 99 && (inB b 1 4 && (inB c 1 5000 && (inB d 1 500 && (u && inB g 0 1000))))) := by rw [← hu]; rfl
  have HU := Lib.hid hu
  rw [hd]
  clear hd hu
  rcases sp5 (inB a 1 99) (inB b 1 4) (inB c 1 5000) (inB d 1 500) u with t | ⟨t1, t⟩ | ⟨t1, t2, t⟩ | ⟨t1, t2, t3, t⟩ | ⟨t1, t2, t3, t4, t⟩ | ⟨t1, t2, t3, t4, t⟩
  all_goals
    go_enter Tryd.func20, Tryd.ntmps20
    go_wp2_with (first | (go_at_call 28; refine (within_any _ _ _ _).mono ?_; rintro e w1 ⟨rfl, rfl⟩) | (go_at_call 40; refine (isId_any _ _).mono ?_; rintro e w1 ⟨rfl, rfl⟩) | (go_at_call 41; refine (isGrade_any _ _).mono ?_; rintro e w1 ⟨rfl, rfl⟩) | (go_at_call 42; refine (areDays_any _ _ _).mono ?_; rintro e w1 ⟨rfl, rfl⟩; rw [HU.out]))
    all_goals go_ret
    all_goals exact ⟨ret_bool (by simp [*]), (by repeat (first | assumption | exact Below.refl _ _ | apply bl_gw | apply bl_alloc | apply bl_drewN | apply bl_drew))⟩
set_option maxHeartbeats 4000000 in
theorem l18One_any (a b c d e f g : Int) (w : World) :
    Calls Tryd.prog 21 #[.agg #[.int .i64 a, .int .i64 b, .int .i64 c, .int .i64 d, .int .i64 e, .int .i64 f, .int .i64 g]] w fun x w' => x = .returned (.bool (contractOK ⟨a, b, c, d, e, f, g⟩)) ∧ Below w.heap.size w w' := by
  have hd : contractOK ⟨a, b, c, d, e, f, g⟩ = (inB a 1 99 && (inB b 1 4 && (inB c 1 5000 && (inB d 1 500 && (inB f 0 4000 && (inB e 0 f && inB g 0 1000)))))) := by
    rw [Bool.eq_iff_iff]
    simp only [contractOK, inB, Bool.and_eq_true, decide_eq_true_eq]
    omega
  rw [hd]
  clear hd
  rcases sp6 (inB a 1 99) (inB b 1 4) (inB c 1 5000) (inB d 1 500) (inB f 0 4000) (inB e 0 f) with t | ⟨t1, t⟩ | ⟨t1, t2, t⟩ | ⟨t1, t2, t3, t⟩ | ⟨t1, t2, t3, t4, t⟩ | ⟨t1, t2, t3, t4, t5, t⟩ | ⟨t1, t2, t3, t4, t5, t⟩
  all_goals
    go_enter Tryd.func21, Tryd.ntmps21
    go_wp2_with (first | (go_at_call 34; refine (l1In_any _ _ _ _).mono ?_; rintro e w1 ⟨rfl, rfl⟩) | (go_at_call 33; refine (l2Day_any _ _).mono ?_; rintro e w1 ⟨rfl, rfl⟩) | (go_at_call 43; refine (l7Grade_any _ _).mono ?_; rintro e w1 ⟨rfl, rfl⟩))
    all_goals go_ret
    all_goals exact ⟨ret_bool (by simp [*]), (by repeat (first | assumption | exact Below.refl _ _ | apply bl_gw | apply bl_alloc | apply bl_drewN | apply bl_drew))⟩
end Go.Proofs.YtcljfdpjlkaagaaDoor
