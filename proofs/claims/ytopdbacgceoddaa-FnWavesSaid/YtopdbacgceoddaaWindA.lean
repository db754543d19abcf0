/- Walks of blows and lakes, part A: tests, copies, comparisons. -/
import Derived.Test.YtopdbacgceoddaaProg
import Derived.Test.YtopdbacgceoddaaBase
namespace Go.Proofs.Ytopdbacgceoddaa
open Go.RowKit
structure Blow where
  hour : Int
  speed : Int
  frm : Int
deriving Inhabited
def encBlow : Enc Blow := ⟨3, fun x => [x.hour, x.speed, x.frm], fun _ => rfl⟩
theorem Sl.blow {w : World} {B : Nat} {A : Option Addr} {l : List Blow} (h : Sl encBlow w B A l) (hn : 0 < l.length) :
    ∃ b off, A = some ⟨b, off, none⟩ ∧ b < B ∧ ∀ i x, l[i]? = some x → w.cell? ⟨b, off + i * 3, none⟩ = some (.int .i64 x.hour) ∧ w.cell? ⟨b, off + i * 3 + 1, none⟩ = some (.int .i64 x.speed) ∧ w.cell? ⟨b, off + i * 3 + 2, none⟩ = some (.int .i64 x.frm) := by
  obtain ⟨b, off, e, hb, hc⟩ := h hn
  exact ⟨b, off, e, hb, fun i x hx => ⟨hc i x hx 0 _ rfl, hc i x hx 1 _ rfl, hc i x hx 2 _ rfl⟩⟩

set_option maxHeartbeats 400000 in
theorem within_any (n a b : Int) (w : World) :
    Calls Try.prog 60 #[.int .i64 n, .int .i64 a, .int .i64 b] w fun e w' => e = .returned (.bool (inB n a b)) ∧ w = w' := by
  go_enter Try.func60, Try.ntmps60
  go_wp2
  all_goals go_ret
  all_goals refine ⟨?_, rfl⟩
  all_goals simp [inB, *]
  all_goals omega
theorem within_q {n a b : Int} {v : Bool} (h : inB n a b = v) (w : World) :
    Calls Try.prog 60 #[.int .i64 n, .int .i64 a, .int .i64 b] w fun e w' => e = .returned (.bool v) ∧ w = w' := h ▸ within_any n a b w
set_option maxHeartbeats 400000 in
theorem l1In_any (n a b : Int) (w : World) :
    Calls Try.prog 51 #[.int .i64 n, .int .i64 a, .int .i64 b] w fun e w' => e = .returned (.bool (inB n a b)) ∧ w = w' := by
  go_enter Try.func51, Try.ntmps51
  go_wp2
  all_goals go_ret
  all_goals refine ⟨?_, rfl⟩
  all_goals simp [inB, *]
  all_goals omega
theorem l1In_q {n a b : Int} {v : Bool} (h : inB n a b = v) (w : World) :
    Calls Try.prog 51 #[.int .i64 n, .int .i64 a, .int .i64 b] w fun e w' => e = .returned (.bool v) ∧ w = w' := h ▸ l1In_any n a b w
set_option maxHeartbeats 400000 in
theorem isHour_any (n : Int) (w : World) :
    Calls Try.prog 58 #[.int .i64 n] w fun e w' => e = .returned (.bool (inB n 0 9999)) ∧ w = w' := by
  go_enter Try.func58, Try.ntmps58
  go_wp2_with (go_at_call 60; refine (within_any _ _ _ _).mono ?_; rintro e w' ⟨rfl, rfl⟩)
  go_ret
  exact ⟨rfl, rfl⟩
theorem isHour_q {n : Int} {v : Bool} (h : inB n 0 9999 = v) (w : World) :
    Calls Try.prog 58 #[.int .i64 n] w fun e w' => e = .returned (.bool v) ∧ w = w' := h ▸ isHour_any n w
set_option maxHeartbeats 400000 in
theorem isSpeed_any (n : Int) (w : World) :
    Calls Try.prog 53 #[.int .i64 n] w fun e w' => e = .returned (.bool (inB n 0 60)) ∧ w = w' := by
  go_enter Try.func53, Try.ntmps53
  go_wp2_with (go_at_call 60; refine (within_any _ _ _ _).mono ?_; rintro e w' ⟨rfl, rfl⟩)
  go_ret
  exact ⟨rfl, rfl⟩
theorem isSpeed_q {n : Int} {v : Bool} (h : inB n 0 60 = v) (w : World) :
    Calls Try.prog 53 #[.int .i64 n] w fun e w' => e = .returned (.bool v) ∧ w = w' := h ▸ isSpeed_any n w
set_option maxHeartbeats 400000 in
theorem isDirection_any (n : Int) (w : World) :
    Calls Try.prog 54 #[.int .i64 n] w fun e w' => e = .returned (.bool (inB n 0 3)) ∧ w = w' := by
  go_enter Try.func54, Try.ntmps54
  go_wp2_with (go_at_call 60; refine (within_any _ _ _ _).mono ?_; rintro e w' ⟨rfl, rfl⟩)
  go_ret
  exact ⟨rfl, rfl⟩
theorem isDirection_q {n : Int} {v : Bool} (h : inB n 0 3 = v) (w : World) :
    Calls Try.prog 54 #[.int .i64 n] w fun e w' => e = .returned (.bool v) ∧ w = w' := h ▸ isDirection_any n w

def lakeOK (e n b : Int) : Bool := inB e 1 2000 && (inB n 1 2000 && inB b 0 200)
set_option maxHeartbeats 400000 in
theorem isLake_any (x n b : Int) (w : World) :
    Calls Try.prog 50 #[.agg #[.int .i64 x, .int .i64 n, .int .i64 b]] w fun e w' => e = .returned (.bool (lakeOK x n b)) ∧ Below w.heap.size w w' := by
  go_enter Try.func50, Try.ntmps50
  go_wp2_with (go_at_call 60; refine (within_any _ _ _ _).mono ?_; rintro e w' ⟨rfl, rfl⟩)
  all_goals go_ret
  all_goals refine ⟨?_, (Below.refl _ _).alloc (Nat.le_refl _) _⟩
  all_goals simp [lakeOK, *]
set_option maxHeartbeats 400000 in
theorem l19Lake_any (x n b : Int) (w : World) :
    Calls Try.prog 49 #[.agg #[.int .i64 x, .int .i64 n, .int .i64 b]] w fun e w' => e = .returned (.bool (lakeOK x n b)) ∧ Below w.heap.size w w' := by
  go_enter Try.func49, Try.ntmps49
  go_wp2_with (go_at_call 51; refine (l1In_any _ _ _ _).mono ?_; rintro e w' ⟨rfl, rfl⟩)
  all_goals go_ret
  all_goals refine ⟨?_, (Below.refl _ _).alloc (Nat.le_refl _) _⟩
  all_goals simp [lakeOK, *]

set_option maxHeartbeats 400000 in
theorem toBlow_any (a b c : Int) (w : World) :
    Calls Try.prog 57 #[.agg #[.int .i64 a, .int .i64 b, .int .i64 c]] w fun e w' => e = .returned (.agg #[.int .i64 a, .int .i64 b, .int .i64 c]) ∧ Below w.heap.size w w' := by
  go_enter Try.func57, Try.ntmps57
  go_wp2
  refine bodyPost_ret (v := .agg #[.int .i64 a, .int .i64 b, .int .i64 c]) (by simp [results, Try.results57, go_sem]) rfl ⟨rfl, ?_⟩
  exact (((Below.refl _ _).alloc (Nat.le_refl _) _).alloc (by simp) _).alloc (by simp; omega) _
set_option maxHeartbeats 400000 in
theorem toLake_any (a b c : Int) (w : World) :
    Calls Try.prog 16 #[.agg #[.int .i64 a, .int .i64 b, .int .i64 c]] w fun e w' => e = .returned (.agg #[.int .i64 a, .int .i64 b, .int .i64 c]) ∧ Below w.heap.size w w' := by
  go_enter Try.func16, Try.ntmps16
  go_wp2
  refine bodyPost_ret (v := .agg #[.int .i64 a, .int .i64 b, .int .i64 c]) (by simp [results, Try.results16, go_sem]) rfl ⟨rfl, ?_⟩
  exact (((Below.refl _ _).alloc (Nat.le_refl _) _).alloc (by simp) _).alloc (by simp; omega) _
set_option maxHeartbeats 400000 in
theorem eqBlow_same (a b c : Int) (w : World) :
    Calls Try.prog 59 #[.agg #[.int .i64 a, .int .i64 b, .int .i64 c], .agg #[.int .i64 a, .int .i64 b, .int .i64 c]] w fun e w' => e = .returned (.bool true) ∧ Below w.heap.size w w' := by
  go_enter Try.func59, Try.ntmps59
  go_wp2
  all_goals go_ret
  all_goals refine ⟨?_, ((Below.refl _ _).alloc (Nat.le_refl _) _).alloc (by simp) _⟩
  rfl
set_option maxHeartbeats 400000 in
theorem eqLake_same (a b c : Int) (w : World) :
    Calls Try.prog 18 #[.agg #[.int .i64 a, .int .i64 b, .int .i64 c], .agg #[.int .i64 a, .int .i64 b, .int .i64 c]] w fun e w' => e = .returned (.bool true) ∧ Below w.heap.size w w' := by
  go_enter Try.func18, Try.ntmps18
  go_wp2
  all_goals go_ret
  all_goals refine ⟨?_, ((Below.refl _ _).alloc (Nat.le_refl _) _).alloc (by simp) _⟩
  rfl
set_option maxHeartbeats 1000000 in
theorem eqBlowS_same (l : List Blow) (n : Nat) (hn : l.length = n) (A A' : Option Addr) (c c' : Nat) (w : World) (hl : n ≤ 1048576) (hc : Sl encBlow w w.heap.size A l) (hc' : Sl encBlow w w.heap.size A' l) :
    Calls Try.prog 25 #[.slice A n c, .slice A' n c'] w fun e w' => e = .returned (.bool true) ∧ Below w.heap.size w w' := by
  have HC := Lib.hid hc; clear hc
  have HD := Lib.hid hc'; clear hc'
  have HN := Lib.hid hn; clear hn
  go_enter Try.func25, Try.ntmps25
  go_wp2
  go_loopw [5] (fun i wr => ∃ k : Nat, k ≤ n ∧ i = .int .i64 k ∧ Below w.heap.size w wr) (fun i _ => n - (intOf i).toNat)
  case atStart => exact ⟨0, Nat.zero_le _, rfl, Below.refl _ _⟩
  case round =>
    obtain ⟨k, hk, rfl, hbel⟩ := hrel
    have hsz := hbel.size
    by_cases hlt : k < n
    · obtain ⟨b, off, rfl, hb, hcs⟩ := HC.out.blow (by rw [HN.out]; omega)
      obtain ⟨b', off', rfl, hb', hcs'⟩ := HD.out.blow (by rw [HN.out]; omega)
      have hx : l[k]? = some (l[k]'(by rw [HN.out]; exact hlt)) := List.getElem?_eq_getElem _
      generalize l[k]'(by rw [HN.out]; exact hlt) = x at hx
      obtain ⟨c0, c1, c2⟩ := hcs k x hx
      obtain ⟨d0, d1, d2⟩ := hcs' k x hx
      clear hcs hcs' hx
      rw [← hbel.cell hb] at c0 c1 c2
      rw [← hbel.cell hb'] at d0 d1 d2
      have hbw : b < wr.heap.size := by omega
      have hbw' : b' < wr.heap.size := by omega
      have k1 : (k : Int) < n := by omega
      have k2 : (0 : Int) ≤ k := by omega
      go_wp2
      refine wp_region_gw (by kernel_rfl) (by kernel_rfl) ?_
      repeat (first | go_big_quiet_step ((go_at_call 59; exact quiet_gw (eqBlow_same _ _ _ _))) | quiet_step ((go_at_call 59; exact quiet_gw (eqBlow_same _ _ _ _))))
      refine wpQuiet_nil ?_
      rintro _ ⟨pq, rfl⟩
      go_wp2
      go_roundw
      case rel => exact ⟨k + 1, by omega, by go_num, hbel.trans (gw_below _ _ hsz)⟩
      case measure => simp [intOf]; omega
    · go_wp2
      go_ret
      exact ⟨rfl, hbel⟩
end Go.Proofs.Ytopdbacgceoddaa
