/- Walks of casks of bittern: whether a list are casks. -/
import Derived.Test.YtcajgadgdjopdaaBittern
namespace Go.Proofs.Ytcajgadgdjopdaa
open Go.RowKit
set_option maxHeartbeats 400000 in
theorem within_any (n a b : Int) (w : World) :
    Calls Try.prog 41 #[.int .i64 n, .int .i64 a, .int .i64 b] w fun e w' => e = .returned (.bool (inB n a b)) ∧ w = w' := by
  go_enter Try.func41, Try.ntmps41
  go_wp2
  all_goals go_ret
  all_goals refine ⟨?_, rfl⟩
  all_goals simp [inB, *]
  all_goals omega
theorem within_q {n a b : Int} {v : Bool} (h : inB n a b = v) (w : World) :
    Calls Try.prog 41 #[.int .i64 n, .int .i64 a, .int .i64 b] w fun e w' => e = .returned (.bool v) ∧ w = w' := h ▸ within_any n a b w
set_option maxHeartbeats 400000 in
theorem l1In_any (n a b : Int) (w : World) :
    Calls Try.prog 53 #[.int .i64 n, .int .i64 a, .int .i64 b] w fun e w' => e = .returned (.bool (inB n a b)) ∧ w = w' := by
  go_enter Try.func53, Try.ntmps53
  go_wp2
  all_goals go_ret
  all_goals refine ⟨?_, rfl⟩
  all_goals simp [inB, *]
  all_goals omega
theorem l1In_q {n a b : Int} {v : Bool} (h : inB n a b = v) (w : World) :
    Calls Try.prog 53 #[.int .i64 n, .int .i64 a, .int .i64 b] w fun e w' => e = .returned (.bool v) ∧ w = w' := h ▸ l1In_any n a b w
set_option maxHeartbeats 400000 in
theorem isId_any (n : Int) (w : World) :
    Calls Try.prog 50 #[.int .i64 n] w fun e w' => e = .returned (.bool (inB n 1 99)) ∧ w = w' := by
  go_enter Try.func50, Try.ntmps50
  go_wp2_with (go_at_call 41; refine (within_any _ _ _ _).mono ?_; rintro e w' ⟨rfl, rfl⟩)
  go_ret
  exact ⟨rfl, rfl⟩
theorem isId_q {n : Int} {v : Bool} (h : inB n 1 99 = v) (w : World) :
    Calls Try.prog 50 #[.int .i64 n] w fun e w' => e = .returned (.bool v) ∧ w = w' := h ▸ isId_any n w
set_option maxHeartbeats 400000 in
theorem isBitter_any (n : Int) (w : World) :
    Calls Try.prog 42 #[.int .i64 n] w fun e w' => e = .returned (.bool (inB n 0 1000)) ∧ w = w' := by
  go_enter Try.func42, Try.ntmps42
  go_wp2_with (go_at_call 41; refine (within_any _ _ _ _).mono ?_; rintro e w' ⟨rfl, rfl⟩)
  go_ret
  exact ⟨rfl, rfl⟩
theorem isBitter_q {n : Int} {v : Bool} (h : inB n 0 1000 = v) (w : World) :
    Calls Try.prog 42 #[.int .i64 n] w fun e w' => e = .returned (.bool v) ∧ w = w' := h ▸ isBitter_any n w
def bitternOK (s : Bittern) : Bool := inB s.id 1 99 && (inB s.kilos 0 10000 && inB s.bitter 0 1000)
def badBittern (l : List Bittern) (i : Nat) : Bool := !(bitternOK l[i]! && (decide (i = 0) || decide (l[i-1]!.id < l[i]!.id)))
def areBitterns (l : List Bittern) : Bool := (firstTo (badBittern l) l.length).isNone && decide (l.length ≤ 8)
set_option maxHeartbeats 4000000 in
theorem l15Good_any (l : List Bittern) (n : Nat) (hn : l.length = n) (A : Option Addr) (cap : Nat) (w : World) (hl : n ≤ 1048576) (hc : Sl encBittern w w.heap.size A l) :
    Calls Try.prog 51 #[.slice A n cap] w fun e w' => e = .returned (.bool (areBitterns l)) ∧ Below w.heap.size w w' := by
  have HC := Lib.hid hc; clear hc
  have HN := Lib.hid hn; clear hn
  go_enter Try.func51, Try.ntmps51
  go_wp2
  go_loopw [3] (fun i wr => ∃ k : Nat, k ≤ n ∧ i = .int .i64 k ∧ firstTo (badBittern l) k = none ∧ Below w.heap.size w wr) (fun i _ => n - (intOf i).toNat)
  case atStart => exact ⟨0, Nat.zero_le _, rfl, rfl, Below.refl _ _⟩
  case round =>
    obtain ⟨k, hk, rfl, hall, hbel⟩ := hrel
    have HA := Lib.hid hall; clear hall
    have hsz := hbel.size
    by_cases hlt : k < n
    · obtain ⟨b, off, rfl, hb, hcs⟩ := HC.out.bittern (by rw [HN.out]; omega)
      have hx : l[k]? = some (l[k]'(by rw [HN.out]; exact hlt)) := List.getElem?_eq_getElem _
      have hy : l[k-1]? = some (l[k-1]'(by rw [HN.out]; omega)) := List.getElem?_eq_getElem _
      generalize l[k]'(by rw [HN.out]; exact hlt) = x at hx
      generalize l[k-1]'(by rw [HN.out]; omega) = y at hy
      obtain ⟨c0, c1, c2⟩ := hcs k x hx
      have d0 := (hcs (k-1) y hy).1
      clear hcs
      have hbad : badBittern l k = !(bitternOK x && (decide (k = 0) || decide (y.id < x.id))) := by simp [badBittern, hx, hy]
      clear hx hy
      generalize y.id = yi at *
      obtain ⟨x1, x2, x3⟩ := x
      dsimp only at c0 c1 c2 d0 hbad
      unfold bitternOK at hbad
      dsimp only at hbad
      rw [← hbel.cell hb] at c0 c1 c2 d0
      have hbw : b < wr.heap.size := by omega
      have hexit : badBittern l k = true → Ending.returned (.bool false) = .returned (.bool (areBitterns l)) := fun h => by
        simp [areBitterns, firstTo_hit HA.out h l.length (by rw [HN.out]; exact hlt)]
      have hnext : badBittern l k = false → firstTo (badBittern l) (k + 1) = none := fun h => firstTo_miss HA.out h
      rw [hbad] at hexit hnext
      have HX := Lib.hid hexit
      have HY := Lib.hid hnext
      clear hexit hnext hbad
      have k1 : 0 < k → (0 : Int) ≤ (k : Int) - 1 := fun h => by omega
      have k2 : 0 < k → (1 : Int) ≤ (k : Int) := fun h => by omega
      have k3 : ((k : Int) - 1).toNat = k - 1 := by omega
      have k4 : (k : Int) - 1 < n := by omega
      have k5' : (k : Int) < n := by omega
      have k6' : (0 : Int) ≤ (k : Int) := by omega
      have K1 := Lib.hid k1
      have K2 := Lib.hid k2
      clear k1 k2
      rcases sp4 (inB x1 1 99) (inB x2 0 10000) (inB x3 0 1000) (decide (0 < k)) with u1 | ⟨u1, u2⟩ | ⟨u1, u2, u3⟩ | ⟨u1, u2, u3, t2⟩ | ⟨u1, u2, u3, t2⟩
      case' inr.inr.inr.inr =>
        have t5 : 0 < k := by simpa using t2
        have k5 := K1.out (by omega)
        have k6 := K2.out (by omega)
        have k7 : IntKind.i64.wrap ((k : Int) - 1) = (k : Int) - 1 := IntWalk.i64_in _ (by omega)
      all_goals
        go_wp2
        refine wp_region_gw (by kernel_rfl) (by kernel_rfl) ?_
        repeat (first | go_big_quiet_step ((go_at_call 53; exact quiet_gw_same (l1In_q (by assumption) _))) | quiet_step ((go_at_call 53; exact quiet_gw_same (l1In_q (by assumption) _))))
        refine wpQuiet_nil ?_
        rintro _ ⟨pq, rfl⟩
        go_wp2
      all_goals first
        | (go_ret
           exact ⟨HX.out (by simp [*] <;> first | omega | (simp at t2; omega)), (by repeat (first | assumption | exact Below.refl _ _ | apply bl_gw | apply bl_alloc | apply bl_drewN | apply bl_drew))⟩)
        | (go_roundw
           case rel => exact ⟨k + 1, by omega, by go_num, HY.out (by simp [*] <;> first | omega | (simp at t2; omega)), (by repeat (first | assumption | exact Below.refl _ _ | apply bl_gw | apply bl_alloc | apply bl_drewN | apply bl_drew))⟩
           case measure => simp [intOf]; omega)
    · go_wp2
      go_ret
      refine ⟨ret_bool ?_, hbel⟩
      obtain rfl : k = n := by omega
      simp [areBitterns, HN.out, HA.out]
      omega
set_option maxHeartbeats 4000000 in
theorem impl_AreBitterns_any (l : List Bittern) (n : Nat) (hn : l.length = n) (A : Option Addr) (cap : Nat) (w : World) (hl : n ≤ 1048576) (hc : Sl encBittern w w.heap.size A l) :
    Calls Try.prog 13 #[.slice A n cap] w fun e w' => e = .returned (.bool (areBitterns l)) ∧ Below w.heap.size w w' := by
  have HC := Lib.hid hc; clear hc
  have HN := Lib.hid hn; clear hn
  go_enter Try.func13, Try.ntmps13
  go_wp2
  go_loopw [7] (fun i wr => ∃ k : Nat, k ≤ n ∧ i = .int .i64 k ∧ firstTo (badBittern l) k = none ∧ Below w.heap.size w wr) (fun i _ => n - (intOf i).toNat)
  case atStart => exact ⟨0, Nat.zero_le _, rfl, rfl, Below.refl _ _⟩
  case round =>
    obtain ⟨k, hk, rfl, hall, hbel⟩ := hrel
    have HA := Lib.hid hall; clear hall
    have hsz := hbel.size
    by_cases hlt : k < n
    · obtain ⟨b, off, rfl, hb, hcs⟩ := HC.out.bittern (by rw [HN.out]; omega)
      have hx : l[k]? = some (l[k]'(by rw [HN.out]; exact hlt)) := List.getElem?_eq_getElem _
      have hy : l[k-1]? = some (l[k-1]'(by rw [HN.out]; omega)) := List.getElem?_eq_getElem _
      generalize l[k]'(by rw [HN.out]; exact hlt) = x at hx
      generalize l[k-1]'(by rw [HN.out]; omega) = y at hy
      obtain ⟨c0, c1, c2⟩ := hcs k x hx
      have d0 := (hcs (k-1) y hy).1
      clear hcs
      have hbad : badBittern l k = !(bitternOK x && (decide (k = 0) || decide (y.id < x.id))) := by simp [badBittern, hx, hy]
      clear hx hy
      generalize y.id = yi at *
      obtain ⟨x1, x2, x3⟩ := x
      dsimp only at c0 c1 c2 d0 hbad
      unfold bitternOK at hbad
      dsimp only at hbad
      rw [← hbel.cell hb] at c0 c1 c2 d0
      have hbw : b < wr.heap.size := by omega
      have hexit : badBittern l k = true → Ending.returned (.bool false) = .returned (.bool (areBitterns l)) := fun h => by
        simp [areBitterns, firstTo_hit HA.out h l.length (by rw [HN.out]; exact hlt)]
      have hnext : badBittern l k = false → firstTo (badBittern l) (k + 1) = none := fun h => firstTo_miss HA.out h
      rw [hbad] at hexit hnext
      have HX := Lib.hid hexit
      have HY := Lib.hid hnext
      clear hexit hnext hbad
      have k1 : 0 < k → (0 : Int) ≤ (k : Int) - 1 := fun h => by omega
      have k2 : 0 < k → (1 : Int) ≤ (k : Int) := fun h => by omega
      have k3 : ((k : Int) - 1).toNat = k - 1 := by omega
      have k4 : (k : Int) - 1 < n := by omega
      have k5' : (k : Int) < n := by omega
      have k6' : (0 : Int) ≤ (k : Int) := by omega
      have K1 := Lib.hid k1
      have K2 := Lib.hid k2
      clear k1 k2
      rcases sp4 (inB x1 1 99) (inB x2 0 10000) (inB x3 0 1000) (decide (0 < k)) with u1 | ⟨u1, u2⟩ | ⟨u1, u2, u3⟩ | ⟨u1, u2, u3, t2⟩ | ⟨u1, u2, u3, t2⟩
      case' inr.inr.inr.inr =>
        have t5 : 0 < k := by simpa using t2
        have k5 := K1.out (by omega)
        have k6 := K2.out (by omega)
        have k7 : IntKind.i64.wrap ((k : Int) - 1) = (k : Int) - 1 := IntWalk.i64_in _ (by omega)
      all_goals
        go_wp2
        refine wp_region_gw (by kernel_rfl) (by kernel_rfl) ?_
        repeat (first | go_big_quiet_step ((first | (go_at_call 50; exact quiet_gw_same (isId_q (by assumption) _)) | (go_at_call 42; exact quiet_gw_same (isBitter_q (by assumption) _)) | (go_at_call 41; exact quiet_gw_same (within_q (by assumption) _)))) | quiet_step ((first | (go_at_call 50; exact quiet_gw_same (isId_q (by assumption) _)) | (go_at_call 42; exact quiet_gw_same (isBitter_q (by assumption) _)) | (go_at_call 41; exact quiet_gw_same (within_q (by assumption) _)))))
        refine wpQuiet_nil ?_
        rintro _ ⟨pq, rfl⟩
        go_wp2
      all_goals first
        | (go_ret
           exact ⟨HX.out (by simp [*] <;> first | omega | (simp at t2; omega)), (by repeat (first | assumption | exact Below.refl _ _ | apply bl_gw | apply bl_alloc | apply bl_drewN | apply bl_drew))⟩)
        | (go_roundw
           case rel => exact ⟨k + 1, by omega, by go_num, HY.out (by simp [*] <;> first | omega | (simp at t2; omega)), (by repeat (first | assumption | exact Below.refl _ _ | apply bl_gw | apply bl_alloc | apply bl_drewN | apply bl_drew))⟩
           case measure => simp [intOf]; omega)
    · go_wp2
      go_ret
      refine ⟨ret_bool ?_, hbel⟩
      obtain rfl : k = n := by omega
      simp [areBitterns, HN.out, HA.out]
      omega
theorem areBitterns_len {l : List Bittern} (h : areBitterns l = true) : l.length ≤ 8 := by
  simp only [areBitterns, Bool.and_eq_true, decide_eq_true_eq] at h; exact h.2
theorem areBitterns_ok {l : List Bittern} (h : areBitterns l = true) {k : Nat} {x : Bittern} (hx : l[k]? = some x) : bitternOK x = true := by
  have hk := (List.getElem?_eq_some_iff.1 hx).1
  simp only [areBitterns, Bool.and_eq_true, Option.isNone_iff_eq_none] at h
  have := firstTo_none h.1 k hk
  simp only [badBittern, Bool.not_eq_false', Bool.and_eq_true] at this
  rw [List.getElem!_of_getElem? hx] at this
  exact this.1
theorem bitternOK_at {x : Bittern} (h : bitternOK x = true) : (1 ≤ x.id ∧ x.id ≤ 99) ∧ (0 ≤ x.kilos ∧ x.kilos ≤ 10000) ∧ (0 ≤ x.bitter ∧ x.bitter ≤ 1000) := by
  simpa [bitternOK, inB] using h
theorem bitternId_inc {l : List Bittern} (h : areBitterns l = true) {i : Nat} : ∀ {j : Nat}, i < j → j < l.length → l[i]!.id < l[j]!.id
  | 0, hi, _ => by omega
  | j + 1, hi, hj => by
    have h0 := h
    simp only [areBitterns, Bool.and_eq_true, Option.isNone_iff_eq_none] at h
    have h1 := firstTo_none h.1 (j + 1) hj
    simp only [badBittern, Bool.not_eq_false', Bool.and_eq_true, Bool.or_eq_true, decide_eq_true_eq, Nat.add_sub_cancel] at h1
    have h2 : l[j]!.id < l[j + 1]!.id := by rcases h1.2 with h | h <;> omega
    by_cases e : i = j
    · subst e; exact h2
    · have := bitternId_inc h0 (i := i) (j := j) (by omega) (by omega)
      omega
end Go.Proofs.Ytcajgadgdjopdaa
