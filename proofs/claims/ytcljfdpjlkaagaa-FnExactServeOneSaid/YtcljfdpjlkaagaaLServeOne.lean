/- The law FnExactServeOne: the program's answer is the reference's, shares no memory and leaves its arguments alone. No condition. -/
import Derived.Test.YtcljfdpjlkaagaaServeS
import Derived.Test.YtcljfdpjlkaagaaIntM
import Derived.Test.YtcljfdpjlkaagaaFrameI
import Derived.Test.YtcljfdpjlkaagaaTurn
namespace Go.Proofs.Ytcljfdpjlkaagaa
open Go.ChangeShapes Go.WideShapes Go.ChangeAt Go.RowKit
set_option maxRecDepth 4000 in
set_option maxHeartbeats 8000000 in
theorem FnExactServeOne_walk (l0 : List Int) (n0 : Nat) (hn0 : l0.length = n0) (A0 : Option Addr) (cap0 : Nat) (id g t pr fr un fi : Int) (w : World) (hm0 : n0 ≤ 9223372036854775807) (hc0 : Sl encInt w w.heap.size A0 l0) :
    Calls Try.prog 5 #[.slice A0 n0 cap0, .agg #[.int .i64 id, .int .i64 g, .int .i64 t, .int .i64 pr, .int .i64 fr, .int .i64 un, .int .i64 fi]] w fun e w' => e = .returned (.bool true) ∧ Below w.heap.size w w' := by
  have C0_0 := Lib.hid hc0; clear hc0
  have HN0 := Lib.hid hn0; clear hn0
  by_cases hq0 : n0 ≤ 1048576
  rotate_left
  · have hl' : 1048576 < n0 := by omega
    go_enter Try.func5, Try.ntmps5
    go_wp2
    go_ret
    exact ⟨rfl, (by repeat (first | assumption | exact Below.refl _ _ | apply bl_gw | apply bl_alloc | apply bl_drewN | apply bl_drew))⟩
  go_enter Try.func5, Try.ntmps5
  have BB_0 := Lib.hid (Below.refl w.heap.size w)
  obtain ⟨q0, hP0⟩ : ∃ q, (oneS l0 ⟨id, g, t, pr, fr, un, fi⟩).length = q := ⟨_, rfl⟩
  have hQ0 : q0 ≤ 1000000 := by rw [← hP0]; exact oneS_length _ _
  have HP0 := Lib.hid hP0; clear hP0
  have HCr0 := Lib.hid (show Sl encInt (w.alloc (.cells #[.int .i64 id, .int .i64 g, .int .i64 t, .int .i64 pr, .int .i64 fr, .int .i64 un, .int .i64 fi] 23)).drew (w.alloc (.cells #[.int .i64 id, .int .i64 g, .int .i64 t, .int .i64 pr, .int .i64 fr, .int .i64 un, .int .i64 fi] 23)).drew.heap.size A0 l0 from C0_0.out.past (bl_drew (bl_alloc (Below.refl _ _) _)))
  have M0 : (w.alloc (.cells #[.int .i64 id, .int .i64 g, .int .i64 t, .int .i64 pr, .int .i64 fr, .int .i64 un, .int .i64 fi] 23)).drew.cell? ⟨w.heap.size, 0, none⟩ = some (.int .i64 id) := by simp [go_sem]
  have M1 : (w.alloc (.cells #[.int .i64 id, .int .i64 g, .int .i64 t, .int .i64 pr, .int .i64 fr, .int .i64 un, .int .i64 fi] 23)).drew.cell? ⟨w.heap.size, 1, none⟩ = some (.int .i64 g) := by simp [go_sem]
  have M2 : (w.alloc (.cells #[.int .i64 id, .int .i64 g, .int .i64 t, .int .i64 pr, .int .i64 fr, .int .i64 un, .int .i64 fi] 23)).drew.cell? ⟨w.heap.size, 2, none⟩ = some (.int .i64 t) := by simp [go_sem]
  have M3 : (w.alloc (.cells #[.int .i64 id, .int .i64 g, .int .i64 t, .int .i64 pr, .int .i64 fr, .int .i64 un, .int .i64 fi] 23)).drew.cell? ⟨w.heap.size, 3, none⟩ = some (.int .i64 pr) := by simp [go_sem]
  have M4 : (w.alloc (.cells #[.int .i64 id, .int .i64 g, .int .i64 t, .int .i64 pr, .int .i64 fr, .int .i64 un, .int .i64 fi] 23)).drew.cell? ⟨w.heap.size, 4, none⟩ = some (.int .i64 fr) := by simp [go_sem]
  have M5 : (w.alloc (.cells #[.int .i64 id, .int .i64 g, .int .i64 t, .int .i64 pr, .int .i64 fr, .int .i64 un, .int .i64 fi] 23)).drew.cell? ⟨w.heap.size, 5, none⟩ = some (.int .i64 un) := by simp [go_sem]
  have M6 : (w.alloc (.cells #[.int .i64 id, .int .i64 g, .int .i64 t, .int .i64 pr, .int .i64 fr, .int .i64 un, .int .i64 fi] 23)).drew.cell? ⟨w.heap.size, 6, none⟩ = some (.int .i64 fi) := by simp [go_sem]
  have z0 : w.heap.size < (w.alloc (.cells #[.int .i64 id, .int .i64 g, .int .i64 t, .int .i64 pr, .int .i64 fr, .int .i64 un, .int .i64 fi] 23)).drew.heap.size := by simp
  go_wp2
  go_region_held3 (fun w' => w'.cell? ⟨w.heap.size, 0, none⟩ = some (.int .i64 id) ∧ w'.cell? ⟨w.heap.size, 1, none⟩ = some (.int .i64 g) ∧ w'.cell? ⟨w.heap.size, 2, none⟩ = some (.int .i64 t) ∧ w'.cell? ⟨w.heap.size, 3, none⟩ = some (.int .i64 pr) ∧ w'.cell? ⟨w.heap.size, 4, none⟩ = some (.int .i64 fr) ∧ w'.cell? ⟨w.heap.size, 5, none⟩ = some (.int .i64 un) ∧ w'.cell? ⟨w.heap.size, 6, none⟩ = some (.int .i64 fi)) (go_keep)
    (first | (go_at_call 23; refine (toIntS_sl l0 n0 HN0.out _ _ _ hq0 HCr0.out).mono ?_; rintro e u1 ⟨aA, ac, rfl, s1, o1, b1⟩; have pcap := o1.cap; have S1 := Lib.hid s1; have Bu1 := Lib.hid b1; clear s1 o1; have z1 := below_lt z0 b1; have N0 : u1.cell? ⟨w.heap.size, 0, none⟩ = some (.int .i64 id) := (b1.cell (p := ⟨w.heap.size, 0, none⟩) z0).trans M0; have N1 : u1.cell? ⟨w.heap.size, 1, none⟩ = some (.int .i64 g) := (b1.cell (p := ⟨w.heap.size, 1, none⟩) z0).trans M1; have N2 : u1.cell? ⟨w.heap.size, 2, none⟩ = some (.int .i64 t) := (b1.cell (p := ⟨w.heap.size, 2, none⟩) z0).trans M2; have N3 : u1.cell? ⟨w.heap.size, 3, none⟩ = some (.int .i64 pr) := (b1.cell (p := ⟨w.heap.size, 3, none⟩) z0).trans M3; have N4 : u1.cell? ⟨w.heap.size, 4, none⟩ = some (.int .i64 fr) := (b1.cell (p := ⟨w.heap.size, 4, none⟩) z0).trans M4; have N5 : u1.cell? ⟨w.heap.size, 5, none⟩ = some (.int .i64 un) := (b1.cell (p := ⟨w.heap.size, 5, none⟩) z0).trans M5; have N6 : u1.cell? ⟨w.heap.size, 6, none⟩ = some (.int .i64 fi) := (b1.cell (p := ⟨w.heap.size, 6, none⟩) z0).trans M6; clear b1) | (go_at_call 15; refine (toContract_any id g t pr fr un fi _).mono ?_; rintro e u2 ⟨rfl, b2⟩; have S2 := Lib.hid (S1.out.past b2); have Bu2 := Lib.hid b2; have z2 := below_lt z1 b2; have Q0 : u2.cell? ⟨w.heap.size, 0, none⟩ = some (.int .i64 id) := (b2.cell (p := ⟨w.heap.size, 0, none⟩) z1).trans N0; have Q1 : u2.cell? ⟨w.heap.size, 1, none⟩ = some (.int .i64 g) := (b2.cell (p := ⟨w.heap.size, 1, none⟩) z1).trans N1; have Q2 : u2.cell? ⟨w.heap.size, 2, none⟩ = some (.int .i64 t) := (b2.cell (p := ⟨w.heap.size, 2, none⟩) z1).trans N2; have Q3 : u2.cell? ⟨w.heap.size, 3, none⟩ = some (.int .i64 pr) := (b2.cell (p := ⟨w.heap.size, 3, none⟩) z1).trans N3; have Q4 : u2.cell? ⟨w.heap.size, 4, none⟩ = some (.int .i64 fr) := (b2.cell (p := ⟨w.heap.size, 4, none⟩) z1).trans N4; have Q5 : u2.cell? ⟨w.heap.size, 5, none⟩ = some (.int .i64 un) := (b2.cell (p := ⟨w.heap.size, 5, none⟩) z1).trans N5; have Q6 : u2.cell? ⟨w.heap.size, 6, none⟩ = some (.int .i64 fi) := (b2.cell (p := ⟨w.heap.size, 6, none⟩) z1).trans N6; clear b2) | (go_at_call 22; refine (spec_ServeOne_any l0 n0 HN0.out _ _ id g t pr fr un fi _ hq0 (S2.out)).mono ?_; rintro e w1 ⟨v0, rfl, o0, b3⟩; have OO0 := Lib.hid o0; clear o0; have Bu3 := Lib.hid b3; have z3 := below_lt z2 b3; have R0 : w1.cell? ⟨w.heap.size, 0, none⟩ = some (.int .i64 id) := (b3.cell (p := ⟨w.heap.size, 0, none⟩) z2).trans Q0; have R1 : w1.cell? ⟨w.heap.size, 1, none⟩ = some (.int .i64 g) := (b3.cell (p := ⟨w.heap.size, 1, none⟩) z2).trans Q1; have R2 : w1.cell? ⟨w.heap.size, 2, none⟩ = some (.int .i64 t) := (b3.cell (p := ⟨w.heap.size, 2, none⟩) z2).trans Q2; have R3 : w1.cell? ⟨w.heap.size, 3, none⟩ = some (.int .i64 pr) := (b3.cell (p := ⟨w.heap.size, 3, none⟩) z2).trans Q3; have R4 : w1.cell? ⟨w.heap.size, 4, none⟩ = some (.int .i64 fr) := (b3.cell (p := ⟨w.heap.size, 4, none⟩) z2).trans Q4; have R5 : w1.cell? ⟨w.heap.size, 5, none⟩ = some (.int .i64 un) := (b3.cell (p := ⟨w.heap.size, 5, none⟩) z2).trans Q5; have R6 : w1.cell? ⟨w.heap.size, 6, none⟩ = some (.int .i64 fi) := (b3.cell (p := ⟨w.heap.size, 6, none⟩) z2).trans Q6; clear b3))
  have b := below_step (below_step (below_step (bl_drew (bl_alloc (Below.refl w.heap.size w) _)) Bu1.out) Bu2.out) Bu3.out
  have BX_1 := Lib.hid (below_step (below_step (below_step (bl_drew (Below.refl (w.alloc (.cells #[.int .i64 id, .int .i64 g, .int .i64 t, .int .i64 pr, .int .i64 fr, .int .i64 un, .int .i64 fi] 23)).heap.size (w.alloc (.cells #[.int .i64 id, .int .i64 g, .int .i64 t, .int .i64 pr, .int .i64 fr, .int .i64 un, .int .i64 fi] 23)))) Bu1.out) Bu2.out) Bu3.out)
  have o0 := OO0.out
  clear M0 M1 M2 M3 M4 M5 M6 N0 N1 N2 N3 N4 N5 N6 Q0 Q1 Q2 Q3 Q4 Q5 Q6 R0 R1 R2 R3 R4 R5 R6
  clear S1 S2 Bu1 Bu2 Bu3 OO0 HCr0
  obtain ⟨wA0, wc0, rfl, _, _, _⟩ := o0.slice
  rw [HP0.out] at o0 ⊢
  have BW_1 := Lib.hid (Below.refl w1.heap.size w1)
  have C0_1 := Lib.hid (C0_0.out.below (b.mono BB_0.out.size)); clear C0_0
  have BB_1 := Lib.hid (below_step BB_0.out b)
  have ws0_1 := Lib.hid o0.rd
  clear b o0
  go_wp2_with fail
  refine (toIntS_sl l0 n0 HN0.out _ _ _ hq0 (C0_1.out.more BB_1.out.size)).mono ?_
  have bx0 := BB_1.out.size
  have by0 := BW_1.out.size
  have bz0 := BX_1.out.size
  rintro e w2 ⟨x0A, x0c, rfl, s, o, b⟩
  have x0p := o.cap
  have x0lo := Lib.hid o.lo
  have C0_2 := Lib.hid (C0_1.out.below (b.mono BB_1.out.size)); clear C0_1
  have ws0_2 := Lib.hid (ws0_1.out.below (b.mono BW_1.out.size)); clear ws0_1
  have BB_2 := Lib.hid (below_step BB_1.out b)
  have BX_2 := Lib.hid (below_step BX_1.out b)
  have BW_2 := Lib.hid (below_step BW_1.out b)
  have x0h_2 := Lib.hid o.hi
  have x0o_2 := Lib.hid o
  clear s o b
  have L0 : w2.cell? ⟨w.heap.size, 0, none⟩ = some (.int .i64 id) := by rw [BX_2.out.cell (p := ⟨w.heap.size, 0, none⟩) (by simp)]; simp [go_sem]
  have L1 : w2.cell? ⟨w.heap.size, 1, none⟩ = some (.int .i64 g) := by rw [BX_2.out.cell (p := ⟨w.heap.size, 1, none⟩) (by simp)]; simp [go_sem]
  have L2 : w2.cell? ⟨w.heap.size, 2, none⟩ = some (.int .i64 t) := by rw [BX_2.out.cell (p := ⟨w.heap.size, 2, none⟩) (by simp)]; simp [go_sem]
  have L3 : w2.cell? ⟨w.heap.size, 3, none⟩ = some (.int .i64 pr) := by rw [BX_2.out.cell (p := ⟨w.heap.size, 3, none⟩) (by simp)]; simp [go_sem]
  have L4 : w2.cell? ⟨w.heap.size, 4, none⟩ = some (.int .i64 fr) := by rw [BX_2.out.cell (p := ⟨w.heap.size, 4, none⟩) (by simp)]; simp [go_sem]
  have L5 : w2.cell? ⟨w.heap.size, 5, none⟩ = some (.int .i64 un) := by rw [BX_2.out.cell (p := ⟨w.heap.size, 5, none⟩) (by simp)]; simp [go_sem]
  have L6 : w2.cell? ⟨w.heap.size, 6, none⟩ = some (.int .i64 fi) := by rw [BX_2.out.cell (p := ⟨w.heap.size, 6, none⟩) (by simp)]; simp [go_sem]
  go_wp2_with fail
  refine (toContract_any id g t pr fr un fi _).mono ?_
  rintro e w3 ⟨rfl, b⟩
  clear L0 L1 L2 L3 L4 L5 L6
  have C0_3 := Lib.hid (C0_2.out.below (b.mono BB_2.out.size)); clear C0_2
  have ws0_3 := Lib.hid (ws0_2.out.below (b.mono BW_2.out.size)); clear ws0_2
  have x0o_3 := Lib.hid (x0o_2.out.past b (Nat.le_refl _)); clear x0o_2
  have x0h_3 := Lib.hid (x0h_2.out.mono b.size); clear x0h_2
  have BB_3 := Lib.hid (below_step BB_2.out b)
  have BX_3 := Lib.hid (below_step BX_2.out b)
  have BW_3 := Lib.hid (below_step BW_2.out b)
  clear b
  have bgx := BB_3.out.size
  have bgy := BW_3.out.size
  have bgz := BX_3.out.size
  go_wp2_with fail
  refine (impl_ServeOne_any l0 n0 HN0.out _ _ id g t pr fr un fi _ hq0 (x0o_3.out.rd)).mono ?_
  rintro e w4 ⟨v0, rfl, o0, b⟩
  obtain ⟨gA0, gc0, rfl, _, _, _⟩ := o0.slice
  rw [HP0.out] at o0 ⊢
  have x0h_at := x0h_3
  have C0_4 := Lib.hid (C0_3.out.below (b.mono BB_3.out.size)); clear C0_3
  have ws0_4 := Lib.hid (ws0_3.out.below (b.mono BW_3.out.size)); clear ws0_3
  have x0o_4 := Lib.hid (x0o_3.out.past b (Nat.le_refl _)); clear x0o_3
  have x0h_4 := Lib.hid (x0h_3.out.mono b.size); clear x0h_3
  have BB_4 := Lib.hid (below_step BB_3.out b)
  have BX_4 := Lib.hid (below_step BX_3.out b)
  have BW_4 := Lib.hid (below_step BW_3.out b)
  have go0_4 := Lib.hid o0
  have glo0 := Lib.hid o0.lo
  have gh0_4 := Lib.hid o0.hi
  clear b o0
  go_wp2_with fail
  refine (eqIntS_same (oneS l0 ⟨id, g, t, pr, fr, un, fi⟩) q0 HP0.out _ _ _ _ _ (by omega) (go0_4.out.rd) (ws0_4.out.more BW_4.out.size)).mono ?_
  rintro e w5 ⟨rfl, b⟩
  have C0_5 := Lib.hid (C0_4.out.below (b.mono BB_4.out.size)); clear C0_4
  have ws0_5 := Lib.hid (ws0_4.out.below (b.mono BW_4.out.size)); clear ws0_4
  have x0o_5 := Lib.hid (x0o_4.out.past b (Nat.le_refl _)); clear x0o_4
  have go0_5 := Lib.hid (go0_4.out.past b (Nat.le_refl _)); clear go0_4
  have BB_5 := Lib.hid (below_step BB_4.out b)
  have BX_5 := Lib.hid (below_step BX_4.out b)
  have BW_5 := Lib.hid (below_step BW_4.out b)
  clear b
  go_wp2_with fail
  refine (toIntS_sl l0 n0 HN0.out _ _ _ hq0 (C0_5.out.more BB_5.out.size)).mono ?_
  rintro e w6 ⟨yA, yc, rfl, s, o, b⟩
  have C0_6 := Lib.hid (C0_5.out.below (b.mono BB_5.out.size)); clear C0_5
  have ws0_6 := Lib.hid (ws0_5.out.below (b.mono BW_5.out.size)); clear ws0_5
  have x0o_6 := Lib.hid (x0o_5.out.past b (Nat.le_refl _)); clear x0o_5
  have go0_6 := Lib.hid (go0_5.out.past b (Nat.le_refl _)); clear go0_5
  have BB_6 := Lib.hid (below_step BB_5.out b)
  have BX_6 := Lib.hid (below_step BX_5.out b)
  have BW_6 := Lib.hid (below_step BW_5.out b)
  have y_ := Lib.hid s
  clear s o b
  go_wp2_with fail
  refine (eqIntS_same l0 n0 HN0.out _ _ _ _ _ (by omega) (x0o_6.out.rd) (y_.out)).mono ?_
  rintro e w7 ⟨rfl, b⟩
  have C0_7 := Lib.hid (C0_6.out.below (b.mono BB_6.out.size)); clear C0_6
  have ws0_7 := Lib.hid (ws0_6.out.below (b.mono BW_6.out.size)); clear ws0_6
  have x0o_7 := Lib.hid (x0o_6.out.past b (Nat.le_refl _)); clear x0o_6
  have go0_7 := Lib.hid (go0_6.out.past b (Nat.le_refl _)); clear go0_6
  have BB_7 := Lib.hid (below_step BB_6.out b)
  have BX_7 := Lib.hid (below_step BX_6.out b)
  have BW_7 := Lib.hid (below_step BW_6.out b)
  clear b
  clear y_
  go_wp2_with fail
  refine (markIntS_own n0 _ _ _ _ _ _ (by omega) (by omega) (by omega) x0o_7.out).mono ?_
  rintro e w8 ⟨rfl, t, om⟩
  have lo1 := x0lo.out.mono bx0
  have lo2 := x0lo.out.mono by0
  have C0_8 := Lib.hid (C0_7.out.turn t lo1); clear C0_7
  have ws0_8 := Lib.hid (ws0_7.out.turn t lo2); clear ws0_7
  have go0_8 := Lib.hid (go0_7.out.turn t x0h_at.out); clear go0_7
  have BB_8 := Lib.hid (BB_7.out.trans (t.below lo1))
  have BX_8 := Lib.hid (BX_7.out.trans (t.below (x0lo.out.mono bz0)))
  have BW_8 := Lib.hid (BW_7.out.trans (t.below lo2))
  clear t om x0o_7
  go_wp2_with fail
  refine (eqIntS_same (oneS l0 ⟨id, g, t, pr, fr, un, fi⟩) q0 HP0.out _ _ _ _ _ (by omega) (go0_8.out.rd) (ws0_8.out.more BW_8.out.size)).mono ?_
  rintro e w9 ⟨rfl, b⟩
  have C0_9 := Lib.hid (C0_8.out.below (b.mono BB_8.out.size)); clear C0_8
  have ws0_9 := Lib.hid (ws0_8.out.below (b.mono BW_8.out.size)); clear ws0_8
  have go0_9 := Lib.hid (go0_8.out.past b (Nat.le_refl _)); clear go0_8
  have BB_9 := Lib.hid (below_step BB_8.out b)
  have BX_9 := Lib.hid (below_step BX_8.out b)
  have BW_9 := Lib.hid (below_step BW_8.out b)
  clear b
  go_wp2_with fail
  refine (markIntS_own q0 _ _ _ _ _ _ (by omega) (by omega) (by omega) go0_9.out).mono ?_
  rintro e w10 ⟨rfl, t, om⟩
  have lo1 := glo0.out.mono bgx
  have lo2 := glo0.out.mono bgy
  have C0_10 := Lib.hid (C0_9.out.turn t lo1); clear C0_9
  have ws0_10 := Lib.hid (ws0_9.out.turn t lo2); clear ws0_9
  have BB_10 := Lib.hid (BB_9.out.trans (t.below lo1))
  have BX_10 := Lib.hid (BX_9.out.trans (t.below (glo0.out.mono bgz)))
  have BW_10 := Lib.hid (BW_9.out.trans (t.below lo2))
  have go0_10 := Lib.hid om
  clear t om go0_9
  go_wp2_with fail
  refine (heldIntS_sl q0 _ _ _ _ (by omega) (by omega) (by omega) go0_10.out.rd).mono ?_
  rintro e w11 ⟨rfl, b⟩
  have C0_11 := Lib.hid (C0_10.out.below (b.mono BB_10.out.size)); clear C0_10
  have ws0_11 := Lib.hid (ws0_10.out.below (b.mono BW_10.out.size)); clear ws0_10
  have go0_11 := Lib.hid (go0_10.out.past b (Nat.le_refl _)); clear go0_10
  have BB_11 := Lib.hid (below_step BB_10.out b)
  have BX_11 := Lib.hid (below_step BX_10.out b)
  have BW_11 := Lib.hid (below_step BW_10.out b)
  clear b
  have HCr0 := Lib.hid (show Sl encInt w11.drew w11.drew.heap.size A0 l0 from (C0_11.out.more BB_11.out.size).past (bl_drew (Below.refl _ _)))
  have L0 : w11.cell? ⟨w.heap.size, 0, none⟩ = some (.int .i64 id) := by rw [BX_11.out.cell (p := ⟨w.heap.size, 0, none⟩) (by simp)]; simp [go_sem]
  have L1 : w11.cell? ⟨w.heap.size, 1, none⟩ = some (.int .i64 g) := by rw [BX_11.out.cell (p := ⟨w.heap.size, 1, none⟩) (by simp)]; simp [go_sem]
  have L2 : w11.cell? ⟨w.heap.size, 2, none⟩ = some (.int .i64 t) := by rw [BX_11.out.cell (p := ⟨w.heap.size, 2, none⟩) (by simp)]; simp [go_sem]
  have L3 : w11.cell? ⟨w.heap.size, 3, none⟩ = some (.int .i64 pr) := by rw [BX_11.out.cell (p := ⟨w.heap.size, 3, none⟩) (by simp)]; simp [go_sem]
  have L4 : w11.cell? ⟨w.heap.size, 4, none⟩ = some (.int .i64 fr) := by rw [BX_11.out.cell (p := ⟨w.heap.size, 4, none⟩) (by simp)]; simp [go_sem]
  have L5 : w11.cell? ⟨w.heap.size, 5, none⟩ = some (.int .i64 un) := by rw [BX_11.out.cell (p := ⟨w.heap.size, 5, none⟩) (by simp)]; simp [go_sem]
  have L6 : w11.cell? ⟨w.heap.size, 6, none⟩ = some (.int .i64 fi) := by rw [BX_11.out.cell (p := ⟨w.heap.size, 6, none⟩) (by simp)]; simp [go_sem]
  have hwr : w.heap.size < w11.heap.size := by have := BX_11.out.size; simp at this; omega
  have M0 : w11.drew.cell? ⟨w.heap.size, 0, none⟩ = some (.int .i64 id) := L0
  have M1 : w11.drew.cell? ⟨w.heap.size, 1, none⟩ = some (.int .i64 g) := L1
  have M2 : w11.drew.cell? ⟨w.heap.size, 2, none⟩ = some (.int .i64 t) := L2
  have M3 : w11.drew.cell? ⟨w.heap.size, 3, none⟩ = some (.int .i64 pr) := L3
  have M4 : w11.drew.cell? ⟨w.heap.size, 4, none⟩ = some (.int .i64 fr) := L4
  have M5 : w11.drew.cell? ⟨w.heap.size, 5, none⟩ = some (.int .i64 un) := L5
  have M6 : w11.drew.cell? ⟨w.heap.size, 6, none⟩ = some (.int .i64 fi) := L6
  have z0 : w.heap.size < w11.drew.heap.size := hwr
  go_wp2
  go_region_held3 (fun w' => w'.cell? ⟨w.heap.size, 0, none⟩ = some (.int .i64 id) ∧ w'.cell? ⟨w.heap.size, 1, none⟩ = some (.int .i64 g) ∧ w'.cell? ⟨w.heap.size, 2, none⟩ = some (.int .i64 t) ∧ w'.cell? ⟨w.heap.size, 3, none⟩ = some (.int .i64 pr) ∧ w'.cell? ⟨w.heap.size, 4, none⟩ = some (.int .i64 fr) ∧ w'.cell? ⟨w.heap.size, 5, none⟩ = some (.int .i64 un) ∧ w'.cell? ⟨w.heap.size, 6, none⟩ = some (.int .i64 fi)) (go_keep)
    (first | (go_at_call 23; refine (toIntS_sl l0 n0 HN0.out _ _ _ hq0 HCr0.out).mono ?_; rintro e u1 ⟨aA, ac, rfl, s1, o1, b1⟩; have pcap := o1.cap; have S1 := Lib.hid s1; have Bu1 := Lib.hid b1; clear s1 o1; have z1 := below_lt z0 b1; have N0 : u1.cell? ⟨w.heap.size, 0, none⟩ = some (.int .i64 id) := (b1.cell (p := ⟨w.heap.size, 0, none⟩) z0).trans M0; have N1 : u1.cell? ⟨w.heap.size, 1, none⟩ = some (.int .i64 g) := (b1.cell (p := ⟨w.heap.size, 1, none⟩) z0).trans M1; have N2 : u1.cell? ⟨w.heap.size, 2, none⟩ = some (.int .i64 t) := (b1.cell (p := ⟨w.heap.size, 2, none⟩) z0).trans M2; have N3 : u1.cell? ⟨w.heap.size, 3, none⟩ = some (.int .i64 pr) := (b1.cell (p := ⟨w.heap.size, 3, none⟩) z0).trans M3; have N4 : u1.cell? ⟨w.heap.size, 4, none⟩ = some (.int .i64 fr) := (b1.cell (p := ⟨w.heap.size, 4, none⟩) z0).trans M4; have N5 : u1.cell? ⟨w.heap.size, 5, none⟩ = some (.int .i64 un) := (b1.cell (p := ⟨w.heap.size, 5, none⟩) z0).trans M5; have N6 : u1.cell? ⟨w.heap.size, 6, none⟩ = some (.int .i64 fi) := (b1.cell (p := ⟨w.heap.size, 6, none⟩) z0).trans M6; clear b1) | (go_at_call 15; refine (toContract_any id g t pr fr un fi _).mono ?_; rintro e u2 ⟨rfl, b2⟩; have S2 := Lib.hid (S1.out.past b2); have Bu2 := Lib.hid b2; have z2 := below_lt z1 b2; have Q0 : u2.cell? ⟨w.heap.size, 0, none⟩ = some (.int .i64 id) := (b2.cell (p := ⟨w.heap.size, 0, none⟩) z1).trans N0; have Q1 : u2.cell? ⟨w.heap.size, 1, none⟩ = some (.int .i64 g) := (b2.cell (p := ⟨w.heap.size, 1, none⟩) z1).trans N1; have Q2 : u2.cell? ⟨w.heap.size, 2, none⟩ = some (.int .i64 t) := (b2.cell (p := ⟨w.heap.size, 2, none⟩) z1).trans N2; have Q3 : u2.cell? ⟨w.heap.size, 3, none⟩ = some (.int .i64 pr) := (b2.cell (p := ⟨w.heap.size, 3, none⟩) z1).trans N3; have Q4 : u2.cell? ⟨w.heap.size, 4, none⟩ = some (.int .i64 fr) := (b2.cell (p := ⟨w.heap.size, 4, none⟩) z1).trans N4; have Q5 : u2.cell? ⟨w.heap.size, 5, none⟩ = some (.int .i64 un) := (b2.cell (p := ⟨w.heap.size, 5, none⟩) z1).trans N5; have Q6 : u2.cell? ⟨w.heap.size, 6, none⟩ = some (.int .i64 fi) := (b2.cell (p := ⟨w.heap.size, 6, none⟩) z1).trans N6; clear b2) | (go_at_call 24; refine (impl_ServeOne_any l0 n0 HN0.out _ _ id g t pr fr un fi _ hq0 (S2.out)).mono ?_; rintro e w12 ⟨v0, rfl, o0, b3⟩; have OO0 := Lib.hid o0; clear o0; have Bu3 := Lib.hid b3; have z3 := below_lt z2 b3; have R0 : w12.cell? ⟨w.heap.size, 0, none⟩ = some (.int .i64 id) := (b3.cell (p := ⟨w.heap.size, 0, none⟩) z2).trans Q0; have R1 : w12.cell? ⟨w.heap.size, 1, none⟩ = some (.int .i64 g) := (b3.cell (p := ⟨w.heap.size, 1, none⟩) z2).trans Q1; have R2 : w12.cell? ⟨w.heap.size, 2, none⟩ = some (.int .i64 t) := (b3.cell (p := ⟨w.heap.size, 2, none⟩) z2).trans Q2; have R3 : w12.cell? ⟨w.heap.size, 3, none⟩ = some (.int .i64 pr) := (b3.cell (p := ⟨w.heap.size, 3, none⟩) z2).trans Q3; have R4 : w12.cell? ⟨w.heap.size, 4, none⟩ = some (.int .i64 fr) := (b3.cell (p := ⟨w.heap.size, 4, none⟩) z2).trans Q4; have R5 : w12.cell? ⟨w.heap.size, 5, none⟩ = some (.int .i64 un) := (b3.cell (p := ⟨w.heap.size, 5, none⟩) z2).trans Q5; have R6 : w12.cell? ⟨w.heap.size, 6, none⟩ = some (.int .i64 fi) := (b3.cell (p := ⟨w.heap.size, 6, none⟩) z2).trans Q6; clear b3))
  have b := below_step (below_step (below_step (bl_drew (Below.refl w11.heap.size w11)) Bu1.out) Bu2.out) Bu3.out
  have o0 := OO0.out
  clear M0 M1 M2 M3 M4 M5 M6 N0 N1 N2 N3 N4 N5 N6 Q0 Q1 Q2 Q3 Q4 Q5 Q6 R0 R1 R2 R3 R4 R5 R6
  clear S1 S2 Bu1 Bu2 Bu3 OO0 HCr0
  clear L0 L1 L2 L3 L4 L5 L6
  obtain ⟨hA0, hc0, rfl, _, _, _⟩ := o0.slice
  rw [HP0.out] at o0 ⊢
  have C0_12 := Lib.hid (C0_11.out.below (b.mono BB_11.out.size)); clear C0_11
  have ws0_12 := Lib.hid (ws0_11.out.below (b.mono BW_11.out.size)); clear ws0_11
  have go0_12 := Lib.hid (go0_11.out.past b (Nat.le_refl _)); clear go0_11
  have BB_12 := Lib.hid (below_step BB_11.out b)
  have BX_12 := Lib.hid (below_step BX_11.out b)
  have BW_12 := Lib.hid (below_step BW_11.out b)
  have ho0_12 := Lib.hid o0
  clear b o0
  go_wp2_with fail
  refine (eqIntS_same (oneS l0 ⟨id, g, t, pr, fr, un, fi⟩) q0 HP0.out _ _ _ _ _ (by omega) (ho0_12.out.rd) (ws0_12.out.more BW_12.out.size)).mono ?_
  rintro e w13 ⟨rfl, b⟩
  have C0_13 := Lib.hid (C0_12.out.below (b.mono BB_12.out.size)); clear C0_12
  have ws0_13 := Lib.hid (ws0_12.out.below (b.mono BW_12.out.size)); clear ws0_12
  have go0_13 := Lib.hid (go0_12.out.past b (Nat.le_refl _)); clear go0_12
  have ho0_13 := Lib.hid (ho0_12.out.past b (Nat.le_refl _)); clear ho0_12
  have BB_13 := Lib.hid (below_step BB_12.out b)
  have BX_13 := Lib.hid (below_step BX_12.out b)
  have BW_13 := Lib.hid (below_step BW_12.out b)
  clear b
  go_wp2_with fail
  refine (heldIntS_sl q0 _ _ _ _ (by omega) (by omega) (by omega) go0_13.out.rd).mono ?_
  rintro e w14 ⟨rfl, b⟩
  have C0_14 := Lib.hid (C0_13.out.below (b.mono BB_13.out.size)); clear C0_13
  have ws0_14 := Lib.hid (ws0_13.out.below (b.mono BW_13.out.size)); clear ws0_13
  have go0_14 := Lib.hid (go0_13.out.past b (Nat.le_refl _)); clear go0_13
  have ho0_14 := Lib.hid (ho0_13.out.past b (Nat.le_refl _)); clear ho0_13
  have BB_14 := Lib.hid (below_step BB_13.out b)
  have BX_14 := Lib.hid (below_step BX_13.out b)
  have BW_14 := Lib.hid (below_step BW_13.out b)
  clear b
  go_wp2
  go_ret
  exact ⟨rfl, BB_14.out⟩
set_option maxRecDepth 100000 in
theorem FnExactServeOne_lifted (os : Os) (started : os.Started) (H : Type) (enc : TypeId × Value → H) :
    ReturnsInHanded {} Try.checked os 5 .any (Rows.fnExactServeOneSpec.pre6 enc Try.prog Try.f5 Rows.fnExactServeOneRow.domain false) (Rows.fnExactServeOneSpec.post enc Try.prog Try.f5 false true false false) := by
  refine returnsInHanded_of_change (C := Try.checked) own_ started (by kernel_rfl) Try.func5
    (ChangeSpec.witness6 (enc := enc) (C := Try.checked) false ⟨#[], #[.slice none 0 0, .agg #[.int .i64 0, .int .i64 0, .int .i64 0, .int .i64 0, .int .i64 0, .int .i64 0, .int .i64 0]], []⟩ 8 (by kernel_rfl) (by kernel_rfl) (by kernel_rfl) (by kernel_rfl)) ?_
  intro W base args ds gs before hval0 hW hcnd _
  have hval : ∀ (j : Nat) t v, Try.f5.params[j]? = some t → args[j]? = some v → Value.okWide Try.prog W .any base t v := hval0
  clear hval0 hcnd
  refine law_contract laid_ (tb := 4) rfl rfl Try.underlying4 (fun ds hd => ?_) (by show Readable Try.prog [35, 23]; repeat (first | exact trivial | refine ⟨⟨by kernel_rfl, of_decide_eq_true (by kernel_rfl)⟩, ?_⟩)) hW ?_
  · match ds, hd with
    | [d0, d1], _ => rfl
  obtain ⟨p, q, hA0, hV, rfl, hfz, hnd⟩ := hW
  have hA : DataW.TrodAll enc Try.prog W 0 (fun _ => true) true Try.f5.params.toList args.toList ds p := hA0
  clear hA0
  rw [Try.params5] at hA hval
  obtain ⟨v0, vs0, d0, ds0, p0, q0, hargs, rfl, rfl, h0, r0⟩ := trodAll_cons hA
  obtain ⟨v1, vs1, d1, ds1, p1, q1, rfl, rfl, rfl, h1, r1⟩ := trodAll_cons r0
  obtain ⟨rfl, rfl, rfl⟩ := trodAll_nil r1
  obtain rfl : args = #[v0, v1] := by cases args; simp_all
  obtain ⟨A0, m0, cc0, ll0, rfl, hn0, hm0, hsl0, _⟩ := open_is Try.underlying35 Try.underlying3 (by kernel_rfl) (hval 0 _ v0 rfl rfl) h0
  obtain ⟨zs, hzs, rfl, _⟩ := open_ag Try.underlying23 (by kernel_rfl) (by kernel_rfl) (fun j f hj => by
    match j, hj with
    | 0, hj | 1, hj | 2, hj | 3, hj | 4, hj | 5, hj | 6, hj => simp at hj; subst hj; exact Try.underlying3) (hval 1 _ v1 rfl rfl) h1
  obtain ⟨z1, z2, z3, z4, z5, z6, z7, rfl⟩ := list7 hzs
  exact FnExactServeOne_walk ll0 m0 hn0 A0 cc0 z1 z2 z3 z4 z5 z6 z7 W (by unfold maxLen at hm0; exact hm0) hsl0
theorem FnExactServeOne_holds : Rows.FnExactServeOneSaid :=
  OpenClaim.holds_of_wide 5 Try.f5 rfl rfl rfl rfl rfl rfl rfl ⟨rfl, rfl, rfl, rfl, rfl⟩ rfl rfl rfl rfl rfl (by kernel_rfl) Try.func5 (by kernel_rfl)
    (of_decide_eq_true (by kernel_rfl)) (by unfold Func.isWrapper; rw [if_neg (of_decide_eq_false (by kernel_rfl))]; exact ⟨rfl, rfl⟩)
    (fun os started H enc _ => FnExactServeOne_lifted os started H enc)
end Go.Proofs.Ytcljfdpjlkaagaa
