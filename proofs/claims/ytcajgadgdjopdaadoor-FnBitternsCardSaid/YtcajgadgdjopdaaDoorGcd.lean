/- Greatest common divisors: the program's loop and the reference's, and fractions in lowest terms. -/
import Derived.Test.YtcajgadgdjopdaaDoorProg
import Derived.Test.YtcajgadgdjopdaaDoorBase
namespace Go.Proofs.YtcajgadgdjopdaaDoor
open Go.RowKit
theorem gcd_step (x y : Nat) : Nat.gcd y (x % y) = Nat.gcd x y := by
  rw [Nat.gcd_comm x y, Nat.gcd_rec y x, Nat.gcd_comm]
theorem tmod_nat (x y : Nat) : (x : Int).tmod (y : Int) = ((x % y : Nat) : Int) := by
  rw [Int.tmod_eq_emod_of_nonneg (by omega)]; rfl
theorem tdiv_nat (x y : Nat) : (x : Int).tdiv (y : Int) = ((x / y : Nat) : Int) := by
  rw [Int.tdiv_eq_ediv_of_nonneg (by omega)]; rfl
theorem wrap_nat {x : Nat} (h : x ≤ 1000000000) : wrap64 (x : Int) = (x : Int) := by unfold wrap64; omega
set_option maxHeartbeats 400000 in
theorem abs_any (n : Nat) (w : World) :
    Calls Tryd.prog 47 #[.int .i64 n] w fun e w' => e = .returned (.int .i64 n) ∧ w = w' := by
  have h : ¬ (n : Int) < 0 := by omega
  go_enter Tryd.func47, Tryd.ntmps47
  go_wp2
  go_ret
  exact ⟨rfl, rfl⟩
set_option maxHeartbeats 2000000 in
theorem gcd_any (a b : Nat) (w : World) (ha : a ≤ 1000000000) (hb : b ≤ 1000000000) :
    Calls Tryd.prog 43 #[.int .i64 a, .int .i64 b] w fun e w' => e = .returned (.int .i64 ((Nat.gcd a b : Nat) : Int)) ∧ Below w.heap.size w w' := by
  obtain ⟨G, hG⟩ : ∃ G, Nat.gcd a b = G := ⟨_, rfl⟩
  rw [hG]
  have HG := Lib.hid hG
  clear hG
  go_enter Tryd.func43, Tryd.ntmps43
  go_wp2_with (go_at_call 47; refine (abs_any _ _).mono ?_; rintro e w1 ⟨rfl, rfl⟩)
  go_loopw [0, 1] (fun av bv wr => ∃ x y : Nat, x ≤ 1000000000 ∧ y ≤ 1000000000 ∧ Nat.gcd x y = G ∧ av = .int .i64 x ∧ bv = .int .i64 y ∧ Below w.heap.size w wr) (fun _ bv _ => (intOf bv).toNat)
  case atStart => exact ⟨a, b, ha, hb, HG.out, rfl, rfl, Below.refl _ _⟩
  case round =>
    obtain ⟨x, y, hx, hy, hg, rfl, rfl, hbel⟩ := hrel
    by_cases h0 : y = 0
    · subst h0
      rw [Nat.gcd_zero_right] at hg
      subst hg
      go_wp2
      go_ret
      exact ⟨rfl, hbel⟩
    · have hr : x % y < y := Nat.mod_lt _ (Nat.pos_of_ne_zero h0)
      have hs := gcd_step x y
      have e1 := tmod_nat x y
      obtain ⟨r, hrr⟩ : ∃ r, x % y = r := ⟨_, rfl⟩
      rw [hrr] at hr hs e1
      have hr9 : r ≤ 1000000000 := Nat.le_trans (Nat.le_of_lt hr) hy
      have e2 := wrap_nat hr9
      have e4 : ¬ (y : Int) = 0 := fun h => h0 (Int.ofNat_eq_zero.1 h)
      have e3 : ((y : Int) == 0) = false := beq_eq_false_iff_ne.2 e4
      rw [hg] at hs
      have HS := Lib.hid hs
      clear hs hrr hg
      go_wp2
      refine wp_region_gw (by kernel_rfl) (by kernel_rfl) ?_
      repeat (first | go_big_quiet_step (fail) | quiet_step (fail))
      refine wpQuiet_nil ?_
      rintro _ ⟨pq, rfl⟩
      go_wp2
      go_roundw
      case rel => exact ⟨y, r, hy, hr9, HS.out, rfl, rfl, (by repeat (first | assumption | exact Below.refl _ _ | apply bl_gw | apply bl_alloc | apply bl_drewN | apply bl_drew))⟩
      case measure => simpa [intOf] using hr
set_option maxHeartbeats 2000000 in
theorem reduced_any (a b : Nat) (w : World) (ha : a ≤ 1000000000) (hb : b ≤ 1000000000) (h1 : 1 ≤ b) :
    Calls Tryd.prog 30 #[.int .i64 a, .int .i64 b] w fun e w' => e = .returned (.tuple #[.int .i64 ((a / Nat.gcd a b : Nat) : Int), .int .i64 ((b / Nat.gcd a b : Nat) : Int)]) ∧ Below w.heap.size w w' := by
  have hc := gcd_any a b w ha hb
  have hp : 0 < Nat.gcd a b := Nat.gcd_pos_of_pos_right _ (by omega)
  obtain ⟨G, hG⟩ : ∃ G, Nat.gcd a b = G := ⟨_, rfl⟩
  rw [hG] at hc hp ⊢
  have HC := Lib.hid hc
  have e1 := tdiv_nat a G
  have e2 := tdiv_nat b G
  have h2 : a / G ≤ a := Nat.div_le_self _ _
  have h3 : b / G ≤ b := Nat.div_le_self _ _
  obtain ⟨p, hpp⟩ : ∃ p, a / G = p := ⟨_, rfl⟩
  obtain ⟨q, hqq⟩ : ∃ q, b / G = q := ⟨_, rfl⟩
  rw [hpp] at e1 h2 ⊢
  rw [hqq] at e2 h3 ⊢
  have e3 := wrap_nat (x := p) (by omega)
  have e4 := wrap_nat (x := q) (by omega)
  have e5 : ((G : Int) == 0) = false := beq_eq_false_iff_ne.2 (by omega)
  have e6 : ¬ (G : Int) = 0 := by omega
  clear hc hG hpp hqq
  go_enter Tryd.func30, Tryd.ntmps30
  go_wp2_with (go_at_call 43; refine (HC.out).mono ?_; rintro e w1 ⟨rfl, hb⟩; obtain ⟨pp, rfl⟩ := below_gw hb; clear hb)
  refine wp_region_gw (by kernel_rfl) (by kernel_rfl) ?_
  repeat (first | go_big_quiet_step (fail) | quiet_step (fail))
  refine wpQuiet_nil ?_
  rintro _ ⟨pq, rfl⟩
  go_wp2
  go_ret2
  exact ⟨rfl, (by repeat (first | assumption | exact Below.refl _ _ | apply bl_gw | apply bl_alloc | apply bl_drewN | apply bl_drew))⟩
set_option maxHeartbeats 400000 in
theorem l1MostG_any (a b : Int) (w : World) :
    Calls Tryd.prog 44 #[.int .i64 a, .int .i64 b] w fun e w' => e = .returned (.int .i64 (max a b)) ∧ w = w' := by
  go_enter Tryd.func44, Tryd.ntmps44
  go_wp2
  all_goals go_ret
  all_goals exact ⟨ret_int (by first | omega | (simp; omega)), rfl⟩
set_option maxHeartbeats 2000000 in
theorem l2Reduce_any (a b : Nat) (w : World) (ha : a ≤ 1000000000) (hb : b ≤ 1000000000) (h1 : 1 ≤ b) :
    Calls Tryd.prog 31 #[.int .i64 a, .int .i64 b] w fun e w' => e = .returned (.tuple #[.int .i64 ((a / Nat.gcd a b : Nat) : Int), .int .i64 ((b / Nat.gcd a b : Nat) : Int)]) ∧ Below w.heap.size w w' := by
  have hp : 0 < Nat.gcd a b := Nat.gcd_pos_of_pos_right _ (by omega)
  obtain ⟨G, hG⟩ : ∃ G, Nat.gcd a b = G := ⟨_, rfl⟩
  rw [hG] at hp ⊢
  have HG := Lib.hid hG
  have e1 := tdiv_nat a G
  have e2 := tdiv_nat b G
  have h2 : a / G ≤ a := Nat.div_le_self _ _
  have h3 : b / G ≤ b := Nat.div_le_self _ _
  obtain ⟨p, hpp⟩ : ∃ p, a / G = p := ⟨_, rfl⟩
  obtain ⟨q, hqq⟩ : ∃ q, b / G = q := ⟨_, rfl⟩
  rw [hpp] at e1 h2 ⊢
  rw [hqq] at e2 h3 ⊢
  have e3 := wrap_nat (x := p) (by omega)
  have e4 := wrap_nat (x := q) (by omega)
  have E := Lib.hid (And.intro (And.intro e1 e2) (And.intro e3 e4))
  have e5 : IntKind.i64.wrap (-(a : Int)) = -(a : Int) := IntWalk.i64_in _ (by omega)
  have e6 : max (a : Int) (-(a : Int)) = (a : Int) := by omega
  clear hG hpp hqq e1 e2 e3 e4
  go_enter Tryd.func31, Tryd.ntmps31
  go_wp2_with (go_at_call 44; refine (l1MostG_any _ _ _).mono ?_; rintro e w1 ⟨rfl, rfl⟩; rw [e6])
  clear e5 e6
  go_loopw [6, 7] (fun av bv wr => ∃ x y : Nat, x ≤ 1000000000 ∧ y ≤ 1000000000 ∧ Nat.gcd x y = G ∧ av = .int .i64 x ∧ bv = .int .i64 y ∧ Below w.heap.size w wr) (fun _ bv _ => (intOf bv).toNat)
  case atStart => exact ⟨a, b, ha, hb, HG.out, rfl, rfl, Below.refl _ _⟩
  case round =>
    obtain ⟨x, y, hx, hy, hg, rfl, rfl, hbel⟩ := hrel
    by_cases h0 : y = 0
    · subst h0
      rw [Nat.gcd_zero_right] at hg
      subst hg
      obtain ⟨⟨e1, e2⟩, ⟨e3, e4⟩⟩ := E.out
      have e5 : ((x : Int) == 0) = false := beq_eq_false_iff_ne.2 (by omega)
      have e6 : ¬ (x : Int) = 0 := by omega
      go_wp2
      refine wp_region_gw (by kernel_rfl) (by kernel_rfl) ?_
      repeat (first | go_big_quiet_step (fail) | quiet_step (fail))
      refine wpQuiet_nil ?_
      rintro _ ⟨pq, rfl⟩
      go_wp2
      go_ret2
      exact ⟨rfl, (by repeat (first | assumption | exact Below.refl _ _ | apply bl_gw | apply bl_alloc | apply bl_drewN | apply bl_drew))⟩
    · have hr : x % y < y := Nat.mod_lt _ (Nat.pos_of_ne_zero h0)
      have hs := gcd_step x y
      have e1 := tmod_nat x y
      obtain ⟨r, hrr⟩ : ∃ r, x % y = r := ⟨_, rfl⟩
      rw [hrr] at hr hs e1
      have hr9 : r ≤ 1000000000 := Nat.le_trans (Nat.le_of_lt hr) hy
      have e2 := wrap_nat hr9
      have e4 : ¬ (y : Int) = 0 := fun h => h0 (Int.ofNat_eq_zero.1 h)
      have e3 : ((y : Int) == 0) = false := beq_eq_false_iff_ne.2 e4
      rw [hg] at hs
      have HS := Lib.hid hs
      clear hs hrr hg
      go_wp2
      go_roundw
      case rel => exact ⟨y, r, hy, hr9, HS.out, rfl, rfl, (by repeat (first | assumption | exact Below.refl _ _ | apply bl_gw | apply bl_alloc | apply bl_drewN | apply bl_drew))⟩
      case measure => simpa [intOf] using hr
end Go.Proofs.YtcajgadgdjopdaaDoor
