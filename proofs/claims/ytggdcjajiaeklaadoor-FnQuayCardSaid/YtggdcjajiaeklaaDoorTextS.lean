/- The text of a ship: impl.ShipText and spec.ShipText. -/
import Derived.Test.YtggdcjajiaeklaaDoorNum
import Derived.Test.YtggdcjajiaeklaaDoorShipA
namespace Go.Proofs.YtggdcjajiaeklaaDoor
open Go.RowKit
def stA (x : Ship) : ByteArray :=
  ⟨#[115, 104, 105, 112, 32]⟩ ++ numT x.id.toNat ++ ⟨#[32]⟩ ++ numT x.come.toNat ++ ⟨#[45]⟩ ++ numT x.leave.toNat ++ ⟨#[58, 32]⟩ ++ numT x.loaded.toNat ++ ⟨#[47]⟩ ++ numT x.holds.toNat ++ ⟨#[32, 116]⟩
/-- The text of a ship; nothing where it is none. -/
def shipT (x : Ship) : ByteArray := if shipOK x then stA x else ⟨#[]⟩
theorem ship_nat {a b c d e f : Int} (h : shipOK ⟨a, b, c, d, e, f⟩ = true) : ∃ a' b' c' e' f' : Nat, a = a' ∧ b = b' ∧ c = c' ∧ e = e' ∧ f = f' ∧ a' ≤ 99 ∧ b' ≤ 4000 ∧ c' ≤ 4000 ∧ e' ≤ 3000 ∧ f' ≤ 3000 := by
  simp only [shipOK, inB, Bool.and_eq_true, decide_eq_true_eq] at h
  refine ⟨a.toNat, b.toNat, c.toNat, e.toNat, f.toNat, by omega, by omega, by omega, by omega, by omega, by omega, by omega, by omega, by omega, by omega⟩
set_option maxRecDepth 4000 in
set_option maxHeartbeats 8000000 in
theorem spec_ShipText_any (a b c d e f : Int) (w : World) :
    Calls Tryd.prog 5 #[.agg #[.int .i64 a, .int .i64 b, .int .i64 c, .int .i64 d, .int .i64 e, .int .i64 f]] w fun x w' => x = .returned (.tuple #[.string (shipT ⟨a, b, c, d, e, f⟩), .bool (shipOK ⟨a, b, c, d, e, f⟩)]) ∧ Below w.heap.size w w' := by
  by_cases hok : shipOK ⟨a, b, c, d, e, f⟩ = true
  rotate_left
  · have hf : shipOK ⟨a, b, c, d, e, f⟩ = false := by simpa using hok
    have ht : shipT ⟨a, b, c, d, e, f⟩ = ⟨#[]⟩ := by unfold shipT; rw [if_neg hok]
    rw [ht, hf]
    have HF := Lib.hid hf
    clear hok hf ht
    go_enter Tryd.func5, Tryd.ntmps5
    go_wp2_with fail
    refine (l17One_any _ _ _ _ _ _ _).mono ?_
    rintro x w1 ⟨rfl, hb⟩
    rw [HF.out]
    have HB := Lib.hid (below_step (bl_alloc (Below.refl w.heap.size w) _) hb)
    clear hb
    go_wp2
    go_ret2
    exact ⟨by first | rfl | (simp; done), HB.out⟩
  · have ht : shipT ⟨a, b, c, d, e, f⟩ = stA ⟨a, b, c, d, e, f⟩ := by unfold shipT; rw [if_pos hok]
    have HO := Lib.hid hok
    obtain ⟨a', b', c', e', f', rfl, rfl, rfl, rfl, rfl, ha', hb', hc', he', hf'⟩ := ship_nat hok
    have z1 := numT_size a' (by omega)
    have z2 := numT_size b' (by omega)
    have z3 := numT_size c' (by omega)
    have z4 := numT_size e' (by omega)
    have z5 := numT_size f' (by omega)
    rw [ht, hok]
    have hA : stA ⟨a', b', c', d, e', f'⟩ = ⟨#[115, 104, 105, 112, 32]⟩ ++ numT a' ++ ⟨#[32]⟩ ++ numT b' ++ ⟨#[45]⟩ ++ numT c' ++ ⟨#[58, 32]⟩ ++ numT f' ++ ⟨#[47]⟩ ++ numT e' ++ ⟨#[32, 116]⟩ := by simp [stA]
    have HA := Lib.hid hA
    clear hok ht hA
    go_enter Tryd.func5, Tryd.ntmps5
    go_wp2_with fail
    refine (l17One_any _ _ _ _ _ _ _).mono ?_
    rintro x w1 ⟨rfl, hb⟩
    rw [HO.out]
    obtain ⟨p0, rfl⟩ := below_gw hb
    clear hb
    go_wp2
    refine wp_region_gw (by kernel_rfl) (by kernel_rfl) ?_
    repeat (first | go_big_quiet_step ((first | (go_at_call_of 28 a'; exact quiet_gw2 (v := .string (numT a')) (l1Num_any a' _ (Nat.le_trans ha' (by decide)) )) | (go_at_call_of 28 b'; exact quiet_gw2 (v := .string (numT b')) (l1Num_any b' _ (Nat.le_trans hb' (by decide)) )) | (go_at_call_of 28 c'; exact quiet_gw2 (v := .string (numT c')) (l1Num_any c' _ (Nat.le_trans hc' (by decide)) )) | (go_at_call_of 28 e'; exact quiet_gw2 (v := .string (numT e')) (l1Num_any e' _ (Nat.le_trans he' (by decide)) )) | (go_at_call_of 28 f'; exact quiet_gw2 (v := .string (numT f')) (l1Num_any f' _ (Nat.le_trans hf' (by decide)) )))) | quiet_step ((first | (go_at_call_of 28 a'; exact quiet_gw2 (v := .string (numT a')) (l1Num_any a' _ (Nat.le_trans ha' (by decide)) )) | (go_at_call_of 28 b'; exact quiet_gw2 (v := .string (numT b')) (l1Num_any b' _ (Nat.le_trans hb' (by decide)) )) | (go_at_call_of 28 c'; exact quiet_gw2 (v := .string (numT c')) (l1Num_any c' _ (Nat.le_trans hc' (by decide)) )) | (go_at_call_of 28 e'; exact quiet_gw2 (v := .string (numT e')) (l1Num_any e' _ (Nat.le_trans he' (by decide)) )) | (go_at_call_of 28 f'; exact quiet_gw2 (v := .string (numT f')) (l1Num_any f' _ (Nat.le_trans hf' (by decide)) )))))
    refine wpQuiet_nil ?_
    rintro _ ⟨pq, rfl⟩
    go_wp2
    go_ret2
    rw [HA.out]
    exact ⟨rfl, (by repeat (first | assumption | exact Below.refl _ _ | apply bl_gw | apply bl_alloc | apply bl_drewN | apply bl_drew))⟩
set_option maxRecDepth 4000 in
set_option maxHeartbeats 8000000 in
theorem impl_ShipText_any (a b c d e f : Int) (w : World) (hN : Nums w):
    Calls Tryd.prog 7 #[.agg #[.int .i64 a, .int .i64 b, .int .i64 c, .int .i64 d, .int .i64 e, .int .i64 f]] w fun x w' => x = .returned (.tuple #[.string (shipT ⟨a, b, c, d, e, f⟩), .bool (shipOK ⟨a, b, c, d, e, f⟩)]) ∧ Below w.heap.size w w' := by
  by_cases hok : shipOK ⟨a, b, c, d, e, f⟩ = true
  rotate_left
  · have hf : shipOK ⟨a, b, c, d, e, f⟩ = false := by simpa using hok
    have ht : shipT ⟨a, b, c, d, e, f⟩ = ⟨#[]⟩ := by unfold shipT; rw [if_neg hok]
    rw [ht, hf]
    have HF := Lib.hid hf
    clear hok hf ht
    go_enter Tryd.func7, Tryd.ntmps7
    go_wp2_with fail
    refine (IsShip_any _ _ _ _ _ _ _).mono ?_
    rintro x w1 ⟨rfl, hb⟩
    rw [HF.out]
    have HB := Lib.hid (below_step (bl_alloc (Below.refl w.heap.size w) _) hb)
    clear hb
    go_wp2
    go_ret2
    exact ⟨by first | rfl | (simp; done), HB.out⟩
  · have ht : shipT ⟨a, b, c, d, e, f⟩ = stA ⟨a, b, c, d, e, f⟩ := by unfold shipT; rw [if_pos hok]
    have HO := Lib.hid hok
    obtain ⟨a', b', c', e', f', rfl, rfl, rfl, rfl, rfl, ha', hb', hc', he', hf'⟩ := ship_nat hok
    have z1 := numT_size a' (by omega)
    have z2 := numT_size b' (by omega)
    have z3 := numT_size c' (by omega)
    have z4 := numT_size e' (by omega)
    have z5 := numT_size f' (by omega)
    rw [ht, hok]
    have hA : stA ⟨a', b', c', d, e', f'⟩ = ⟨#[115, 104, 105, 112, 32]⟩ ++ numT a' ++ ⟨#[32]⟩ ++ numT b' ++ ⟨#[45]⟩ ++ numT c' ++ ⟨#[58, 32]⟩ ++ numT f' ++ ⟨#[47]⟩ ++ numT e' ++ ⟨#[32, 116]⟩ := by simp [stA]
    have HA := Lib.hid hA
    clear hok ht hA
    go_enter Tryd.func7, Tryd.ntmps7
    go_wp2_with fail
    refine (IsShip_any _ _ _ _ _ _ _).mono ?_
    rintro x w1 ⟨rfl, hb⟩
    rw [HO.out]
    obtain ⟨p0, rfl⟩ := below_gw hb
    clear hb
    go_wp2
    refine wp_region_gw (by kernel_rfl) (by kernel_rfl) ?_
    repeat (first | go_big_quiet_step ((first | (go_at_call_of 29 a'; exact quiet_gw2 (v := .string (numT a')) (decimal_any a' _ (Nat.le_trans ha' (by decide)) (hN.past (by repeat (first | assumption | exact Below.refl _ _ | apply bl_gw | apply bl_alloc | apply bl_drewN | apply bl_drew))))) | (go_at_call_of 29 b'; exact quiet_gw2 (v := .string (numT b')) (decimal_any b' _ (Nat.le_trans hb' (by decide)) (hN.past (by repeat (first | assumption | exact Below.refl _ _ | apply bl_gw | apply bl_alloc | apply bl_drewN | apply bl_drew))))) | (go_at_call_of 29 c'; exact quiet_gw2 (v := .string (numT c')) (decimal_any c' _ (Nat.le_trans hc' (by decide)) (hN.past (by repeat (first | assumption | exact Below.refl _ _ | apply bl_gw | apply bl_alloc | apply bl_drewN | apply bl_drew))))) | (go_at_call_of 29 e'; exact quiet_gw2 (v := .string (numT e')) (decimal_any e' _ (Nat.le_trans he' (by decide)) (hN.past (by repeat (first | assumption | exact Below.refl _ _ | apply bl_gw | apply bl_alloc | apply bl_drewN | apply bl_drew))))) | (go_at_call_of 29 f'; exact quiet_gw2 (v := .string (numT f')) (decimal_any f' _ (Nat.le_trans hf' (by decide)) (hN.past (by repeat (first | assumption | exact Below.refl _ _ | apply bl_gw | apply bl_alloc | apply bl_drewN | apply bl_drew))))))) | quiet_step ((first | (go_at_call_of 29 a'; exact quiet_gw2 (v := .string (numT a')) (decimal_any a' _ (Nat.le_trans ha' (by decide)) (hN.past (by repeat (first | assumption | exact Below.refl _ _ | apply bl_gw | apply bl_alloc | apply bl_drewN | apply bl_drew))))) | (go_at_call_of 29 b'; exact quiet_gw2 (v := .string (numT b')) (decimal_any b' _ (Nat.le_trans hb' (by decide)) (hN.past (by repeat (first | assumption | exact Below.refl _ _ | apply bl_gw | apply bl_alloc | apply bl_drewN | apply bl_drew))))) | (go_at_call_of 29 c'; exact quiet_gw2 (v := .string (numT c')) (decimal_any c' _ (Nat.le_trans hc' (by decide)) (hN.past (by repeat (first | assumption | exact Below.refl _ _ | apply bl_gw | apply bl_alloc | apply bl_drewN | apply bl_drew))))) | (go_at_call_of 29 e'; exact quiet_gw2 (v := .string (numT e')) (decimal_any e' _ (Nat.le_trans he' (by decide)) (hN.past (by repeat (first | assumption | exact Below.refl _ _ | apply bl_gw | apply bl_alloc | apply bl_drewN | apply bl_drew))))) | (go_at_call_of 29 f'; exact quiet_gw2 (v := .string (numT f')) (decimal_any f' _ (Nat.le_trans hf' (by decide)) (hN.past (by repeat (first | assumption | exact Below.refl _ _ | apply bl_gw | apply bl_alloc | apply bl_drewN | apply bl_drew))))))))
    refine wpQuiet_nil ?_
    rintro _ ⟨pq, rfl⟩
    go_wp2
    go_ret2
    rw [HA.out]
    exact ⟨rfl, (by repeat (first | assumption | exact Below.refl _ _ | apply bl_gw | apply bl_alloc | apply bl_drewN | apply bl_drew))⟩
end Go.Proofs.YtggdcjajiaeklaaDoor
