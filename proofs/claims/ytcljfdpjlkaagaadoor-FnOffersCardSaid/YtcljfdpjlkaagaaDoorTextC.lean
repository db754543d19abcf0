/- The text of a contract: impl.ContractText and spec.ContractText. -/
import Derived.Test.YtcljfdpjlkaagaaDoorNum
import Derived.Test.YtcljfdpjlkaagaaDoorContractA
namespace Go.Proofs.YtcljfdpjlkaagaaDoor
open Go.RowKit
def ctA (x : Contract) : ByteArray :=
  numT x.tons.toNat ++ ⟨#[32, 116, 32, 103]⟩ ++ numT x.grade.toNat ++ ⟨#[32, 97, 116, 32]⟩ ++ numT x.price.toNat ++ ⟨#[32, 98, 121, 32]⟩ ++ numT x.last.toNat
def ctB (x : Contract) : ByteArray := if 0 < x.fine then ctA x ++ ⟨#[32, 111, 114, 32]⟩ ++ numT (x.tons * x.fine).toNat else ctA x
/-- The text of a contract; nothing where it is none. -/
def contractT (x : Contract) : ByteArray := if contractOK x then ctB x else ⟨#[]⟩
theorem contract_nat {a b c d e f g : Int} (h : contractOK ⟨a, b, c, d, e, f, g⟩ = true) : ∃ b' c' d' f' g' p : Nat, b = b' ∧ c = c' ∧ d = d' ∧ f = f' ∧ g = g' ∧ c * g = p ∧ b' ≤ 4 ∧ c' ≤ 5000 ∧ d' ≤ 500 ∧ f' ≤ 4000 ∧ g' ≤ 1000 ∧ p ≤ 5000000 := by
  simp only [contractOK, inB, Bool.and_eq_true, decide_eq_true_eq] at h
  refine ⟨b.toNat, c.toNat, d.toNat, f.toNat, g.toNat, c.toNat * g.toNat, by omega, by omega, by omega, by omega, by omega, ?_, by omega, by omega, by omega, by omega, by omega, ?_⟩
  · rw [Int.natCast_mul, Int.toNat_of_nonneg (by omega), Int.toNat_of_nonneg (by omega)]
  · exact Nat.mul_le_mul (show c.toNat ≤ 5000 by omega) (show g.toNat ≤ 1000 by omega)
set_option maxRecDepth 4000 in
set_option maxHeartbeats 8000000 in
theorem spec_ContractText_any (a b c d e f g : Int) (w : World) :
    Calls Tryd.prog 5 #[.agg #[.int .i64 a, .int .i64 b, .int .i64 c, .int .i64 d, .int .i64 e, .int .i64 f, .int .i64 g]] w fun x w' => x = .returned (.tuple #[.string (contractT ⟨a, b, c, d, e, f, g⟩), .bool (contractOK ⟨a, b, c, d, e, f, g⟩)]) ∧ Below w.heap.size w w' := by
  by_cases hok : contractOK ⟨a, b, c, d, e, f, g⟩ = true
  rotate_left
  · have hf : contractOK ⟨a, b, c, d, e, f, g⟩ = false := by simpa using hok
    have ht : contractT ⟨a, b, c, d, e, f, g⟩ = ⟨#[]⟩ := by unfold contractT; rw [if_neg hok]
    rw [ht, hf]
    have HF := Lib.hid hf
    clear hok hf ht
    go_enter Tryd.func5, Tryd.ntmps5
    go_wp2_with fail
    refine (l18One_any _ _ _ _ _ _ _ _).mono ?_
    rintro x w1 ⟨rfl, hb⟩
    rw [HF.out]
    have HB := Lib.hid (below_step (bl_alloc (Below.refl w.heap.size w) _) hb)
    clear hb
    go_wp2
    go_ret2
    exact ⟨by first | rfl | (simp; done), HB.out⟩
  · have ht : contractT ⟨a, b, c, d, e, f, g⟩ = ctB ⟨a, b, c, d, e, f, g⟩ := by unfold contractT; rw [if_pos hok]
    have HO := Lib.hid hok
    obtain ⟨b', c', d', f', g', p, rfl, rfl, rfl, rfl, rfl, hp, hb', hc', hd', hf', hg', hp'⟩ := contract_nat hok
    have z1 := numT_size b' (by omega)
    have z2 := numT_size c' (by omega)
    have z3 := numT_size d' (by omega)
    have z4 := numT_size f' (by omega)
    have z5 := numT_size p (by omega)
    have HP := Lib.hid hp
    have e1 : wrap64 ((c' : Int) * (g' : Int)) = (p : Int) := by rw [hp]; unfold wrap64; omega
    rw [ht, hok]
    have hA : ctA ⟨a, b', c', d', e, f', g'⟩ = numT c' ++ ⟨#[32, 116, 32, 103]⟩ ++ numT b' ++ ⟨#[32, 97, 116, 32]⟩ ++ numT d' ++ ⟨#[32, 98, 121, 32]⟩ ++ numT f' := by simp [ctA]
    have HA := Lib.hid hA
    clear hok ht hp hA
    by_cases hfine : (0 : Int) < (g' : Int)
    all_goals
      have HFI := Lib.hid hfine
      go_enter Tryd.func5, Tryd.ntmps5
      go_wp2_with fail
      refine (l18One_any _ _ _ _ _ _ _ _).mono ?_
      rintro x w1 ⟨rfl, hb⟩
      rw [HO.out]
      obtain ⟨p0, rfl⟩ := below_gw hb
      clear hb
      go_wp2
      refine wp_region_gw (by kernel_rfl) (by kernel_rfl) ?_
      repeat (first | go_big_quiet_step ((first | (go_at_call_of 22 c'; exact quiet_gw2 (v := .string (numT c')) (l1Num_any c' _ (Nat.le_trans hc' (by decide)) )) | (go_at_call_of 22 b'; exact quiet_gw2 (v := .string (numT b')) (l1Num_any b' _ (Nat.le_trans hb' (by decide)) )) | (go_at_call_of 22 d'; exact quiet_gw2 (v := .string (numT d')) (l1Num_any d' _ (Nat.le_trans hd' (by decide)) )) | (go_at_call_of 22 f'; exact quiet_gw2 (v := .string (numT f')) (l1Num_any f' _ (Nat.le_trans hf' (by decide)) )))) | quiet_step ((first | (go_at_call_of 22 c'; exact quiet_gw2 (v := .string (numT c')) (l1Num_any c' _ (Nat.le_trans hc' (by decide)) )) | (go_at_call_of 22 b'; exact quiet_gw2 (v := .string (numT b')) (l1Num_any b' _ (Nat.le_trans hb' (by decide)) )) | (go_at_call_of 22 d'; exact quiet_gw2 (v := .string (numT d')) (l1Num_any d' _ (Nat.le_trans hd' (by decide)) )) | (go_at_call_of 22 f'; exact quiet_gw2 (v := .string (numT f')) (l1Num_any f' _ (Nat.le_trans hf' (by decide)) )))))
      refine wpQuiet_nil ?_
      rintro _ ⟨pq, rfl⟩
      go_wp2_with (go_at_call 22; refine (l1Num_any p _ (Nat.le_trans hp' (by decide)) ).mono ?_; rintro x w2 ⟨rfl, hb2⟩; obtain ⟨p2, rfl⟩ := below_gw hb2; clear hb2)
      go_ret2
    · have h1 : ctB ⟨a, b', c', d', e, f', g'⟩ = ctA ⟨a, b', c', d', e, f', g'⟩ ++ ⟨#[32, 111, 114, 32]⟩ ++ numT p := by unfold ctB; rw [if_pos HFI.out]; dsimp only; rw [HP.out, Int.toNat_natCast]
      rw [h1, HA.out]
      exact ⟨rfl, (by repeat (first | assumption | exact Below.refl _ _ | apply bl_gw | apply bl_alloc | apply bl_drewN | apply bl_drew))⟩
    · have h1 : ctB ⟨a, b', c', d', e, f', g'⟩ = ctA ⟨a, b', c', d', e, f', g'⟩ := by unfold ctB; rw [if_neg (Int.not_lt.2 HFI.out)]
      rw [h1, HA.out]
      exact ⟨rfl, (by repeat (first | assumption | exact Below.refl _ _ | apply bl_gw | apply bl_alloc | apply bl_drewN | apply bl_drew))⟩
set_option maxRecDepth 4000 in
set_option maxHeartbeats 8000000 in
theorem impl_ContractText_any (a b c d e f g : Int) (w : World) (hN : Nums w):
    Calls Tryd.prog 7 #[.agg #[.int .i64 a, .int .i64 b, .int .i64 c, .int .i64 d, .int .i64 e, .int .i64 f, .int .i64 g]] w fun x w' => x = .returned (.tuple #[.string (contractT ⟨a, b, c, d, e, f, g⟩), .bool (contractOK ⟨a, b, c, d, e, f, g⟩)]) ∧ Below w.heap.size w w' := by
  by_cases hok : contractOK ⟨a, b, c, d, e, f, g⟩ = true
  rotate_left
  · have hf : contractOK ⟨a, b, c, d, e, f, g⟩ = false := by simpa using hok
    have ht : contractT ⟨a, b, c, d, e, f, g⟩ = ⟨#[]⟩ := by unfold contractT; rw [if_neg hok]
    rw [ht, hf]
    have HF := Lib.hid hf
    clear hok hf ht
    go_enter Tryd.func7, Tryd.ntmps7
    go_wp2_with fail
    refine (IsContract_any _ _ _ _ _ _ _ _).mono ?_
    rintro x w1 ⟨rfl, hb⟩
    rw [HF.out]
    have HB := Lib.hid (below_step (bl_alloc (Below.refl w.heap.size w) _) hb)
    clear hb
    go_wp2
    go_ret2
    exact ⟨by first | rfl | (simp; done), HB.out⟩
  · have ht : contractT ⟨a, b, c, d, e, f, g⟩ = ctB ⟨a, b, c, d, e, f, g⟩ := by unfold contractT; rw [if_pos hok]
    have HO := Lib.hid hok
    obtain ⟨b', c', d', f', g', p, rfl, rfl, rfl, rfl, rfl, hp, hb', hc', hd', hf', hg', hp'⟩ := contract_nat hok
    have z1 := numT_size b' (by omega)
    have z2 := numT_size c' (by omega)
    have z3 := numT_size d' (by omega)
    have z4 := numT_size f' (by omega)
    have z5 := numT_size p (by omega)
    have HP := Lib.hid hp
    have e1 : wrap64 ((c' : Int) * (g' : Int)) = (p : Int) := by rw [hp]; unfold wrap64; omega
    rw [ht, hok]
    have hA : ctA ⟨a, b', c', d', e, f', g'⟩ = numT c' ++ ⟨#[32, 116, 32, 103]⟩ ++ numT b' ++ ⟨#[32, 97, 116, 32]⟩ ++ numT d' ++ ⟨#[32, 98, 121, 32]⟩ ++ numT f' := by simp [ctA]
    have HA := Lib.hid hA
    clear hok ht hp hA
    by_cases hfine : (0 : Int) < (g' : Int)
    all_goals
      have HFI := Lib.hid hfine
      go_enter Tryd.func7, Tryd.ntmps7
      go_wp2_with fail
      refine (IsContract_any _ _ _ _ _ _ _ _).mono ?_
      rintro x w1 ⟨rfl, hb⟩
      rw [HO.out]
      obtain ⟨p0, rfl⟩ := below_gw hb
      clear hb
      go_wp2
      refine wp_region_gw (by kernel_rfl) (by kernel_rfl) ?_
      repeat (first | go_big_quiet_step ((first | (go_at_call_of 23 c'; exact quiet_gw2 (v := .string (numT c')) (decimal_any c' _ (Nat.le_trans hc' (by decide)) (hN.past (by repeat (first | assumption | exact Below.refl _ _ | apply bl_gw | apply bl_alloc | apply bl_drewN | apply bl_drew))))) | (go_at_call_of 23 b'; exact quiet_gw2 (v := .string (numT b')) (decimal_any b' _ (Nat.le_trans hb' (by decide)) (hN.past (by repeat (first | assumption | exact Below.refl _ _ | apply bl_gw | apply bl_alloc | apply bl_drewN | apply bl_drew))))) | (go_at_call_of 23 d'; exact quiet_gw2 (v := .string (numT d')) (decimal_any d' _ (Nat.le_trans hd' (by decide)) (hN.past (by repeat (first | assumption | exact Below.refl _ _ | apply bl_gw | apply bl_alloc | apply bl_drewN | apply bl_drew))))) | (go_at_call_of 23 f'; exact quiet_gw2 (v := .string (numT f')) (decimal_any f' _ (Nat.le_trans hf' (by decide)) (hN.past (by repeat (first | assumption | exact Below.refl _ _ | apply bl_gw | apply bl_alloc | apply bl_drewN | apply bl_drew))))))) | quiet_step ((first | (go_at_call_of 23 c'; exact quiet_gw2 (v := .string (numT c')) (decimal_any c' _ (Nat.le_trans hc' (by decide)) (hN.past (by repeat (first | assumption | exact Below.refl _ _ | apply bl_gw | apply bl_alloc | apply bl_drewN | apply bl_drew))))) | (go_at_call_of 23 b'; exact quiet_gw2 (v := .string (numT b')) (decimal_any b' _ (Nat.le_trans hb' (by decide)) (hN.past (by repeat (first | assumption | exact Below.refl _ _ | apply bl_gw | apply bl_alloc | apply bl_drewN | apply bl_drew))))) | (go_at_call_of 23 d'; exact quiet_gw2 (v := .string (numT d')) (decimal_any d' _ (Nat.le_trans hd' (by decide)) (hN.past (by repeat (first | assumption | exact Below.refl _ _ | apply bl_gw | apply bl_alloc | apply bl_drewN | apply bl_drew))))) | (go_at_call_of 23 f'; exact quiet_gw2 (v := .string (numT f')) (decimal_any f' _ (Nat.le_trans hf' (by decide)) (hN.past (by repeat (first | assumption | exact Below.refl _ _ | apply bl_gw | apply bl_alloc | apply bl_drewN | apply bl_drew))))))))
      refine wpQuiet_nil ?_
      rintro _ ⟨pq, rfl⟩
      go_wp2_with (go_at_call 23; refine (decimal_any p _ (Nat.le_trans hp' (by decide)) (hN.past (by repeat (first | assumption | exact Below.refl _ _ | apply bl_gw | apply bl_alloc | apply bl_drewN | apply bl_drew)))).mono ?_; rintro x w2 ⟨rfl, hb2⟩; obtain ⟨p2, rfl⟩ := below_gw hb2; clear hb2)
      go_ret2
    · have h1 : ctB ⟨a, b', c', d', e, f', g'⟩ = ctA ⟨a, b', c', d', e, f', g'⟩ ++ ⟨#[32, 111, 114, 32]⟩ ++ numT p := by unfold ctB; rw [if_pos HFI.out]; dsimp only; rw [HP.out, Int.toNat_natCast]
      rw [h1, HA.out]
      exact ⟨by rw [ByteArray.append_assoc (b := ⟨#[32, 111, 114, 32]⟩)]; rfl, (by repeat (first | assumption | exact Below.refl _ _ | apply bl_gw | apply bl_alloc | apply bl_drewN | apply bl_drew))⟩
    · have h1 : ctB ⟨a, b', c', d', e, f', g'⟩ = ctA ⟨a, b', c', d', e, f', g'⟩ := by unfold ctB; rw [if_neg (Int.not_lt.2 HFI.out)]
      rw [h1, HA.out]
      exact ⟨rfl, (by repeat (first | assumption | exact Below.refl _ _ | apply bl_gw | apply bl_alloc | apply bl_drewN | apply bl_drew))⟩
end Go.Proofs.YtcljfdpjlkaagaaDoor
