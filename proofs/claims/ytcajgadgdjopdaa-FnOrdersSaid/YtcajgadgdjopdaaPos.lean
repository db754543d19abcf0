/- A place found from above; an element put in at a place; numbers compared. -/
import Derived.Test.YtcajgadgdjopdaaProg
import Derived.Test.YtcajgadgdjopdaaBase
namespace Go.Proofs.Ytcajgadgdjopdaa
open Go.RowKit
/-- From k down, while q holds of the place before. -/
def posDown (q : Nat → Bool) : Nat → Nat
  | 0 => 0
  | k + 1 => if q k then posDown q k else k + 1
theorem posDown_le (q : Nat → Bool) : ∀ k, posDown q k ≤ k
  | 0 => Nat.le_refl _
  | k + 1 => by
    have := posDown_le q k
    unfold posDown
    split <;> omega
def insAt {α : Type} (S : List α) (p : Nat) (x : α) : List α := (S.take p ++ [x]) ++ S.drop p
theorem insAt_length {α : Type} (S : List α) (p : Nat) (x : α) : (insAt S p x).length = S.length + 1 := by
  simp [insAt]; omega
theorem insAt_mem {α : Type} {S : List α} {p : Nat} {x y : α} (h : y ∈ insAt S p x) : y = x ∨ y ∈ S := by
  simp only [insAt, List.mem_append, List.mem_singleton] at h
  rcases h with (h | h) | h
  · exact .inr (List.mem_of_mem_take h)
  · exact .inl h
  · exact .inr (List.mem_of_mem_drop h)
theorem posDown_congr {p q : Nat → Bool} : ∀ {k : Nat}, (∀ j, j < k → p j = q j) → posDown p k = posDown q k
  | 0, _ => rfl
  | k + 1, h => by
    unfold posDown
    rw [h k (by omega), posDown_congr (fun j hj => h j (by omega))]
def cmpI (a b : Int) : Int := if a < b then -1 else if b < a then 1 else 0
set_option maxHeartbeats 1000000 in
theorem cmpInt_any (a b : Int) (w : World) :
    Calls Try.prog 47 #[.int .i64 a, .int .i64 b] w fun e w' => e = .returned (.int .i64 (cmpI a b)) ∧ w = w' := by
  rcases Int.lt_trichotomy a b with h | h | h
  · have e : cmpI a b = -1 := by simp [cmpI, h]
    rw [e]
    go_enter Try.func47, Try.ntmps47
    go_wp2
    go_ret
    exact ⟨rfl, rfl⟩
  · have e : cmpI a b = 0 := by simp [cmpI, h]
    rw [e]
    subst h
    have h1 : ¬ a < a := by omega
    go_enter Try.func47, Try.ntmps47
    go_wp2
    go_ret
    exact ⟨rfl, rfl⟩
  · have h1 : ¬ a < b := by omega
    have e : cmpI a b = 1 := by simp [cmpI, h, h1]
    rw [e]
    go_enter Try.func47, Try.ntmps47
    go_wp2
    go_ret
    exact ⟨rfl, rfl⟩
theorem cmpI_neg (a b : Int) : decide (cmpI a b < 0) = decide (a < b) := by
  unfold cmpI
  split
  · rename_i h; simp [h]
  · rename_i h
    split <;> simp [h]
end Go.Proofs.Ytcajgadgdjopdaa
