/- Contracts: the order in which they are served, by the reference. -/
import Derived.Test.YtcljfdpjlkaagaaDoorServeS
import Derived.Deep.RegionLaw
namespace Go.Proofs.YtcljfdpjlkaagaaDoor
open Go.RowKit
theorem alloc_size (w : World) (o : Obj) : (w.alloc o).heap.size = w.heap.size + 1 := by simp
theorem bl_step1 {B : Nat} {a w : World} (h : Below B a w) (o : Obj) (hB : B ≤ w.heap.size := by omega) : Below B a (w.alloc o) := h.alloc hB o
theorem sl_tail {w w' : World} {g k c : Nat} {S : List Int} (h : Sl encInt w w.heap.size (some ⟨g, 0, none⟩) S) (hS : S.length = k) (hk : k ≤ c) (p : Nat) (hb : Below w.heap.size w w') : Sl encInt w' w.heap.size (if c = p then some ⟨g, 0, none⟩ else some ⟨g, p, none⟩) (S.drop p) := by
  split
  · exact Sl.nil_' (List.drop_eq_nil_of_le (by omega))
  · have := (h.drop_ p).below hb
    simpa [encInt] using this
/-- From k down, while q holds of the place before. -/
def posDown (q : Nat → Bool) : Nat → Nat
  | 0 => 0
  | k + 1 => if q k then posDown q k else k + 1
theorem posDown_le (q : Nat → Bool) : ∀ k, posDown q k ≤ k
  | 0 => Nat.le_refl _
  | k + 1 => by
    have := posDown_le q k
    unfold posDown
    split <;> omega
def insAt {α : Type} (S : List α) (p : Nat) (x : α) : List α := (S.take p ++ [x]) ++ S.drop p
theorem insAt_length {α : Type} (S : List α) (p : Nat) (x : α) : (insAt S p x).length = S.length + 1 := by
  simp [insAt]; omega
def laterP (l : List Contract) (S : List Int) (k : Nat) (j : Nat) : Bool := decide (l[k]!.last < l[S[j]!.toNat]!.last)
def ordTo (l : List Contract) : Nat → List Int
  | 0 => []
  | k + 1 => insAt (ordTo l k) (posDown (laterP l (ordTo l k) k) k) k
theorem ordTo_length (l : List Contract) : ∀ k, (ordTo l k).length = k
  | 0 => rfl
  | k + 1 => by rw [ordTo, insAt_length, ordTo_length l k]
theorem insAt_mem {α : Type} {S : List α} {p : Nat} {x y : α} (h : y ∈ insAt S p x) : y = x ∨ y ∈ S := by
  simp only [insAt, List.mem_append, List.mem_singleton] at h
  rcases h with (h | h) | h
  · exact .inr (List.mem_of_mem_take h)
  · exact .inl h
  · exact .inr (List.mem_of_mem_drop h)
theorem ordTo_rng (l : List Contract) : ∀ k, ∀ x ∈ ordTo l k, 0 ≤ x ∧ x < k
  | 0, x, h => by cases h
  | k + 1, x, h => by
    rcases insAt_mem h with rfl | h
    · omega
    · have := ordTo_rng l k x h; omega
theorem ordTo_at {l : List Contract} {k j : Nat} (hj : j < k) : ∃ q : Nat, q < k ∧ (ordTo l k)[j]? = some (q : Int) := by
  have hx : (ordTo l k)[j]? = some ((ordTo l k)[j]'(by rw [ordTo_length]; exact hj)) := List.getElem?_eq_getElem _
  have := ordTo_rng l k _ (List.getElem_mem (by rw [ordTo_length]; exact hj))
  refine ⟨((ordTo l k)[j]'(by rw [ordTo_length]; exact hj)).toNat, by omega, ?_⟩
  rw [hx]
  congr 1
  omega
end Go.Proofs.YtcljfdpjlkaagaaDoor
