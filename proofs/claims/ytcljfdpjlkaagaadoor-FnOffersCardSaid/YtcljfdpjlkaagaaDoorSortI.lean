/- Contracts: the program's sort of the indices comes to the reference's order. -/
import Derived.Test.YtcljfdpjlkaagaaDoorOrder
import Derived.Laws.OwnMore
namespace Go.Proofs.YtcljfdpjlkaagaaDoor
open Go.RowKit
theorem bl_lower {B : Nat} {w wr w' : World} (_ : w.heap.size ≤ wr.heap.size) (hB : B < w.heap.size) (h : Below wr.heap.size wr w') : Below B wr w' := h.mono (by omega)
def cmpI (a b : Int) : Int := if a < b then -1 else if b < a then 1 else 0
set_option maxHeartbeats 1000000 in
theorem cmpInt_any (a b : Int) (w : World) :
    Calls Tryd.prog 31 #[.int .i64 a, .int .i64 b] w fun e w' => e = .returned (.int .i64 (cmpI a b)) ∧ w = w' := by
  rcases Int.lt_trichotomy a b with h | h | h
  · have e : cmpI a b = -1 := by simp [cmpI, h]
    rw [e]
    go_enter Tryd.func31, Tryd.ntmps31
    go_wp2
    go_ret
    exact ⟨rfl, rfl⟩
  · have e : cmpI a b = 0 := by simp [cmpI, h]
    rw [e]
    subst h
    have h1 : ¬ a < a := by omega
    go_enter Tryd.func31, Tryd.ntmps31
    go_wp2
    go_ret
    exact ⟨rfl, rfl⟩
  · have h1 : ¬ a < b := by omega
    have e : cmpI a b = 1 := by simp [cmpI, h, h1]
    rw [e]
    go_enter Tryd.func31, Tryd.ntmps31
    go_wp2
    go_ret
    exact ⟨rfl, rfl⟩
theorem cmpI_neg (a b : Int) : decide (cmpI a b < 0) = decide (a < b) := by
  unfold cmpI
  split
  · rename_i h; simp [h]
  · rename_i h
    split <;> simp [h]
def iota (n : Nat) : List Int := (List.range n).map fun (i : Nat) => (i : Int)
theorem iota_length (n : Nat) : (iota n).length = n := by simp [iota]
theorem iota_get {n i : Nat} (h : i < n) : (iota n)[i]? = some (i : Int) := by simp [iota, List.getElem?_range h]
theorem iota_drop {n i : Nat} (h : i < n) : (iota n).drop i = (i : Int) :: (iota n).drop (i + 1) := by
  rw [List.drop_eq_getElem_cons (by rw [iota_length]; exact h)]
  congr 1
  have := iota_get h
  rw [List.getElem?_eq_getElem (by rw [iota_length]; exact h)] at this
  exact Option.some.inj this
def dataTo (l : List Contract) (n i : Nat) : List Int := (ordTo l i).take n ++ (iota n).drop i
def midD (l : List Contract) (n i j : Nat) : List Int := insAt (ordTo l i) j (i : Int) ++ (iota n).drop (i + 1)
theorem dataTo_start (l : List Contract) (n : Nat) : dataTo l n 1 = iota n := by
  have e : ordTo l 1 = [0] := rfl
  unfold dataTo
  rw [e]
  rcases n with _ | n
  · rfl
  · rw [List.take_of_length_le (by simp)]
    have := iota_drop (n := n + 1) (i := 0) (by omega)
    rw [List.drop_zero] at this
    rw [this]
    rfl
theorem dataTo_end (l : List Contract) {n i : Nat} (h : n ≤ i) (h1 : i = n ∨ n = 0) : dataTo l n i = ordTo l n := by
  unfold dataTo
  rw [List.drop_eq_nil_of_le (by rw [iota_length]; exact h), List.append_nil]
  rcases h1 with rfl | rfl
  · rw [List.take_of_length_le (by rw [ordTo_length]; exact Nat.le_refl _)]
  · rfl
theorem midD_start (l : List Contract) {n i : Nat} (h : i < n) : midD l n i i = dataTo l n i := by
  unfold midD dataTo insAt
  rw [List.take_of_length_le (by rw [ordTo_length]; exact Nat.le_refl _), List.drop_eq_nil_of_le (by rw [ordTo_length]; exact Nat.le_refl _), List.take_of_length_le (by rw [ordTo_length]; omega), iota_drop h]
  simp
theorem midD_end (l : List Contract) {n i j : Nat} (h : i < n) (hj : posDown (laterP l (ordTo l i) i) i = j) : midD l n i j = dataTo l n (i + 1) := by
  unfold midD dataTo
  rw [List.take_of_length_le (by rw [ordTo_length]; omega), ordTo, hj]
theorem midD_length (l : List Contract) {n i j : Nat} (h : i < n) : (midD l n i j).length = n := by
  unfold midD
  rw [List.length_append, insAt_length, ordTo_length, List.length_drop, iota_length]
  omega
theorem midD_get (l : List Contract) (n : Nat) {i q : Nat} {s : Int} (hq : q < i) (hs : (ordTo l i)[q]? = some s) :
    (midD l n i (q + 1))[q + 1]? = some (i : Int) ∧ (midD l n i (q + 1))[q]? = some s ∧ ((midD l n i (q + 1)).set (q + 1) s).set q (i : Int) = midD l n i q := by
  have hl := ordTo_length l i
  have ht : (ordTo l i).take (q + 1) = (ordTo l i).take q ++ [s] := by
    rw [List.take_add_one, hs]; rfl
  have hd : (ordTo l i).drop q = s :: (ordTo l i).drop (q + 1) := by
    rw [List.drop_eq_getElem_cons (by omega)]
    congr 1
    rw [List.getElem?_eq_getElem (by omega)] at hs
    exact Option.some.inj hs
  have hlt : ((ordTo l i).take q).length = q := by rw [List.length_take]; omega
  have e1 : midD l n i (q + 1) = (ordTo l i).take q ++ (s :: (i : Int) :: ((ordTo l i).drop (q + 1) ++ (iota n).drop (i + 1))) := by
    unfold midD insAt; rw [ht]; simp
  have e2 : midD l n i q = (ordTo l i).take q ++ ((i : Int) :: s :: ((ordTo l i).drop (q + 1) ++ (iota n).drop (i + 1))) := by
    unfold midD insAt; rw [hd]; simp
  rw [e1, e2]
  refine ⟨?_, ?_, ?_⟩
  · rw [List.getElem?_append_right (by omega), hlt]; simp
  · rw [List.getElem?_append_right (by omega), hlt]; simp
  · rw [List.set_append_right _ _ (by omega), hlt, show q + 1 - q = 1 by omega, List.set_append_right _ _ (by omega), hlt, Nat.sub_self]
    rfl
theorem own_made {w : World} {base g n : Nat} {e : TypeId} (h : w.ownsRow base e 1 (.slice (some ⟨g, 0, none⟩) n n) n (madeCells (Value.int .i64 0).cells (n * 1)).toList) : Own encInt w base e (.slice (some ⟨g, 0, none⟩) n n) (List.replicate n 0) := by
  unfold Own
  have e1 : flat encInt (List.replicate n 0) = (madeCells (Value.int .i64 0).cells (n * 1)).toList := by
    rw [show (Value.int .i64 0).cells = #[.int .i64 0] from rfl, toList_madeCells_one]
    simp [flat, encInt, List.flatMap_replicate]
  rw [e1, List.length_replicate]
  exact h
def fillI (n k : Nat) : List Int := (iota n).take k ++ List.replicate (n - k) 0
theorem fillI_zero (n : Nat) : fillI n 0 = List.replicate n 0 := by simp [fillI]
theorem fillI_end (n : Nat) : fillI n n = iota n := by
  unfold fillI
  rw [List.take_of_length_le (by rw [iota_length]; exact Nat.le_refl _), Nat.sub_self]
  simp
theorem fillI_set {n k : Nat} (h : k < n) : (fillI n k).set k (k : Int) = fillI n (k + 1) := by
  have ht : (iota n).take (k + 1) = (iota n).take k ++ [(k : Int)] := by
    rw [List.take_add_one, iota_get h]; rfl
  have hlt : ((iota n).take k).length = k := by rw [List.length_take, iota_length]; omega
  unfold fillI
  rw [ht, List.set_append_right _ _ (by omega), hlt, Nat.sub_self, show n - k = (n - (k + 1)) + 1 by omega, List.replicate_succ]
  simp
theorem fillI_length {n k : Nat} (h : k ≤ n) : (fillI n k).length = n := by
  unfold fillI
  rw [List.length_append, List.length_take, iota_length, List.length_replicate]; omega
end Go.Proofs.YtcljfdpjlkaagaaDoor
