/- Walks of ships: late ships and the rota of the quay. -/
import Derived.Test.YtggdcjajiaeklaaDoorShipU
namespace Go.Proofs.YtggdcjajiaeklaaDoor
open Go.RowKit
def lateTo (S : List Ship) (k : Nat) : List Int := loopTo (fun i acc => if S[i]!.loaded < S[i]!.holds then acc ++ [S[i]!.id] else acc) [] k
theorem lateTo_succ (S : List Ship) (k : Nat) : lateTo S (k + 1) = if S[k]!.loaded < S[k]!.holds then lateTo S k ++ [S[k]!.id] else lateTo S k := rfl
theorem lateTo_length (S : List Ship) : ∀ k, (lateTo S k).length ≤ k
  | 0 => Nat.le_refl _
  | k + 1 => by have := lateTo_length S k; rw [lateTo_succ]; split <;> simp <;> omega
def lateP (l : List Ship) (wt : List Int) : List Int := if rotaOK l wt then lateTo (rotaS l wt wt.length) l.length else []
def ridAt (l : List Ship) (b : Int) : Int := if b < 0 then 0 else l[b.toNat]!.id
def ridTo (l : List Ship) (D : List Int) (k : Nat) : List Int := loopTo (fun i acc => acc ++ [ridAt l D[i]!]) [] k
theorem ridTo_succ (l : List Ship) (D : List Int) (k : Nat) : ridTo l D (k + 1) = ridTo l D k ++ [ridAt l D[k]!] := rfl
theorem ridTo_length (l : List Ship) (D : List Int) : ∀ k, (ridTo l D k).length = k
  | 0 => rfl
  | k + 1 => by rw [ridTo_succ, List.length_append, ridTo_length l D k]; rfl
def quayP (l : List Ship) (wt : List Int) : List Int := if rotaOK l wt then ridTo l (rotaD l wt wt.length) wt.length else []
theorem rotaOK_len {l : List Ship} {wt : List Int} (h : rotaOK l wt = true) : l.length ≤ 8 ∧ wt.length ≤ 400 := by
  simp only [rotaOK, Bool.and_eq_true] at h
  exact ⟨areShips_len h.1, areWaters_len h.2⟩
theorem lateP_length (l : List Ship) (wt : List Int) : (lateP l wt).length ≤ 1000000 := by
  unfold lateP
  split
  · rename_i h
    have := rotaOK_len h
    have := lateTo_length (rotaS l wt wt.length) l.length
    omega
  · simp
theorem quayP_length (l : List Ship) (wt : List Int) : (quayP l wt).length ≤ 1000000 := by
  unfold quayP
  split
  · rename_i h
    have := rotaOK_len h
    rw [ridTo_length]
    omega
  · simp
theorem rotaD_get (l : List Ship) (wt : List Int) : ∀ m k, k < m → (rotaD l wt m)[k]? = some (rotaB l wt k)
  | 0, k, h => by omega
  | m + 1, k, h => by
    rw [rotaD]
    by_cases hk : k < m
    · rw [List.getElem?_append_left (by rw [rotaD_length]; exact hk)]
      exact rotaD_get l wt m k hk
    · obtain rfl : k = m := by omega
      rw [List.getElem?_append_right (by rw [rotaD_length]; exact Nat.le_refl _), rotaD_length]
      simp
end Go.Proofs.YtggdcjajiaeklaaDoor
