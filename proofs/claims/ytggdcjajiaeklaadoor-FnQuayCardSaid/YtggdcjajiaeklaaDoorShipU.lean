/- Walks of ships: free days and tons in all. -/
import Derived.Test.YtggdcjajiaeklaaDoorShipS
namespace Go.Proofs.YtggdcjajiaeklaaDoor
open Go.RowKit
def rotaOK (l : List Ship) (wt : List Int) : Bool := areShips l && areWaters wt
def negTo (D : List Int) (k : Nat) : Nat := loopTo (fun i c => if D[i]! < 0 then c + 1 else c) 0 k
theorem negTo_succ (D : List Int) (k : Nat) : negTo D (k + 1) = if D[k]! < 0 then negTo D k + 1 else negTo D k := rfl
theorem negTo_le (D : List Int) : ∀ k, negTo D k ≤ k
  | 0 => Nat.le_refl _
  | k + 1 => by have := negTo_le D k; rw [negTo_succ]; split <;> omega
def freeP (l : List Ship) (wt : List Int) : Int := if rotaOK l wt then (negTo (rotaD l wt wt.length) wt.length : Nat) else 0
def tonsP (l : List Ship) (wt : List Int) : Int := if rotaOK l wt then rotaT l wt wt.length else 0
theorem sumTo_rng {l S : List Ship} (hf : Fuls l S) (hok : ∀ (i : Nat) (x : Ship), l[i]? = some x → shipOK x = true) : ∀ k : Nat, k ≤ l.length → 0 ≤ sumTo l S k ∧ sumTo l S k ≤ 3000 * k
  | 0, _ => by simp [sumTo, loopTo]
  | k + 1, hk => by
    have ih := sumTo_rng hf hok k (by omega)
    have hx : l[k]? = some (l[k]'(by omega)) := List.getElem?_eq_getElem _
    have hy : S[k]? = some (S[k]'(by rw [hf.1]; omega)) := List.getElem?_eq_getElem _
    obtain ⟨_, _, _, _, h5, h6, h7⟩ := hf.2 k _ _ hx hy
    obtain ⟨_, _, _, _, _, ⟨h8, h9⟩, ⟨h10, h11⟩⟩ := shipOK_at (hok k _ hx)
    rw [sumTo_succ, List.getElem!_of_getElem? hx, List.getElem!_of_getElem? hy]
    push_cast
    omega
end Go.Proofs.YtggdcjajiaeklaaDoor
