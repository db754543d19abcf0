/- Contracts: serving one, by the reference; stocks; both programs' ServeOne. -/
import Derived.Test.YtcljfdpjlkaagaaDoorServe
namespace Go.Proofs.YtcljfdpjlkaagaaDoor
open Go.RowKit
def badTons (l : List Int) (i : Nat) : Bool := !(inB l[i]! 0 50000)
def placeI (o : Option Nat) : Int := match o with | some k => k | none => -1
theorem placeI_neg (o : Option Nat) : decide (0 ≤ placeI o) = !o.isNone := by
  cases o with
  | none => rfl
  | some k => simp [placeI]
def stockOK (s : List Int) : Bool := decide (s.length = 4) && (firstTo (badTons s) s.length).isNone
theorem stockOK_in {s : List Int} (h : stockOK s = true) : StockIn s := by
  simp only [stockOK, Bool.and_eq_true, decide_eq_true_eq, Option.isNone_iff_eq_none] at h
  refine ⟨h.1, fun i x hx => ?_⟩
  have := firstTo_none h.2 i (List.getElem?_eq_some_iff.1 hx).1
  simp only [badTons, List.getElem!_of_getElem? hx, Bool.not_eq_false'] at this
  exact inB_true this
def oneOK (s : List Int) (x : Contract) : Bool := stockOK s && contractOK x
def oneS (s : List Int) (x : Contract) : List Int := if oneOK s x then (serveP s x).1 else []
def oneN (s : List Int) (x : Contract) : Int := if oneOK s x then (serveP s x).2 else 0
theorem oneS_length (s : List Int) (x : Contract) : (oneS s x).length ≤ 1000000 := by
  unfold oneS
  split
  · rename_i h
    simp only [oneOK, Bool.and_eq_true] at h
    obtain ⟨_, h2, h3, _⟩ := contractOK_at h.2
    have := (serveTo_in (t := x.tons) (g := x.grade.toNat) (by omega) (by omega) (stockOK_in h.1) x.grade.toNat (Nat.le_refl _)).1.1
    unfold serveP
    omega
  · simp
end Go.Proofs.YtcljfdpjlkaagaaDoor
