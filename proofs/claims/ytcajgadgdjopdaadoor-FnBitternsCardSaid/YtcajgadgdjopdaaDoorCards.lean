/-
  DERIVED. GIVEN WITH THE SEED: THE CARDS: each row of YtcajgadgdjopdaaDoorRows.lean that lists a variable, with what it lists TIED to the program's text (the seventh form; the later family's looks); each row that meets fmt, with fmt's text TOLD by the authors' own Lean function (tested against real Go, not proved from fmt's source: count such statements apart). THE CARD IS WHAT COUNTS. Prove the row's statement (the work); the ties are given (YtcajgadgdjopdaaDoorTie.lean); close each card by the builder's one call (the guide's Derived/Test/ToyasCard.lean, 'card_holds'). Laid BY PROGRAM, IN A SANDBOX (cutbox-door.mjs). By AI agents, Wed Nov 11 2026. No macro, syntax, notation, axiom, sorry.
-/
import Derived.Test.YtcajgadgdjopdaaDoorRows
import GoSem.ClaimSeven
namespace Go.Proofs.YtcajgadgdjopdaaDoor
namespace Rows

/-- THE TIED CARD OF 'laws.FnBitterns'. -/
def fnBitternsCard : Claim7 := { stood := { row := fnBitternsRow, standIns := [], harness := (true, "883e6a0597465afb82b40549586da6d9c2bcec85eae5bcac872813e253d6a843"), looks := false }, kinds := [], alts := [], laidByText := true, laidKinds := [.data, .data, .data], laidTests := true, laidLooks := .later }
def FnBitternsCardSaid : Prop := Claim7.holds Tryd.pinned (.plain (OpenSpec.ofChange fnBitternsSpec)) fnBitternsCard

/-- THE SECOND FORM's CARD OF 'laws.FnBitterns'. -/
def fnBitternsUptoCard : Claim7 := { stood := { row := fnBitternsUptoRow, standIns := [], harness := (true, "883e6a0597465afb82b40549586da6d9c2bcec85eae5bcac872813e253d6a843"), looks := false }, kinds := [], alts := [], laidByText := true, laidKinds := [.data, .data, .data], laidTests := true, laidLooks := .later }
def FnBitternsUptoCardSaid : Prop := Claim7.holds Tryd.pinned (.plain (OpenSpec.upto fnBitternsSpec)) fnBitternsUptoCard
end Rows
end Go.Proofs.YtcajgadgdjopdaaDoor
