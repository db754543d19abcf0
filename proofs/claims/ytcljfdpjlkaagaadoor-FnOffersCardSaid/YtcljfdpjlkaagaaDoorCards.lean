/-
  DERIVED. GIVEN WITH THE SEED: THE CARDS: each row of YtcljfdpjlkaagaaDoorRows.lean that lists a variable, with what it lists TIED to the program's text (the seventh form; the later family's looks); each row that meets fmt, with fmt's text TOLD by the authors' own Lean function (tested against real Go, not proved from fmt's source: count such statements apart). THE CARD IS WHAT COUNTS. Prove the row's statement (the work); the ties are given (YtcljfdpjlkaagaaDoorTie.lean); close each card by the builder's one call (the guide's Derived/Test/ToyasCard.lean, 'card_holds'). Laid BY PROGRAM, IN A SANDBOX (cutbox-door.mjs). By AI agents, Wed Nov 11 2026. No macro, syntax, notation, axiom, sorry.
-/
import Derived.Test.YtcljfdpjlkaagaaDoorRows
import GoSem.ClaimSeven
namespace Go.Proofs.YtcljfdpjlkaagaaDoor
namespace Rows

/-- THE TIED CARD OF 'laws.FnExactContractText'. -/
def fnExactContractTextCard : Claim7 := { stood := { row := fnExactContractTextRow, standIns := [], harness := (true, "75755648f36058cd137fd52f879768c9f8629232ef86105c58856b00a654b6d0"), looks := false }, kinds := [], alts := [], laidByText := true, laidKinds := [.data, .data, .data], laidTests := true, laidLooks := .later }
def FnExactContractTextCardSaid : Prop := Claim7.holds Tryd.pinned (.plain (OpenSpec.ofChange fnExactContractTextSpec)) fnExactContractTextCard

/-- THE TIED CARD OF 'laws.FnOffers'. -/
def fnOffersCard : Claim7 := { stood := { row := fnOffersRow, standIns := [], harness := (true, "75755648f36058cd137fd52f879768c9f8629232ef86105c58856b00a654b6d0"), looks := false }, kinds := [], alts := [], laidByText := true, laidKinds := [.data, .data, .data], laidTests := true, laidLooks := .later }
def FnOffersCardSaid : Prop := Claim7.holds Tryd.pinned (.plain (OpenSpec.ofChange fnOffersSpec)) fnOffersCard

/-- THE SECOND FORM's CARD OF 'laws.FnExactContractText'. -/
def fnExactContractTextUptoCard : Claim7 := { stood := { row := fnExactContractTextUptoRow, standIns := [], harness := (true, "75755648f36058cd137fd52f879768c9f8629232ef86105c58856b00a654b6d0"), looks := false }, kinds := [], alts := [], laidByText := true, laidKinds := [.data, .data, .data], laidTests := true, laidLooks := .later }
def FnExactContractTextUptoCardSaid : Prop := Claim7.holds Tryd.pinned (.plain (OpenSpec.upto fnExactContractTextSpec)) fnExactContractTextUptoCard

/-- THE SECOND FORM's CARD OF 'laws.FnOffers'. -/
def fnOffersUptoCard : Claim7 := { stood := { row := fnOffersUptoRow, standIns := [], harness := (true, "75755648f36058cd137fd52f879768c9f8629232ef86105c58856b00a654b6d0"), looks := false }, kinds := [], alts := [], laidByText := true, laidKinds := [.data, .data, .data], laidTests := true, laidLooks := .later }
def FnOffersUptoCardSaid : Prop := Claim7.holds Tryd.pinned (.plain (OpenSpec.upto fnOffersSpec)) fnOffersUptoCard
end Rows
end Go.Proofs.YtcljfdpjlkaagaaDoor
