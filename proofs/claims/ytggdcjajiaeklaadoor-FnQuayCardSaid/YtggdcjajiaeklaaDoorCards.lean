/-
  DERIVED. GIVEN WITH THE SEED: THE CARDS: each row of YtggdcjajiaeklaaDoorRows.lean that lists a variable, with what it lists TIED to the program's text (the seventh form; the later family's looks); each row that meets fmt, with fmt's text TOLD by the authors' own Lean function (tested against real Go, not proved from fmt's source: count such statements apart). THE CARD IS WHAT COUNTS. Prove the row's statement (the work); the ties are given (YtggdcjajiaeklaaDoorTie.lean); close each card by the builder's one call (the guide's Derived/Test/ToyasCard.lean, 'card_holds'). Laid BY PROGRAM, IN A SANDBOX (cutbox-door.mjs). By AI agents, Wed Nov 11 2026. No macro, syntax, notation, axiom, sorry.
-/
import Derived.Test.YtggdcjajiaeklaaDoorRows
import GoSem.ClaimSeven
namespace Go.Proofs.YtggdcjajiaeklaaDoor
namespace Rows

/-- THE TIED CARD OF 'laws.FnExactShipText'. -/
def fnExactShipTextCard : Claim7 := { stood := { row := fnExactShipTextRow, standIns := [], harness := (true, "31d05dbefec3561b5862c1e310737b47f217a149d07e1c44834ac6454615d54b"), looks := false }, kinds := [], alts := [], laidByText := true, laidKinds := [.data, .data, .data], laidTests := true, laidLooks := .later }
def FnExactShipTextCardSaid : Prop := Claim7.holds Tryd.pinned (.plain (OpenSpec.ofChange fnExactShipTextSpec)) fnExactShipTextCard

/-- THE TIED CARD OF 'laws.FnQuay'. -/
def fnQuayCard : Claim7 := { stood := { row := fnQuayRow, standIns := [], harness := (true, "31d05dbefec3561b5862c1e310737b47f217a149d07e1c44834ac6454615d54b"), looks := false }, kinds := [], alts := [], laidByText := true, laidKinds := [.data, .data, .data], laidTests := true, laidLooks := .later }
def FnQuayCardSaid : Prop := Claim7.holds Tryd.pinned (.plain (OpenSpec.ofChange fnQuaySpec)) fnQuayCard

/-- THE SECOND FORM's CARD OF 'laws.FnExactShipText'. -/
def fnExactShipTextUptoCard : Claim7 := { stood := { row := fnExactShipTextUptoRow, standIns := [], harness := (true, "31d05dbefec3561b5862c1e310737b47f217a149d07e1c44834ac6454615d54b"), looks := false }, kinds := [], alts := [], laidByText := true, laidKinds := [.data, .data, .data], laidTests := true, laidLooks := .later }
def FnExactShipTextUptoCardSaid : Prop := Claim7.holds Tryd.pinned (.plain (OpenSpec.upto fnExactShipTextSpec)) fnExactShipTextUptoCard

/-- THE SECOND FORM's CARD OF 'laws.FnQuay'. -/
def fnQuayUptoCard : Claim7 := { stood := { row := fnQuayUptoRow, standIns := [], harness := (true, "31d05dbefec3561b5862c1e310737b47f217a149d07e1c44834ac6454615d54b"), looks := false }, kinds := [], alts := [], laidByText := true, laidKinds := [.data, .data, .data], laidTests := true, laidLooks := .later }
def FnQuayUptoCardSaid : Prop := Claim7.holds Tryd.pinned (.plain (OpenSpec.upto fnQuaySpec)) fnQuayUptoCard
end Rows
end Go.Proofs.YtggdcjajiaeklaaDoor
