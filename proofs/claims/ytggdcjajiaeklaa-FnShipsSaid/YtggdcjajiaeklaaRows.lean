/-
  No cell of these rows narrows 'for every input' (looked for: loops, veiled, ifaces, maps, wideKeys, modest, calm, conditions, laid).
  DERIVED. THE GIVEN ROWS OF THIS SEAT. 11 by the template 'for every input the law returns true; each argument reads behind the call as it read before'; 0 by the template 'total and deterministic' (their statements: YtggdcjajiaeklaaTotals.lean).
  GIVEN WITH THE SEED: the statements are not yours to turn. If you find one false, say at which input.
  Laid BY PROGRAM, IN A SANDBOX (cutbox-rows.mjs): the forced cells as the released guide's own fill.sh prints them over the translation 40c6552ed3d642f3… (all of the seat's roots in one cut). By AI agents, Wed Nov 11 2026. No macro, syntax, notation, axiom, sorry.
-/
import Derived.Test.YtggdcjajiaeklaaChecked
import GoSem.Claim
import GoSem.ClaimJoined
import GoSem.ClaimMapViews
import Derived.JoinedTies
import Derived.KernelRfl
namespace Go.Proofs.Ytggdcjajiaeklaa
/- THE CELL 'sum', in the pinned program and in every row, IS THE sha256 OF THE DUMP (.gsa) THAT YtggdcjajiaeklaaProg.lean LOADS. Nothing in Lean hashes anything: it is a label: what it is worth is what the hold of that sum in a sandbox is worth. -/
noncomputable def Try.pinned : Pinned := { name := "ytggdcjajiaeklaa", sum := "40c6552ed3d642f30f2e17211f32a40cf437ba5d9d91b69c09f640bd690024cf", checked := Try.checked }
namespace Rows
def none {H : Type} : Left H := { results := [], args := [] }

/-- 'laws.FnExactIsShip': WHATEVER THE INPUT: true; the input reads as it did. -/
def fnExactIsShipSpec : ChangeSpec := { name := "fnExactIsShip", fn := fun _ => fun
  | [d] => { results := [.lit (.bool true)], args := [d] }
  | _ => none }
def fnExactIsShipRow : OpenClaim := { program := "ytggdcjajiaeklaa", sum := "40c6552ed3d642f30f2e17211f32a40cf437ba5d9d91b69c09f640bd690024cf", func := "loop.example/g01019/laws.FnExactIsShip", spec := "fnExactIsShip", apart := false }
def FnExactIsShipSaid : Prop := fnExactIsShipRow.holds Try.pinned (OpenSpec.ofChange fnExactIsShipSpec)

/-- ITS FALSE NEIGHBOUR: 'it returns false'. Refute it at one input. -/
def fnExactIsShipWrong : ChangeSpec := { name := "fnExactIsShip", fn := fun _ => fun
  | [d] => { results := [.lit (.bool false)], args := [d] }
  | _ => none }
def FnExactIsShipWrongFalsely : Prop := fnExactIsShipRow.holds Try.pinned (OpenSpec.ofChange fnExactIsShipWrong)

/-- 'laws.FnExactAreShips': WHATEVER THE INPUT: true; the input reads as it did. -/
def fnExactAreShipsSpec : ChangeSpec := { name := "fnExactAreShips", fn := fun _ => fun
  | [d] => { results := [.lit (.bool true)], args := [d] }
  | _ => none }
def fnExactAreShipsRow : OpenClaim := { program := "ytggdcjajiaeklaa", sum := "40c6552ed3d642f30f2e17211f32a40cf437ba5d9d91b69c09f640bd690024cf", func := "loop.example/g01019/laws.FnExactAreShips", spec := "fnExactAreShips", unfollowed := true, recurses := true, apart := false }
def FnExactAreShipsSaid : Prop := fnExactAreShipsRow.holds Try.pinned (OpenSpec.ofChange fnExactAreShipsSpec)

/-- ITS FALSE NEIGHBOUR: 'it returns false'. Refute it at one input. -/
def fnExactAreShipsWrong : ChangeSpec := { name := "fnExactAreShips", fn := fun _ => fun
  | [d] => { results := [.lit (.bool false)], args := [d] }
  | _ => none }
def FnExactAreShipsWrongFalsely : Prop := fnExactAreShipsRow.holds Try.pinned (OpenSpec.ofChange fnExactAreShipsWrong)

/-- 'laws.FnExactSendShip': WHATEVER THE INPUT: true; the input reads as it did. -/
def fnExactSendShipSpec : ChangeSpec := { name := "fnExactSendShip", fn := fun _ => fun
  | [d1, d2] => { results := [.lit (.bool true)], args := [d1, d2] }
  | _ => none }
def fnExactSendShipRow : OpenClaim := { program := "ytggdcjajiaeklaa", sum := "40c6552ed3d642f30f2e17211f32a40cf437ba5d9d91b69c09f640bd690024cf", func := "loop.example/g01019/laws.FnExactSendShip", spec := "fnExactSendShip", unfollowed := true, recurses := true, apart := false }
def FnExactSendShipSaid : Prop := fnExactSendShipRow.holds Try.pinned (OpenSpec.ofChange fnExactSendShipSpec)

/-- ITS FALSE NEIGHBOUR: 'it returns false'. Refute it at one input. -/
def fnExactSendShipWrong : ChangeSpec := { name := "fnExactSendShip", fn := fun _ => fun
  | [d1, d2] => { results := [.lit (.bool false)], args := [d1, d2] }
  | _ => none }
def FnExactSendShipWrongFalsely : Prop := fnExactSendShipRow.holds Try.pinned (OpenSpec.ofChange fnExactSendShipWrong)

/-- 'laws.FnExactNeededWater': WHATEVER THE INPUT: true; the input reads as it did. -/
def fnExactNeededWaterSpec : ChangeSpec := { name := "fnExactNeededWater", fn := fun _ => fun
  | [d] => { results := [.lit (.bool true)], args := [d] }
  | _ => none }
def fnExactNeededWaterRow : OpenClaim := { program := "ytggdcjajiaeklaa", sum := "40c6552ed3d642f30f2e17211f32a40cf437ba5d9d91b69c09f640bd690024cf", func := "loop.example/g01019/laws.FnExactNeededWater", spec := "fnExactNeededWater", unfollowed := true, recurses := true, apart := false }
def FnExactNeededWaterSaid : Prop := fnExactNeededWaterRow.holds Try.pinned (OpenSpec.ofChange fnExactNeededWaterSpec)

/-- ITS FALSE NEIGHBOUR: 'it returns false'. Refute it at one input. -/
def fnExactNeededWaterWrong : ChangeSpec := { name := "fnExactNeededWater", fn := fun _ => fun
  | [d] => { results := [.lit (.bool false)], args := [d] }
  | _ => none }
def FnExactNeededWaterWrongFalsely : Prop := fnExactNeededWaterRow.holds Try.pinned (OpenSpec.ofChange fnExactNeededWaterWrong)

/-- 'laws.FnExactDaysAtQuay': WHATEVER THE INPUT: true; the input reads as it did. -/
def fnExactDaysAtQuaySpec : ChangeSpec := { name := "fnExactDaysAtQuay", fn := fun _ => fun
  | [d1, d2, d3] => { results := [.lit (.bool true)], args := [d1, d2, d3] }
  | _ => none }
def fnExactDaysAtQuayRow : OpenClaim := { program := "ytggdcjajiaeklaa", sum := "40c6552ed3d642f30f2e17211f32a40cf437ba5d9d91b69c09f640bd690024cf", func := "loop.example/g01019/laws.FnExactDaysAtQuay", spec := "fnExactDaysAtQuay", unfollowed := true, recurses := true, apart := false }
def FnExactDaysAtQuaySaid : Prop := fnExactDaysAtQuayRow.holds Try.pinned (OpenSpec.ofChange fnExactDaysAtQuaySpec)

/-- ITS FALSE NEIGHBOUR: 'it returns false'. Refute it at one input. -/
def fnExactDaysAtQuayWrong : ChangeSpec := { name := "fnExactDaysAtQuay", fn := fun _ => fun
  | [d1, d2, d3] => { results := [.lit (.bool false)], args := [d1, d2, d3] }
  | _ => none }
def FnExactDaysAtQuayWrongFalsely : Prop := fnExactDaysAtQuayRow.holds Try.pinned (OpenSpec.ofChange fnExactDaysAtQuayWrong)

/-- 'laws.FnExactLoadedBy': WHATEVER THE INPUT: true; the input reads as it did. -/
def fnExactLoadedBySpec : ChangeSpec := { name := "fnExactLoadedBy", fn := fun _ => fun
  | [d1, d2, d3, d4] => { results := [.lit (.bool true)], args := [d1, d2, d3, d4] }
  | _ => none }
def fnExactLoadedByRow : OpenClaim := { program := "ytggdcjajiaeklaa", sum := "40c6552ed3d642f30f2e17211f32a40cf437ba5d9d91b69c09f640bd690024cf", func := "loop.example/g01019/laws.FnExactLoadedBy", spec := "fnExactLoadedBy", unfollowed := true, recurses := true, apart := false }
def FnExactLoadedBySaid : Prop := fnExactLoadedByRow.holds Try.pinned (OpenSpec.ofChange fnExactLoadedBySpec)

/-- ITS FALSE NEIGHBOUR: 'it returns false'. Refute it at one input. -/
def fnExactLoadedByWrong : ChangeSpec := { name := "fnExactLoadedBy", fn := fun _ => fun
  | [d1, d2, d3, d4] => { results := [.lit (.bool false)], args := [d1, d2, d3, d4] }
  | _ => none }
def FnExactLoadedByWrongFalsely : Prop := fnExactLoadedByRow.holds Try.pinned (OpenSpec.ofChange fnExactLoadedByWrong)

/-- 'laws.FnExactTonsInAll': WHATEVER THE INPUT: true; the input reads as it did. -/
def fnExactTonsInAllSpec : ChangeSpec := { name := "fnExactTonsInAll", fn := fun _ => fun
  | [d1, d2] => { results := [.lit (.bool true)], args := [d1, d2] }
  | _ => none }
def fnExactTonsInAllRow : OpenClaim := { program := "ytggdcjajiaeklaa", sum := "40c6552ed3d642f30f2e17211f32a40cf437ba5d9d91b69c09f640bd690024cf", func := "loop.example/g01019/laws.FnExactTonsInAll", spec := "fnExactTonsInAll", unfollowed := true, recurses := true, apart := false }
def FnExactTonsInAllSaid : Prop := fnExactTonsInAllRow.holds Try.pinned (OpenSpec.ofChange fnExactTonsInAllSpec)

/-- ITS FALSE NEIGHBOUR: 'it returns false'. Refute it at one input. -/
def fnExactTonsInAllWrong : ChangeSpec := { name := "fnExactTonsInAll", fn := fun _ => fun
  | [d1, d2] => { results := [.lit (.bool false)], args := [d1, d2] }
  | _ => none }
def FnExactTonsInAllWrongFalsely : Prop := fnExactTonsInAllRow.holds Try.pinned (OpenSpec.ofChange fnExactTonsInAllWrong)

/-- 'laws.FnExactFreeDays': WHATEVER THE INPUT: true; the input reads as it did. -/
def fnExactFreeDaysSpec : ChangeSpec := { name := "fnExactFreeDays", fn := fun _ => fun
  | [d1, d2] => { results := [.lit (.bool true)], args := [d1, d2] }
  | _ => none }
def fnExactFreeDaysRow : OpenClaim := { program := "ytggdcjajiaeklaa", sum := "40c6552ed3d642f30f2e17211f32a40cf437ba5d9d91b69c09f640bd690024cf", func := "loop.example/g01019/laws.FnExactFreeDays", spec := "fnExactFreeDays", unfollowed := true, recurses := true, apart := false }
def FnExactFreeDaysSaid : Prop := fnExactFreeDaysRow.holds Try.pinned (OpenSpec.ofChange fnExactFreeDaysSpec)

/-- ITS FALSE NEIGHBOUR: 'it returns false'. Refute it at one input. -/
def fnExactFreeDaysWrong : ChangeSpec := { name := "fnExactFreeDays", fn := fun _ => fun
  | [d1, d2] => { results := [.lit (.bool false)], args := [d1, d2] }
  | _ => none }
def FnExactFreeDaysWrongFalsely : Prop := fnExactFreeDaysRow.holds Try.pinned (OpenSpec.ofChange fnExactFreeDaysWrong)

/-- 'laws.FnExactLateShips': WHATEVER THE INPUT: true; the input reads as it did. -/
def fnExactLateShipsSpec : ChangeSpec := { name := "fnExactLateShips", fn := fun _ => fun
  | [d1, d2] => { results := [.lit (.bool true)], args := [d1, d2] }
  | _ => none }
def fnExactLateShipsRow : OpenClaim := { program := "ytggdcjajiaeklaa", sum := "40c6552ed3d642f30f2e17211f32a40cf437ba5d9d91b69c09f640bd690024cf", func := "loop.example/g01019/laws.FnExactLateShips", spec := "fnExactLateShips", unfollowed := true, recurses := true, apart := false }
def FnExactLateShipsSaid : Prop := fnExactLateShipsRow.holds Try.pinned (OpenSpec.ofChange fnExactLateShipsSpec)

/-- ITS FALSE NEIGHBOUR: 'it returns false'. Refute it at one input. -/
def fnExactLateShipsWrong : ChangeSpec := { name := "fnExactLateShips", fn := fun _ => fun
  | [d1, d2] => { results := [.lit (.bool false)], args := [d1, d2] }
  | _ => none }
def FnExactLateShipsWrongFalsely : Prop := fnExactLateShipsRow.holds Try.pinned (OpenSpec.ofChange fnExactLateShipsWrong)

/-- 'laws.FnExactQuayRota': WHATEVER THE INPUT: true; the input reads as it did. -/
def fnExactQuayRotaSpec : ChangeSpec := { name := "fnExactQuayRota", fn := fun _ => fun
  | [d1, d2] => { results := [.lit (.bool true)], args := [d1, d2] }
  | _ => none }
def fnExactQuayRotaRow : OpenClaim := { program := "ytggdcjajiaeklaa", sum := "40c6552ed3d642f30f2e17211f32a40cf437ba5d9d91b69c09f640bd690024cf", func := "loop.example/g01019/laws.FnExactQuayRota", spec := "fnExactQuayRota", unfollowed := true, recurses := true, apart := false }
def FnExactQuayRotaSaid : Prop := fnExactQuayRotaRow.holds Try.pinned (OpenSpec.ofChange fnExactQuayRotaSpec)

/-- ITS FALSE NEIGHBOUR: 'it returns false'. Refute it at one input. -/
def fnExactQuayRotaWrong : ChangeSpec := { name := "fnExactQuayRota", fn := fun _ => fun
  | [d1, d2] => { results := [.lit (.bool false)], args := [d1, d2] }
  | _ => none }
def FnExactQuayRotaWrongFalsely : Prop := fnExactQuayRotaRow.holds Try.pinned (OpenSpec.ofChange fnExactQuayRotaWrong)

/-- 'laws.FnShips': WHATEVER THE INPUT: true; the input reads as it did. -/
def fnShipsSpec : ChangeSpec := { name := "fnShips", fn := fun _ => fun
  | [d] => { results := [.lit (.bool true)], args := [d] }
  | _ => none }
def fnShipsRow : OpenClaim := { program := "ytggdcjajiaeklaa", sum := "40c6552ed3d642f30f2e17211f32a40cf437ba5d9d91b69c09f640bd690024cf", func := "loop.example/g01019/laws.FnShips", spec := "fnShips", unfollowed := true, recurses := true, apart := false }
def FnShipsSaid : Prop := fnShipsRow.holds Try.pinned (OpenSpec.ofChange fnShipsSpec)

/-- ITS FALSE NEIGHBOUR: 'it returns false'. Refute it at one input. -/
def fnShipsWrong : ChangeSpec := { name := "fnShips", fn := fun _ => fun
  | [d] => { results := [.lit (.bool false)], args := [d] }
  | _ => none }
def FnShipsWrongFalsely : Prop := fnShipsRow.holds Try.pinned (OpenSpec.ofChange fnShipsWrong)

/- THE SECOND FORM. 'bulk': how many values and letters a reading holds, each counted each time it is reached (what is shared counts as often as it is met; a slice's spare places count too). A statement '..UptoSaid' is the law's where the arguments, and the package variables that the reading takes, are together of bulk at most 1048576: NARROWER than '..Said'. Prove '..Said' where nothing that the law and all that it calls make is longer than what came in: it says more and counts as full. Else prove '..UptoSaid'. A law counts once. -/
mutual
def uptoBulk {H : Type} : DataW H → Nat
  | .lit (.string bytes) => bytes.length + 1
  | .lit _ => 1
  | .nil => 1
  | .ptr d => uptoBulk d + 1
  | .slice elems spare => uptoBulkAll elems + uptoBulkAll spare + 1
  | .agg parts => uptoBulkAll parts + 1
  | .iface _ d => uptoBulk d + 1
  | .map entries => uptoBulkEntries entries + 1
  | .held _ => 1
def uptoBulkAll {H : Type} : List (DataW H) → Nat
  | [] => 0
  | d :: r => uptoBulk d + uptoBulkAll r
def uptoBulkEntries {H : Type} : List (Lit × DataW H) → Nat
  | [] => 0
  | x :: r => uptoBulkEntry x + uptoBulkEntries r
def uptoBulkEntry {H : Type} : Lit × DataW H → Nat
  | (.string bytes, d) => bytes.length + uptoBulk d + 1
  | (_, d) => uptoBulk d + 1
 end
def uptoSmall : (H : Type) → List (DataW H) → Bool := fun _ ds => decide (uptoBulkAll ds ≤ 1048576)
def OpenSpec.upto (s : _root_.Go.ChangeSpec) : _root_.Go.OpenSpec := { _root_.Go.OpenSpec.ofChange s with cond := some uptoSmall }

/-- 'laws.FnExactIsShip', WHERE WHAT IT READS IS OF BULK AT MOST 1048576: true; the input reads as it did. -/
def fnExactIsShipUptoRow : OpenClaim := { program := "ytggdcjajiaeklaa", sum := "40c6552ed3d642f30f2e17211f32a40cf437ba5d9d91b69c09f640bd690024cf", func := "loop.example/g01019/laws.FnExactIsShip", spec := "fnExactIsShip", apart := false, narrowed := true }
def FnExactIsShipUptoSaid : Prop := fnExactIsShipUptoRow.holds Try.pinned (OpenSpec.upto fnExactIsShipSpec)

/-- 'laws.FnExactAreShips', WHERE WHAT IT READS IS OF BULK AT MOST 1048576: true; the input reads as it did. -/
def fnExactAreShipsUptoRow : OpenClaim := { program := "ytggdcjajiaeklaa", sum := "40c6552ed3d642f30f2e17211f32a40cf437ba5d9d91b69c09f640bd690024cf", func := "loop.example/g01019/laws.FnExactAreShips", spec := "fnExactAreShips", unfollowed := true, recurses := true, apart := false, narrowed := true }
def FnExactAreShipsUptoSaid : Prop := fnExactAreShipsUptoRow.holds Try.pinned (OpenSpec.upto fnExactAreShipsSpec)

/-- 'laws.FnExactSendShip', WHERE WHAT IT READS IS OF BULK AT MOST 1048576: true; the input reads as it did. -/
def fnExactSendShipUptoRow : OpenClaim := { program := "ytggdcjajiaeklaa", sum := "40c6552ed3d642f30f2e17211f32a40cf437ba5d9d91b69c09f640bd690024cf", func := "loop.example/g01019/laws.FnExactSendShip", spec := "fnExactSendShip", unfollowed := true, recurses := true, apart := false, narrowed := true }
def FnExactSendShipUptoSaid : Prop := fnExactSendShipUptoRow.holds Try.pinned (OpenSpec.upto fnExactSendShipSpec)

/-- 'laws.FnExactNeededWater', WHERE WHAT IT READS IS OF BULK AT MOST 1048576: true; the input reads as it did. -/
def fnExactNeededWaterUptoRow : OpenClaim := { program := "ytggdcjajiaeklaa", sum := "40c6552ed3d642f30f2e17211f32a40cf437ba5d9d91b69c09f640bd690024cf", func := "loop.example/g01019/laws.FnExactNeededWater", spec := "fnExactNeededWater", unfollowed := true, recurses := true, apart := false, narrowed := true }
def FnExactNeededWaterUptoSaid : Prop := fnExactNeededWaterUptoRow.holds Try.pinned (OpenSpec.upto fnExactNeededWaterSpec)

/-- 'laws.FnExactDaysAtQuay', WHERE WHAT IT READS IS OF BULK AT MOST 1048576: true; the input reads as it did. -/
def fnExactDaysAtQuayUptoRow : OpenClaim := { program := "ytggdcjajiaeklaa", sum := "40c6552ed3d642f30f2e17211f32a40cf437ba5d9d91b69c09f640bd690024cf", func := "loop.example/g01019/laws.FnExactDaysAtQuay", spec := "fnExactDaysAtQuay", unfollowed := true, recurses := true, apart := false, narrowed := true }
def FnExactDaysAtQuayUptoSaid : Prop := fnExactDaysAtQuayUptoRow.holds Try.pinned (OpenSpec.upto fnExactDaysAtQuaySpec)

/-- 'laws.FnExactLoadedBy', WHERE WHAT IT READS IS OF BULK AT MOST 1048576: true; the input reads as it did. -/
def fnExactLoadedByUptoRow : OpenClaim := { program := "ytggdcjajiaeklaa", sum := "40c6552ed3d642f30f2e17211f32a40cf437ba5d9d91b69c09f640bd690024cf", func := "loop.example/g01019/laws.FnExactLoadedBy", spec := "fnExactLoadedBy", unfollowed := true, recurses := true, apart := false, narrowed := true }
def FnExactLoadedByUptoSaid : Prop := fnExactLoadedByUptoRow.holds Try.pinned (OpenSpec.upto fnExactLoadedBySpec)

/-- 'laws.FnExactTonsInAll', WHERE WHAT IT READS IS OF BULK AT MOST 1048576: true; the input reads as it did. -/
def fnExactTonsInAllUptoRow : OpenClaim := { program := "ytggdcjajiaeklaa", sum := "40c6552ed3d642f30f2e17211f32a40cf437ba5d9d91b69c09f640bd690024cf", func := "loop.example/g01019/laws.FnExactTonsInAll", spec := "fnExactTonsInAll", unfollowed := true, recurses := true, apart := false, narrowed := true }
def FnExactTonsInAllUptoSaid : Prop := fnExactTonsInAllUptoRow.holds Try.pinned (OpenSpec.upto fnExactTonsInAllSpec)

/-- 'laws.FnExactFreeDays', WHERE WHAT IT READS IS OF BULK AT MOST 1048576: true; the input reads as it did. -/
def fnExactFreeDaysUptoRow : OpenClaim := { program := "ytggdcjajiaeklaa", sum := "40c6552ed3d642f30f2e17211f32a40cf437ba5d9d91b69c09f640bd690024cf", func := "loop.example/g01019/laws.FnExactFreeDays", spec := "fnExactFreeDays", unfollowed := true, recurses := true, apart := false, narrowed := true }
def FnExactFreeDaysUptoSaid : Prop := fnExactFreeDaysUptoRow.holds Try.pinned (OpenSpec.upto fnExactFreeDaysSpec)

/-- 'laws.FnExactLateShips', WHERE WHAT IT READS IS OF BULK AT MOST 1048576: true; the input reads as it did. -/
def fnExactLateShipsUptoRow : OpenClaim := { program := "ytggdcjajiaeklaa", sum := "40c6552ed3d642f30f2e17211f32a40cf437ba5d9d91b69c09f640bd690024cf", func := "loop.example/g01019/laws.FnExactLateShips", spec := "fnExactLateShips", unfollowed := true, recurses := true, apart := false, narrowed := true }
def FnExactLateShipsUptoSaid : Prop := fnExactLateShipsUptoRow.holds Try.pinned (OpenSpec.upto fnExactLateShipsSpec)

/-- 'laws.FnExactQuayRota', WHERE WHAT IT READS IS OF BULK AT MOST 1048576: true; the input reads as it did. -/
def fnExactQuayRotaUptoRow : OpenClaim := { program := "ytggdcjajiaeklaa", sum := "40c6552ed3d642f30f2e17211f32a40cf437ba5d9d91b69c09f640bd690024cf", func := "loop.example/g01019/laws.FnExactQuayRota", spec := "fnExactQuayRota", unfollowed := true, recurses := true, apart := false, narrowed := true }
def FnExactQuayRotaUptoSaid : Prop := fnExactQuayRotaUptoRow.holds Try.pinned (OpenSpec.upto fnExactQuayRotaSpec)

/-- 'laws.FnShips', WHERE WHAT IT READS IS OF BULK AT MOST 1048576: true; the input reads as it did. -/
def fnShipsUptoRow : OpenClaim := { program := "ytggdcjajiaeklaa", sum := "40c6552ed3d642f30f2e17211f32a40cf437ba5d9d91b69c09f640bd690024cf", func := "loop.example/g01019/laws.FnShips", spec := "fnShips", unfollowed := true, recurses := true, apart := false, narrowed := true }
def FnShipsUptoSaid : Prop := fnShipsUptoRow.holds Try.pinned (OpenSpec.upto fnShipsSpec)

end Rows
end Go.Proofs.Ytggdcjajiaeklaa
