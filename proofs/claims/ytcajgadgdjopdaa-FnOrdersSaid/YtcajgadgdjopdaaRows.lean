/-
  No cell of these rows narrows 'for every input' (looked for: loops, veiled, ifaces, maps, wideKeys, modest, calm, conditions, laid).
  DERIVED. THE GIVEN ROWS OF THIS SEAT. 5 by the template 'for every input the law returns true; each argument reads behind the call as it read before'; 0 by the template 'total and deterministic' (their statements: YtcajgadgdjopdaaTotals.lean).
  GIVEN WITH THE SEED: the statements are not yours to turn. If you find one false, say at which input.
  Laid BY PROGRAM, IN A SANDBOX (cutbox-rows.mjs): the forced cells as the released guide's own fill.sh prints them over the translation 763fbeda0724eee9… (all of the seat's roots in one cut). By AI agents, Wed Nov 11 2026. No macro, syntax, notation, axiom, sorry.
-/
import Derived.Test.YtcajgadgdjopdaaChecked
import GoSem.Claim
import GoSem.ClaimJoined
import GoSem.ClaimMapViews
import Derived.JoinedTies
import Derived.KernelRfl
namespace Go.Proofs.Ytcajgadgdjopdaa
/- THE CELL 'sum', in the pinned program and in every row, IS THE sha256 OF THE DUMP (.gsa) THAT YtcajgadgdjopdaaProg.lean LOADS. Nothing in Lean hashes anything: it is a label: what it is worth is what the hold of that sum in a sandbox is worth. -/
noncomputable def Try.pinned : Pinned := { name := "ytcajgadgdjopdaa", sum := "763fbeda0724eee9313f9e87906afe2a0492a4140761e33c5063f0545b171536", checked := Try.checked }
namespace Rows
def none {H : Type} : Left H := { results := [], args := [] }

/-- 'laws.FnOrders': WHATEVER THE INPUT: true; the input reads as it did. -/
def fnOrdersSpec : ChangeSpec := { name := "fnOrders", fn := fun _ => fun
  | [d] => { results := [.lit (.bool true)], args := [d] }
  | _ => none }
def fnOrdersRow : OpenClaim := { program := "ytcajgadgdjopdaa", sum := "763fbeda0724eee9313f9e87906afe2a0492a4140761e33c5063f0545b171536", func := "loop.example/g01019/laws.FnOrders", spec := "fnOrders", unfollowed := true, recurses := true, apart := false }
def FnOrdersSaid : Prop := fnOrdersRow.holds Try.pinned (OpenSpec.ofChange fnOrdersSpec)

/-- ITS FALSE NEIGHBOUR: 'it returns false'. Refute it at one input. -/
def fnOrdersWrong : ChangeSpec := { name := "fnOrders", fn := fun _ => fun
  | [d] => { results := [.lit (.bool false)], args := [d] }
  | _ => none }
def FnOrdersWrongFalsely : Prop := fnOrdersRow.holds Try.pinned (OpenSpec.ofChange fnOrdersWrong)

/-- 'laws.FnExactAfterOrder': WHATEVER THE INPUT: true; the input reads as it did. -/
def fnExactAfterOrderSpec : ChangeSpec := { name := "fnExactAfterOrder", fn := fun _ => fun
  | [d1, d2, d3] => { results := [.lit (.bool true)], args := [d1, d2, d3] }
  | _ => none }
def fnExactAfterOrderRow : OpenClaim := { program := "ytcajgadgdjopdaa", sum := "763fbeda0724eee9313f9e87906afe2a0492a4140761e33c5063f0545b171536", func := "loop.example/g01019/laws.FnExactAfterOrder", spec := "fnExactAfterOrder", unfollowed := true, recurses := true, apart := false }
def FnExactAfterOrderSaid : Prop := fnExactAfterOrderRow.holds Try.pinned (OpenSpec.ofChange fnExactAfterOrderSpec)

/-- ITS FALSE NEIGHBOUR: 'it returns false'. Refute it at one input. -/
def fnExactAfterOrderWrong : ChangeSpec := { name := "fnExactAfterOrder", fn := fun _ => fun
  | [d1, d2, d3] => { results := [.lit (.bool false)], args := [d1, d2, d3] }
  | _ => none }
def FnExactAfterOrderWrongFalsely : Prop := fnExactAfterOrderRow.holds Try.pinned (OpenSpec.ofChange fnExactAfterOrderWrong)

/-- 'laws.FnExactFillOrder': WHATEVER THE INPUT: true; the input reads as it did. -/
def fnExactFillOrderSpec : ChangeSpec := { name := "fnExactFillOrder", fn := fun _ => fun
  | [d1, d2, d3] => { results := [.lit (.bool true)], args := [d1, d2, d3] }
  | _ => none }
def fnExactFillOrderRow : OpenClaim := { program := "ytcajgadgdjopdaa", sum := "763fbeda0724eee9313f9e87906afe2a0492a4140761e33c5063f0545b171536", func := "loop.example/g01019/laws.FnExactFillOrder", spec := "fnExactFillOrder", unfollowed := true, recurses := true, apart := false }
def FnExactFillOrderSaid : Prop := fnExactFillOrderRow.holds Try.pinned (OpenSpec.ofChange fnExactFillOrderSpec)

/-- ITS FALSE NEIGHBOUR: 'it returns false'. Refute it at one input. -/
def fnExactFillOrderWrong : ChangeSpec := { name := "fnExactFillOrder", fn := fun _ => fun
  | [d1, d2, d3] => { results := [.lit (.bool false)], args := [d1, d2, d3] }
  | _ => none }
def FnExactFillOrderWrongFalsely : Prop := fnExactFillOrderRow.holds Try.pinned (OpenSpec.ofChange fnExactFillOrderWrong)

/-- 'laws.FnExactAreBookings': WHATEVER THE INPUT: true; the input reads as it did. -/
def fnExactAreBookingsSpec : ChangeSpec := { name := "fnExactAreBookings", fn := fun _ => fun
  | [d] => { results := [.lit (.bool true)], args := [d] }
  | _ => none }
def fnExactAreBookingsRow : OpenClaim := { program := "ytcajgadgdjopdaa", sum := "763fbeda0724eee9313f9e87906afe2a0492a4140761e33c5063f0545b171536", func := "loop.example/g01019/laws.FnExactAreBookings", spec := "fnExactAreBookings", apart := false }
def FnExactAreBookingsSaid : Prop := fnExactAreBookingsRow.holds Try.pinned (OpenSpec.ofChange fnExactAreBookingsSpec)

/-- ITS FALSE NEIGHBOUR: 'it returns false'. Refute it at one input. -/
def fnExactAreBookingsWrong : ChangeSpec := { name := "fnExactAreBookings", fn := fun _ => fun
  | [d] => { results := [.lit (.bool false)], args := [d] }
  | _ => none }
def FnExactAreBookingsWrongFalsely : Prop := fnExactAreBookingsRow.holds Try.pinned (OpenSpec.ofChange fnExactAreBookingsWrong)

/-- 'laws.FnExactSumOfKind': WHATEVER THE INPUT: true; the input reads as it did. -/
def fnExactSumOfKindSpec : ChangeSpec := { name := "fnExactSumOfKind", fn := fun _ => fun
  | [d1, d2, d3, d4] => { results := [.lit (.bool true)], args := [d1, d2, d3, d4] }
  | _ => none }
def fnExactSumOfKindRow : OpenClaim := { program := "ytcajgadgdjopdaa", sum := "763fbeda0724eee9313f9e87906afe2a0492a4140761e33c5063f0545b171536", func := "loop.example/g01019/laws.FnExactSumOfKind", spec := "fnExactSumOfKind", apart := false }
def FnExactSumOfKindSaid : Prop := fnExactSumOfKindRow.holds Try.pinned (OpenSpec.ofChange fnExactSumOfKindSpec)

/-- ITS FALSE NEIGHBOUR: 'it returns false'. Refute it at one input. -/
def fnExactSumOfKindWrong : ChangeSpec := { name := "fnExactSumOfKind", fn := fun _ => fun
  | [d1, d2, d3, d4] => { results := [.lit (.bool false)], args := [d1, d2, d3, d4] }
  | _ => none }
def FnExactSumOfKindWrongFalsely : Prop := fnExactSumOfKindRow.holds Try.pinned (OpenSpec.ofChange fnExactSumOfKindWrong)

/- THE SECOND FORM. 'bulk': how many values and letters a reading holds, each counted each time it is reached (what is shared counts as often as it is met; a slice's spare places count too). A statement '..UptoSaid' is the law's where the arguments, and the package variables that the reading takes, are together of bulk at most 1048576: NARROWER than '..Said'. Prove '..Said' where nothing that the law and all that it calls make is longer than what came in: it says more and counts as full. Else prove '..UptoSaid'. A law counts once. -/
mutual
def uptoBulk {H : Type} : DataW H → Nat
  | .lit (.string bytes) => bytes.length + 1
  | .lit _ => 1
  | .nil => 1
  | .ptr d => uptoBulk d + 1
  | .slice elems spare => uptoBulkAll elems + uptoBulkAll spare + 1
  | .agg parts => uptoBulkAll parts + 1
  | .iface _ d => uptoBulk d + 1
  | .map entries => uptoBulkEntries entries + 1
  | .held _ => 1
def uptoBulkAll {H : Type} : List (DataW H) → Nat
  | [] => 0
  | d :: r => uptoBulk d + uptoBulkAll r
def uptoBulkEntries {H : Type} : List (Lit × DataW H) → Nat
  | [] => 0
  | x :: r => uptoBulkEntry x + uptoBulkEntries r
def uptoBulkEntry {H : Type} : Lit × DataW H → Nat
  | (.string bytes, d) => bytes.length + uptoBulk d + 1
  | (_, d) => uptoBulk d + 1
 end
def uptoSmall : (H : Type) → List (DataW H) → Bool := fun _ ds => decide (uptoBulkAll ds ≤ 1048576)
def OpenSpec.upto (s : _root_.Go.ChangeSpec) : _root_.Go.OpenSpec := { _root_.Go.OpenSpec.ofChange s with cond := some uptoSmall }

/-- 'laws.FnOrders', WHERE WHAT IT READS IS OF BULK AT MOST 1048576: true; the input reads as it did. -/
def fnOrdersUptoRow : OpenClaim := { program := "ytcajgadgdjopdaa", sum := "763fbeda0724eee9313f9e87906afe2a0492a4140761e33c5063f0545b171536", func := "loop.example/g01019/laws.FnOrders", spec := "fnOrders", unfollowed := true, recurses := true, apart := false, narrowed := true }
def FnOrdersUptoSaid : Prop := fnOrdersUptoRow.holds Try.pinned (OpenSpec.upto fnOrdersSpec)

/-- 'laws.FnExactAfterOrder', WHERE WHAT IT READS IS OF BULK AT MOST 1048576: true; the input reads as it did. -/
def fnExactAfterOrderUptoRow : OpenClaim := { program := "ytcajgadgdjopdaa", sum := "763fbeda0724eee9313f9e87906afe2a0492a4140761e33c5063f0545b171536", func := "loop.example/g01019/laws.FnExactAfterOrder", spec := "fnExactAfterOrder", unfollowed := true, recurses := true, apart := false, narrowed := true }
def FnExactAfterOrderUptoSaid : Prop := fnExactAfterOrderUptoRow.holds Try.pinned (OpenSpec.upto fnExactAfterOrderSpec)

/-- 'laws.FnExactFillOrder', WHERE WHAT IT READS IS OF BULK AT MOST 1048576: true; the input reads as it did. -/
def fnExactFillOrderUptoRow : OpenClaim := { program := "ytcajgadgdjopdaa", sum := "763fbeda0724eee9313f9e87906afe2a0492a4140761e33c5063f0545b171536", func := "loop.example/g01019/laws.FnExactFillOrder", spec := "fnExactFillOrder", unfollowed := true, recurses := true, apart := false, narrowed := true }
def FnExactFillOrderUptoSaid : Prop := fnExactFillOrderUptoRow.holds Try.pinned (OpenSpec.upto fnExactFillOrderSpec)

/-- 'laws.FnExactAreBookings', WHERE WHAT IT READS IS OF BULK AT MOST 1048576: true; the input reads as it did. -/
def fnExactAreBookingsUptoRow : OpenClaim := { program := "ytcajgadgdjopdaa", sum := "763fbeda0724eee9313f9e87906afe2a0492a4140761e33c5063f0545b171536", func := "loop.example/g01019/laws.FnExactAreBookings", spec := "fnExactAreBookings", apart := false, narrowed := true }
def FnExactAreBookingsUptoSaid : Prop := fnExactAreBookingsUptoRow.holds Try.pinned (OpenSpec.upto fnExactAreBookingsSpec)

/-- 'laws.FnExactSumOfKind', WHERE WHAT IT READS IS OF BULK AT MOST 1048576: true; the input reads as it did. -/
def fnExactSumOfKindUptoRow : OpenClaim := { program := "ytcajgadgdjopdaa", sum := "763fbeda0724eee9313f9e87906afe2a0492a4140761e33c5063f0545b171536", func := "loop.example/g01019/laws.FnExactSumOfKind", spec := "fnExactSumOfKind", apart := false, narrowed := true }
def FnExactSumOfKindUptoSaid : Prop := fnExactSumOfKindUptoRow.holds Try.pinned (OpenSpec.upto fnExactSumOfKindSpec)

end Rows
end Go.Proofs.Ytcajgadgdjopdaa
