/-
  No cell of these rows narrows 'for every input' (looked for: loops, veiled, ifaces, maps, wideKeys, modest, calm, conditions, laid).
  DERIVED. THE GIVEN ROWS OF THIS SEAT. 11 by the template 'for every input the law returns true; each argument reads behind the call as it read before'; 0 by the template 'total and deterministic' (their statements: YtcljfdpjlkaagaaTotals.lean).
  GIVEN WITH THE SEED: the statements are not yours to turn. If you find one false, say at which input.
  Laid BY PROGRAM, IN A SANDBOX (cutbox-rows.mjs): the forced cells as the released guide's own fill.sh prints them over the translation 00de9d3515ab4f31… (all of the seat's roots in one cut). By AI agents, Wed Nov 11 2026. No macro, syntax, notation, axiom, sorry.
-/
import Derived.Test.YtcljfdpjlkaagaaChecked
import GoSem.Claim
import GoSem.ClaimJoined
import GoSem.ClaimMapViews
import Derived.JoinedTies
import Derived.KernelRfl
namespace Go.Proofs.Ytcljfdpjlkaagaa
/- THE CELL 'sum', in the pinned program and in every row, IS THE sha256 OF THE DUMP (.gsa) THAT YtcljfdpjlkaagaaProg.lean LOADS. Nothing in Lean hashes anything: it is a label: what it is worth is what the hold of that sum in a sandbox is worth. -/
noncomputable def Try.pinned : Pinned := { name := "ytcljfdpjlkaagaa", sum := "00de9d3515ab4f317b0031a7fc692377337940d10f4a05a455518ce9007a623e", checked := Try.checked }
namespace Rows
def none {H : Type} : Left H := { results := [], args := [] }

/-- 'laws.FnExactIsContract': WHATEVER THE INPUT: true; the input reads as it did. -/
def fnExactIsContractSpec : ChangeSpec := { name := "fnExactIsContract", fn := fun _ => fun
  | [d] => { results := [.lit (.bool true)], args := [d] }
  | _ => none }
def fnExactIsContractRow : OpenClaim := { program := "ytcljfdpjlkaagaa", sum := "00de9d3515ab4f317b0031a7fc692377337940d10f4a05a455518ce9007a623e", func := "loop.example/g01019/laws.FnExactIsContract", spec := "fnExactIsContract", apart := false }
def FnExactIsContractSaid : Prop := fnExactIsContractRow.holds Try.pinned (OpenSpec.ofChange fnExactIsContractSpec)

/-- ITS FALSE NEIGHBOUR: 'it returns false'. Refute it at one input. -/
def fnExactIsContractWrong : ChangeSpec := { name := "fnExactIsContract", fn := fun _ => fun
  | [d] => { results := [.lit (.bool false)], args := [d] }
  | _ => none }
def FnExactIsContractWrongFalsely : Prop := fnExactIsContractRow.holds Try.pinned (OpenSpec.ofChange fnExactIsContractWrong)

/-- 'laws.FnExactAreContracts': WHATEVER THE INPUT: true; the input reads as it did. -/
def fnExactAreContractsSpec : ChangeSpec := { name := "fnExactAreContracts", fn := fun _ => fun
  | [d] => { results := [.lit (.bool true)], args := [d] }
  | _ => none }
def fnExactAreContractsRow : OpenClaim := { program := "ytcljfdpjlkaagaa", sum := "00de9d3515ab4f317b0031a7fc692377337940d10f4a05a455518ce9007a623e", func := "loop.example/g01019/laws.FnExactAreContracts", spec := "fnExactAreContracts", apart := false }
def FnExactAreContractsSaid : Prop := fnExactAreContractsRow.holds Try.pinned (OpenSpec.ofChange fnExactAreContractsSpec)

/-- ITS FALSE NEIGHBOUR: 'it returns false'. Refute it at one input. -/
def fnExactAreContractsWrong : ChangeSpec := { name := "fnExactAreContracts", fn := fun _ => fun
  | [d] => { results := [.lit (.bool false)], args := [d] }
  | _ => none }
def FnExactAreContractsWrongFalsely : Prop := fnExactAreContractsRow.holds Try.pinned (OpenSpec.ofChange fnExactAreContractsWrong)

/-- 'laws.FnExactServeOne': WHATEVER THE INPUT: true; the input reads as it did. -/
def fnExactServeOneSpec : ChangeSpec := { name := "fnExactServeOne", fn := fun _ => fun
  | [d1, d2] => { results := [.lit (.bool true)], args := [d1, d2] }
  | _ => none }
def fnExactServeOneRow : OpenClaim := { program := "ytcljfdpjlkaagaa", sum := "00de9d3515ab4f317b0031a7fc692377337940d10f4a05a455518ce9007a623e", func := "loop.example/g01019/laws.FnExactServeOne", spec := "fnExactServeOne", unfollowed := true, recurses := true, apart := false }
def FnExactServeOneSaid : Prop := fnExactServeOneRow.holds Try.pinned (OpenSpec.ofChange fnExactServeOneSpec)

/-- ITS FALSE NEIGHBOUR: 'it returns false'. Refute it at one input. -/
def fnExactServeOneWrong : ChangeSpec := { name := "fnExactServeOne", fn := fun _ => fun
  | [d1, d2] => { results := [.lit (.bool false)], args := [d1, d2] }
  | _ => none }
def FnExactServeOneWrongFalsely : Prop := fnExactServeOneRow.holds Try.pinned (OpenSpec.ofChange fnExactServeOneWrong)

/-- 'laws.FnExactNeededStock': WHATEVER THE INPUT: true; the input reads as it did. -/
def fnExactNeededStockSpec : ChangeSpec := { name := "fnExactNeededStock", fn := fun _ => fun
  | [d] => { results := [.lit (.bool true)], args := [d] }
  | _ => none }
def fnExactNeededStockRow : OpenClaim := { program := "ytcljfdpjlkaagaa", sum := "00de9d3515ab4f317b0031a7fc692377337940d10f4a05a455518ce9007a623e", func := "loop.example/g01019/laws.FnExactNeededStock", spec := "fnExactNeededStock", apart := false }
def FnExactNeededStockSaid : Prop := fnExactNeededStockRow.holds Try.pinned (OpenSpec.ofChange fnExactNeededStockSpec)

/-- ITS FALSE NEIGHBOUR: 'it returns false'. Refute it at one input. -/
def fnExactNeededStockWrong : ChangeSpec := { name := "fnExactNeededStock", fn := fun _ => fun
  | [d] => { results := [.lit (.bool false)], args := [d] }
  | _ => none }
def FnExactNeededStockWrongFalsely : Prop := fnExactNeededStockRow.holds Try.pinned (OpenSpec.ofChange fnExactNeededStockWrong)

/-- 'laws.FnExactSplitContract': WHATEVER THE INPUT: true; the input reads as it did. -/
def fnExactSplitContractSpec : ChangeSpec := { name := "fnExactSplitContract", fn := fun _ => fun
  | [d1, d2, d3] => { results := [.lit (.bool true)], args := [d1, d2, d3] }
  | _ => none }
def fnExactSplitContractRow : OpenClaim := { program := "ytcljfdpjlkaagaa", sum := "00de9d3515ab4f317b0031a7fc692377337940d10f4a05a455518ce9007a623e", func := "loop.example/g01019/laws.FnExactSplitContract", spec := "fnExactSplitContract", unfollowed := true, recurses := true, apart := false }
def FnExactSplitContractSaid : Prop := fnExactSplitContractRow.holds Try.pinned (OpenSpec.ofChange fnExactSplitContractSpec)

/-- ITS FALSE NEIGHBOUR: 'it returns false'. Refute it at one input. -/
def fnExactSplitContractWrong : ChangeSpec := { name := "fnExactSplitContract", fn := fun _ => fun
  | [d1, d2, d3] => { results := [.lit (.bool false)], args := [d1, d2, d3] }
  | _ => none }
def FnExactSplitContractWrongFalsely : Prop := fnExactSplitContractRow.holds Try.pinned (OpenSpec.ofChange fnExactSplitContractWrong)

/-- 'laws.FnExactOpenOn': WHATEVER THE INPUT: true; the input reads as it did. -/
def fnExactOpenOnSpec : ChangeSpec := { name := "fnExactOpenOn", fn := fun _ => fun
  | [d1, d2] => { results := [.lit (.bool true)], args := [d1, d2] }
  | _ => none }
def fnExactOpenOnRow : OpenClaim := { program := "ytcljfdpjlkaagaa", sum := "00de9d3515ab4f317b0031a7fc692377337940d10f4a05a455518ce9007a623e", func := "loop.example/g01019/laws.FnExactOpenOn", spec := "fnExactOpenOn", unfollowed := true, recurses := true, apart := false }
def FnExactOpenOnSaid : Prop := fnExactOpenOnRow.holds Try.pinned (OpenSpec.ofChange fnExactOpenOnSpec)

/-- ITS FALSE NEIGHBOUR: 'it returns false'. Refute it at one input. -/
def fnExactOpenOnWrong : ChangeSpec := { name := "fnExactOpenOn", fn := fun _ => fun
  | [d1, d2] => { results := [.lit (.bool false)], args := [d1, d2] }
  | _ => none }
def FnExactOpenOnWrongFalsely : Prop := fnExactOpenOnRow.holds Try.pinned (OpenSpec.ofChange fnExactOpenOnWrong)

/-- 'laws.FnExactBestServed': WHATEVER THE INPUT: true; the input reads as it did. -/
def fnExactBestServedSpec : ChangeSpec := { name := "fnExactBestServed", fn := fun _ => fun
  | [d1, d2] => { results := [.lit (.bool true)], args := [d1, d2] }
  | _ => none }
def fnExactBestServedRow : OpenClaim := { program := "ytcljfdpjlkaagaa", sum := "00de9d3515ab4f317b0031a7fc692377337940d10f4a05a455518ce9007a623e", func := "loop.example/g01019/laws.FnExactBestServed", spec := "fnExactBestServed", unfollowed := true, recurses := true, apart := false }
def FnExactBestServedSaid : Prop := fnExactBestServedRow.holds Try.pinned (OpenSpec.ofChange fnExactBestServedSpec)

/-- ITS FALSE NEIGHBOUR: 'it returns false'. Refute it at one input. -/
def fnExactBestServedWrong : ChangeSpec := { name := "fnExactBestServed", fn := fun _ => fun
  | [d1, d2] => { results := [.lit (.bool false)], args := [d1, d2] }
  | _ => none }
def FnExactBestServedWrongFalsely : Prop := fnExactBestServedRow.holds Try.pinned (OpenSpec.ofChange fnExactBestServedWrong)

/-- 'laws.FnExactEarnedBy': WHATEVER THE INPUT: true; the input reads as it did. -/
def fnExactEarnedBySpec : ChangeSpec := { name := "fnExactEarnedBy", fn := fun _ => fun
  | [d1, d2] => { results := [.lit (.bool true)], args := [d1, d2] }
  | _ => none }
def fnExactEarnedByRow : OpenClaim := { program := "ytcljfdpjlkaagaa", sum := "00de9d3515ab4f317b0031a7fc692377337940d10f4a05a455518ce9007a623e", func := "loop.example/g01019/laws.FnExactEarnedBy", spec := "fnExactEarnedBy", unfollowed := true, recurses := true, apart := false }
def FnExactEarnedBySaid : Prop := fnExactEarnedByRow.holds Try.pinned (OpenSpec.ofChange fnExactEarnedBySpec)

/-- ITS FALSE NEIGHBOUR: 'it returns false'. Refute it at one input. -/
def fnExactEarnedByWrong : ChangeSpec := { name := "fnExactEarnedBy", fn := fun _ => fun
  | [d1, d2] => { results := [.lit (.bool false)], args := [d1, d2] }
  | _ => none }
def FnExactEarnedByWrongFalsely : Prop := fnExactEarnedByRow.holds Try.pinned (OpenSpec.ofChange fnExactEarnedByWrong)

/-- 'laws.FnExactIsEnough': WHATEVER THE INPUT: true; the input reads as it did. -/
def fnExactIsEnoughSpec : ChangeSpec := { name := "fnExactIsEnough", fn := fun _ => fun
  | [d1, d2] => { results := [.lit (.bool true)], args := [d1, d2] }
  | _ => none }
def fnExactIsEnoughRow : OpenClaim := { program := "ytcljfdpjlkaagaa", sum := "00de9d3515ab4f317b0031a7fc692377337940d10f4a05a455518ce9007a623e", func := "loop.example/g01019/laws.FnExactIsEnough", spec := "fnExactIsEnough", unfollowed := true, recurses := true, apart := false }
def FnExactIsEnoughSaid : Prop := fnExactIsEnoughRow.holds Try.pinned (OpenSpec.ofChange fnExactIsEnoughSpec)

/-- ITS FALSE NEIGHBOUR: 'it returns false'. Refute it at one input. -/
def fnExactIsEnoughWrong : ChangeSpec := { name := "fnExactIsEnough", fn := fun _ => fun
  | [d1, d2] => { results := [.lit (.bool false)], args := [d1, d2] }
  | _ => none }
def FnExactIsEnoughWrongFalsely : Prop := fnExactIsEnoughRow.holds Try.pinned (OpenSpec.ofChange fnExactIsEnoughWrong)

/-- 'laws.FnExactServeAll': WHATEVER THE INPUT: true; the input reads as it did. -/
def fnExactServeAllSpec : ChangeSpec := { name := "fnExactServeAll", fn := fun _ => fun
  | [d1, d2] => { results := [.lit (.bool true)], args := [d1, d2] }
  | _ => none }
def fnExactServeAllRow : OpenClaim := { program := "ytcljfdpjlkaagaa", sum := "00de9d3515ab4f317b0031a7fc692377337940d10f4a05a455518ce9007a623e", func := "loop.example/g01019/laws.FnExactServeAll", spec := "fnExactServeAll", unfollowed := true, recurses := true, apart := false }
def FnExactServeAllSaid : Prop := fnExactServeAllRow.holds Try.pinned (OpenSpec.ofChange fnExactServeAllSpec)

/-- ITS FALSE NEIGHBOUR: 'it returns false'. Refute it at one input. -/
def fnExactServeAllWrong : ChangeSpec := { name := "fnExactServeAll", fn := fun _ => fun
  | [d1, d2] => { results := [.lit (.bool false)], args := [d1, d2] }
  | _ => none }
def FnExactServeAllWrongFalsely : Prop := fnExactServeAllRow.holds Try.pinned (OpenSpec.ofChange fnExactServeAllWrong)

/-- 'laws.FnContracts': WHATEVER THE INPUT: true; the input reads as it did. -/
def fnContractsSpec : ChangeSpec := { name := "fnContracts", fn := fun _ => fun
  | [d] => { results := [.lit (.bool true)], args := [d] }
  | _ => none }
def fnContractsRow : OpenClaim := { program := "ytcljfdpjlkaagaa", sum := "00de9d3515ab4f317b0031a7fc692377337940d10f4a05a455518ce9007a623e", func := "loop.example/g01019/laws.FnContracts", spec := "fnContracts", unfollowed := true, recurses := true, apart := false }
def FnContractsSaid : Prop := fnContractsRow.holds Try.pinned (OpenSpec.ofChange fnContractsSpec)

/-- ITS FALSE NEIGHBOUR: 'it returns false'. Refute it at one input. -/
def fnContractsWrong : ChangeSpec := { name := "fnContracts", fn := fun _ => fun
  | [d] => { results := [.lit (.bool false)], args := [d] }
  | _ => none }
def FnContractsWrongFalsely : Prop := fnContractsRow.holds Try.pinned (OpenSpec.ofChange fnContractsWrong)

/- THE SECOND FORM. 'bulk': how many values and letters a reading holds, each counted each time it is reached (what is shared counts as often as it is met; a slice's spare places count too). A statement '..UptoSaid' is the law's where the arguments, and the package variables that the reading takes, are together of bulk at most 1048576: NARROWER than '..Said'. Prove '..Said' where nothing that the law and all that it calls make is longer than what came in: it says more and counts as full. Else prove '..UptoSaid'. A law counts once. -/
mutual
def uptoBulk {H : Type} : DataW H → Nat
  | .lit (.string bytes) => bytes.length + 1
  | .lit _ => 1
  | .nil => 1
  | .ptr d => uptoBulk d + 1
  | .slice elems spare => uptoBulkAll elems + uptoBulkAll spare + 1
  | .agg parts => uptoBulkAll parts + 1
  | .iface _ d => uptoBulk d + 1
  | .map entries => uptoBulkEntries entries + 1
  | .held _ => 1
def uptoBulkAll {H : Type} : List (DataW H) → Nat
  | [] => 0
  | d :: r => uptoBulk d + uptoBulkAll r
def uptoBulkEntries {H : Type} : List (Lit × DataW H) → Nat
  | [] => 0
  | x :: r => uptoBulkEntry x + uptoBulkEntries r
def uptoBulkEntry {H : Type} : Lit × DataW H → Nat
  | (.string bytes, d) => bytes.length + uptoBulk d + 1
  | (_, d) => uptoBulk d + 1
 end
def uptoSmall : (H : Type) → List (DataW H) → Bool := fun _ ds => decide (uptoBulkAll ds ≤ 1048576)
def OpenSpec.upto (s : _root_.Go.ChangeSpec) : _root_.Go.OpenSpec := { _root_.Go.OpenSpec.ofChange s with cond := some uptoSmall }

/-- 'laws.FnExactIsContract', WHERE WHAT IT READS IS OF BULK AT MOST 1048576: true; the input reads as it did. -/
def fnExactIsContractUptoRow : OpenClaim := { program := "ytcljfdpjlkaagaa", sum := "00de9d3515ab4f317b0031a7fc692377337940d10f4a05a455518ce9007a623e", func := "loop.example/g01019/laws.FnExactIsContract", spec := "fnExactIsContract", apart := false, narrowed := true }
def FnExactIsContractUptoSaid : Prop := fnExactIsContractUptoRow.holds Try.pinned (OpenSpec.upto fnExactIsContractSpec)

/-- 'laws.FnExactAreContracts', WHERE WHAT IT READS IS OF BULK AT MOST 1048576: true; the input reads as it did. -/
def fnExactAreContractsUptoRow : OpenClaim := { program := "ytcljfdpjlkaagaa", sum := "00de9d3515ab4f317b0031a7fc692377337940d10f4a05a455518ce9007a623e", func := "loop.example/g01019/laws.FnExactAreContracts", spec := "fnExactAreContracts", apart := false, narrowed := true }
def FnExactAreContractsUptoSaid : Prop := fnExactAreContractsUptoRow.holds Try.pinned (OpenSpec.upto fnExactAreContractsSpec)

/-- 'laws.FnExactServeOne', WHERE WHAT IT READS IS OF BULK AT MOST 1048576: true; the input reads as it did. -/
def fnExactServeOneUptoRow : OpenClaim := { program := "ytcljfdpjlkaagaa", sum := "00de9d3515ab4f317b0031a7fc692377337940d10f4a05a455518ce9007a623e", func := "loop.example/g01019/laws.FnExactServeOne", spec := "fnExactServeOne", unfollowed := true, recurses := true, apart := false, narrowed := true }
def FnExactServeOneUptoSaid : Prop := fnExactServeOneUptoRow.holds Try.pinned (OpenSpec.upto fnExactServeOneSpec)

/-- 'laws.FnExactNeededStock', WHERE WHAT IT READS IS OF BULK AT MOST 1048576: true; the input reads as it did. -/
def fnExactNeededStockUptoRow : OpenClaim := { program := "ytcljfdpjlkaagaa", sum := "00de9d3515ab4f317b0031a7fc692377337940d10f4a05a455518ce9007a623e", func := "loop.example/g01019/laws.FnExactNeededStock", spec := "fnExactNeededStock", apart := false, narrowed := true }
def FnExactNeededStockUptoSaid : Prop := fnExactNeededStockUptoRow.holds Try.pinned (OpenSpec.upto fnExactNeededStockSpec)

/-- 'laws.FnExactSplitContract', WHERE WHAT IT READS IS OF BULK AT MOST 1048576: true; the input reads as it did. -/
def fnExactSplitContractUptoRow : OpenClaim := { program := "ytcljfdpjlkaagaa", sum := "00de9d3515ab4f317b0031a7fc692377337940d10f4a05a455518ce9007a623e", func := "loop.example/g01019/laws.FnExactSplitContract", spec := "fnExactSplitContract", unfollowed := true, recurses := true, apart := false, narrowed := true }
def FnExactSplitContractUptoSaid : Prop := fnExactSplitContractUptoRow.holds Try.pinned (OpenSpec.upto fnExactSplitContractSpec)

/-- 'laws.FnExactOpenOn', WHERE WHAT IT READS IS OF BULK AT MOST 1048576: true; the input reads as it did. -/
def fnExactOpenOnUptoRow : OpenClaim := { program := "ytcljfdpjlkaagaa", sum := "00de9d3515ab4f317b0031a7fc692377337940d10f4a05a455518ce9007a623e", func := "loop.example/g01019/laws.FnExactOpenOn", spec := "fnExactOpenOn", unfollowed := true, recurses := true, apart := false, narrowed := true }
def FnExactOpenOnUptoSaid : Prop := fnExactOpenOnUptoRow.holds Try.pinned (OpenSpec.upto fnExactOpenOnSpec)

/-- 'laws.FnExactBestServed', WHERE WHAT IT READS IS OF BULK AT MOST 1048576: true; the input reads as it did. -/
def fnExactBestServedUptoRow : OpenClaim := { program := "ytcljfdpjlkaagaa", sum := "00de9d3515ab4f317b0031a7fc692377337940d10f4a05a455518ce9007a623e", func := "loop.example/g01019/laws.FnExactBestServed", spec := "fnExactBestServed", unfollowed := true, recurses := true, apart := false, narrowed := true }
def FnExactBestServedUptoSaid : Prop := fnExactBestServedUptoRow.holds Try.pinned (OpenSpec.upto fnExactBestServedSpec)

/-- 'laws.FnExactEarnedBy', WHERE WHAT IT READS IS OF BULK AT MOST 1048576: true; the input reads as it did. -/
def fnExactEarnedByUptoRow : OpenClaim := { program := "ytcljfdpjlkaagaa", sum := "00de9d3515ab4f317b0031a7fc692377337940d10f4a05a455518ce9007a623e", func := "loop.example/g01019/laws.FnExactEarnedBy", spec := "fnExactEarnedBy", unfollowed := true, recurses := true, apart := false, narrowed := true }
def FnExactEarnedByUptoSaid : Prop := fnExactEarnedByUptoRow.holds Try.pinned (OpenSpec.upto fnExactEarnedBySpec)

/-- 'laws.FnExactIsEnough', WHERE WHAT IT READS IS OF BULK AT MOST 1048576: true; the input reads as it did. -/
def fnExactIsEnoughUptoRow : OpenClaim := { program := "ytcljfdpjlkaagaa", sum := "00de9d3515ab4f317b0031a7fc692377337940d10f4a05a455518ce9007a623e", func := "loop.example/g01019/laws.FnExactIsEnough", spec := "fnExactIsEnough", unfollowed := true, recurses := true, apart := false, narrowed := true }
def FnExactIsEnoughUptoSaid : Prop := fnExactIsEnoughUptoRow.holds Try.pinned (OpenSpec.upto fnExactIsEnoughSpec)

/-- 'laws.FnExactServeAll', WHERE WHAT IT READS IS OF BULK AT MOST 1048576: true; the input reads as it did. -/
def fnExactServeAllUptoRow : OpenClaim := { program := "ytcljfdpjlkaagaa", sum := "00de9d3515ab4f317b0031a7fc692377337940d10f4a05a455518ce9007a623e", func := "loop.example/g01019/laws.FnExactServeAll", spec := "fnExactServeAll", unfollowed := true, recurses := true, apart := false, narrowed := true }
def FnExactServeAllUptoSaid : Prop := fnExactServeAllUptoRow.holds Try.pinned (OpenSpec.upto fnExactServeAllSpec)

/-- 'laws.FnContracts', WHERE WHAT IT READS IS OF BULK AT MOST 1048576: true; the input reads as it did. -/
def fnContractsUptoRow : OpenClaim := { program := "ytcljfdpjlkaagaa", sum := "00de9d3515ab4f317b0031a7fc692377337940d10f4a05a455518ce9007a623e", func := "loop.example/g01019/laws.FnContracts", spec := "fnContracts", unfollowed := true, recurses := true, apart := false, narrowed := true }
def FnContractsUptoSaid : Prop := fnContractsUptoRow.holds Try.pinned (OpenSpec.upto fnContractsSpec)

end Rows
end Go.Proofs.Ytcljfdpjlkaagaa
