/-
  No cell of these rows narrows 'for every input' (looked for: loops, veiled, ifaces, maps, wideKeys, modest, calm, conditions, laid).
  DERIVED. THE GIVEN ROWS OF THIS SEAT. 11 by the template 'for every input the law returns true; each argument reads behind the call as it read before'; 0 by the template 'total and deterministic' (their statements: YtbedepmcecdhfaaTotals.lean).
  GIVEN WITH THE SEED: the statements are not yours to turn. If you find one false, say at which input.
  Laid BY PROGRAM, IN A SANDBOX (cutbox-rows.mjs): the forced cells as the released guide's own fill.sh prints them over the translation b322d6a857250afe… (all of the seat's roots in one cut). By AI agents, Wed Nov 11 2026. No macro, syntax, notation, axiom, sorry.
-/
import Derived.Test.YtbedepmcecdhfaaChecked
import GoSem.Claim
import GoSem.ClaimJoined
import GoSem.ClaimMapViews
import Derived.JoinedTies
import Derived.KernelRfl
namespace Go.Proofs.Ytbedepmcecdhfaa
/- THE CELL 'sum', in the pinned program and in every row, IS THE sha256 OF THE DUMP (.gsa) THAT YtbedepmcecdhfaaProg.lean LOADS. Nothing in Lean hashes anything: it is a label: what it is worth is what the hold of that sum in a sandbox is worth. -/
noncomputable def Try.pinned : Pinned := { name := "ytbedepmcecdhfaa", sum := "b322d6a857250afe64c8aca2ca0d3209c155ba866113f534ace5cbe38b038a6c", checked := Try.checked }
namespace Rows
def none {H : Type} : Left H := { results := [], args := [] }

/-- 'laws.FnPlans': WHATEVER THE INPUT: true; the input reads as it did. -/
def fnPlansSpec : ChangeSpec := { name := "fnPlans", fn := fun _ => fun
  | [d] => { results := [.lit (.bool true)], args := [d] }
  | _ => none }
def fnPlansRow : OpenClaim := { program := "ytbedepmcecdhfaa", sum := "b322d6a857250afe64c8aca2ca0d3209c155ba866113f534ace5cbe38b038a6c", func := "loop.example/g01019/laws.FnPlans", spec := "fnPlans", unfollowed := true, recurses := true, plainKeys := false, apart := false }
def FnPlansSaid : Prop := fnPlansRow.holds Try.pinned (OpenSpec.ofChange fnPlansSpec)

/-- ITS FALSE NEIGHBOUR: 'it returns false'. Refute it at one input. -/
def fnPlansWrong : ChangeSpec := { name := "fnPlans", fn := fun _ => fun
  | [d] => { results := [.lit (.bool false)], args := [d] }
  | _ => none }
def FnPlansWrongFalsely : Prop := fnPlansRow.holds Try.pinned (OpenSpec.ofChange fnPlansWrong)

/-- 'laws.FnExactAreLevels': WHATEVER THE INPUT: true; the input reads as it did. -/
def fnExactAreLevelsSpec : ChangeSpec := { name := "fnExactAreLevels", fn := fun _ => fun
  | [d1, d2] => { results := [.lit (.bool true)], args := [d1, d2] }
  | _ => none }
def fnExactAreLevelsRow : OpenClaim := { program := "ytbedepmcecdhfaa", sum := "b322d6a857250afe64c8aca2ca0d3209c155ba866113f534ace5cbe38b038a6c", func := "loop.example/g01019/laws.FnExactAreLevels", spec := "fnExactAreLevels", unfollowed := true, recurses := true, plainKeys := false, apart := false }
def FnExactAreLevelsSaid : Prop := fnExactAreLevelsRow.holds Try.pinned (OpenSpec.ofChange fnExactAreLevelsSpec)

/-- ITS FALSE NEIGHBOUR: 'it returns false'. Refute it at one input. -/
def fnExactAreLevelsWrong : ChangeSpec := { name := "fnExactAreLevels", fn := fun _ => fun
  | [d1, d2] => { results := [.lit (.bool false)], args := [d1, d2] }
  | _ => none }
def FnExactAreLevelsWrongFalsely : Prop := fnExactAreLevelsRow.holds Try.pinned (OpenSpec.ofChange fnExactAreLevelsWrong)

/-- 'laws.FnExactLevelsCount': WHATEVER THE INPUT: true; the input reads as it did. -/
def fnExactLevelsCountSpec : ChangeSpec := { name := "fnExactLevelsCount", fn := fun _ => fun
  | [d1, d2] => { results := [.lit (.bool true)], args := [d1, d2] }
  | _ => none }
def fnExactLevelsCountRow : OpenClaim := { program := "ytbedepmcecdhfaa", sum := "b322d6a857250afe64c8aca2ca0d3209c155ba866113f534ace5cbe38b038a6c", func := "loop.example/g01019/laws.FnExactLevelsCount", spec := "fnExactLevelsCount", unfollowed := true, recurses := true, plainKeys := false, apart := false }
def FnExactLevelsCountSaid : Prop := fnExactLevelsCountRow.holds Try.pinned (OpenSpec.ofChange fnExactLevelsCountSpec)

/-- ITS FALSE NEIGHBOUR: 'it returns false'. Refute it at one input. -/
def fnExactLevelsCountWrong : ChangeSpec := { name := "fnExactLevelsCount", fn := fun _ => fun
  | [d1, d2] => { results := [.lit (.bool false)], args := [d1, d2] }
  | _ => none }
def FnExactLevelsCountWrongFalsely : Prop := fnExactLevelsCountRow.holds Try.pinned (OpenSpec.ofChange fnExactLevelsCountWrong)

/-- 'laws.FnExactIsField': WHATEVER THE INPUT: true; the input reads as it did. -/
def fnExactIsFieldSpec : ChangeSpec := { name := "fnExactIsField", fn := fun _ => fun
  | [d1, d2] => { results := [.lit (.bool true)], args := [d1, d2] }
  | _ => none }
def fnExactIsFieldRow : OpenClaim := { program := "ytbedepmcecdhfaa", sum := "b322d6a857250afe64c8aca2ca0d3209c155ba866113f534ace5cbe38b038a6c", func := "loop.example/g01019/laws.FnExactIsField", spec := "fnExactIsField", unfollowed := true, recurses := true, plainKeys := false, apart := false }
def FnExactIsFieldSaid : Prop := fnExactIsFieldRow.holds Try.pinned (OpenSpec.ofChange fnExactIsFieldSpec)

/-- ITS FALSE NEIGHBOUR: 'it returns false'. Refute it at one input. -/
def fnExactIsFieldWrong : ChangeSpec := { name := "fnExactIsField", fn := fun _ => fun
  | [d1, d2] => { results := [.lit (.bool false)], args := [d1, d2] }
  | _ => none }
def FnExactIsFieldWrongFalsely : Prop := fnExactIsFieldRow.holds Try.pinned (OpenSpec.ofChange fnExactIsFieldWrong)

/-- 'laws.FnExactAfterPlan': WHATEVER THE INPUT: true; the input reads as it did. -/
def fnExactAfterPlanSpec : ChangeSpec := { name := "fnExactAfterPlan", fn := fun _ => fun
  | [d1, d2, d3, d4] => { results := [.lit (.bool true)], args := [d1, d2, d3, d4] }
  | _ => none }
def fnExactAfterPlanRow : OpenClaim := { program := "ytbedepmcecdhfaa", sum := "b322d6a857250afe64c8aca2ca0d3209c155ba866113f534ace5cbe38b038a6c", func := "loop.example/g01019/laws.FnExactAfterPlan", spec := "fnExactAfterPlan", unfollowed := true, recurses := true, plainKeys := false, apart := false }
def FnExactAfterPlanSaid : Prop := fnExactAfterPlanRow.holds Try.pinned (OpenSpec.ofChange fnExactAfterPlanSpec)

/-- ITS FALSE NEIGHBOUR: 'it returns false'. Refute it at one input. -/
def fnExactAfterPlanWrong : ChangeSpec := { name := "fnExactAfterPlan", fn := fun _ => fun
  | [d1, d2, d3, d4] => { results := [.lit (.bool false)], args := [d1, d2, d3, d4] }
  | _ => none }
def FnExactAfterPlanWrongFalsely : Prop := fnExactAfterPlanRow.holds Try.pinned (OpenSpec.ofChange fnExactAfterPlanWrong)

/-- 'laws.FnExactReachedCount': WHATEVER THE INPUT: true; the input reads as it did. -/
def fnExactReachedCountSpec : ChangeSpec := { name := "fnExactReachedCount", fn := fun _ => fun
  | [d1, d2, d3] => { results := [.lit (.bool true)], args := [d1, d2, d3] }
  | _ => none }
def fnExactReachedCountRow : OpenClaim := { program := "ytbedepmcecdhfaa", sum := "b322d6a857250afe64c8aca2ca0d3209c155ba866113f534ace5cbe38b038a6c", func := "loop.example/g01019/laws.FnExactReachedCount", spec := "fnExactReachedCount", unfollowed := true, recurses := true, plainKeys := false, apart := false }
def FnExactReachedCountSaid : Prop := fnExactReachedCountRow.holds Try.pinned (OpenSpec.ofChange fnExactReachedCountSpec)

/-- ITS FALSE NEIGHBOUR: 'it returns false'. Refute it at one input. -/
def fnExactReachedCountWrong : ChangeSpec := { name := "fnExactReachedCount", fn := fun _ => fun
  | [d1, d2, d3] => { results := [.lit (.bool false)], args := [d1, d2, d3] }
  | _ => none }
def FnExactReachedCountWrongFalsely : Prop := fnExactReachedCountRow.holds Try.pinned (OpenSpec.ofChange fnExactReachedCountWrong)

/-- 'laws.FnExactFullestPond': WHATEVER THE INPUT: true; the input reads as it did. -/
def fnExactFullestPondSpec : ChangeSpec := { name := "fnExactFullestPond", fn := fun _ => fun
  | [d1, d2, d3, d4] => { results := [.lit (.bool true)], args := [d1, d2, d3, d4] }
  | _ => none }
def fnExactFullestPondRow : OpenClaim := { program := "ytbedepmcecdhfaa", sum := "b322d6a857250afe64c8aca2ca0d3209c155ba866113f534ace5cbe38b038a6c", func := "loop.example/g01019/laws.FnExactFullestPond", spec := "fnExactFullestPond", unfollowed := true, recurses := true, plainKeys := false, apart := false }
def FnExactFullestPondSaid : Prop := fnExactFullestPondRow.holds Try.pinned (OpenSpec.ofChange fnExactFullestPondSpec)

/-- ITS FALSE NEIGHBOUR: 'it returns false'. Refute it at one input. -/
def fnExactFullestPondWrong : ChangeSpec := { name := "fnExactFullestPond", fn := fun _ => fun
  | [d1, d2, d3, d4] => { results := [.lit (.bool false)], args := [d1, d2, d3, d4] }
  | _ => none }
def FnExactFullestPondWrongFalsely : Prop := fnExactFullestPondRow.holds Try.pinned (OpenSpec.ofChange fnExactFullestPondWrong)

/-- 'laws.FnExactFarthestLevels': WHATEVER THE INPUT: true; the input reads as it did. -/
def fnExactFarthestLevelsSpec : ChangeSpec := { name := "fnExactFarthestLevels", fn := fun _ => fun
  | [d1, d2, d3] => { results := [.lit (.bool true)], args := [d1, d2, d3] }
  | _ => none }
def fnExactFarthestLevelsRow : OpenClaim := { program := "ytbedepmcecdhfaa", sum := "b322d6a857250afe64c8aca2ca0d3209c155ba866113f534ace5cbe38b038a6c", func := "loop.example/g01019/laws.FnExactFarthestLevels", spec := "fnExactFarthestLevels", unfollowed := true, recurses := true, plainKeys := false, apart := false }
def FnExactFarthestLevelsSaid : Prop := fnExactFarthestLevelsRow.holds Try.pinned (OpenSpec.ofChange fnExactFarthestLevelsSpec)

/-- ITS FALSE NEIGHBOUR: 'it returns false'. Refute it at one input. -/
def fnExactFarthestLevelsWrong : ChangeSpec := { name := "fnExactFarthestLevels", fn := fun _ => fun
  | [d1, d2, d3] => { results := [.lit (.bool false)], args := [d1, d2, d3] }
  | _ => none }
def FnExactFarthestLevelsWrongFalsely : Prop := fnExactFarthestLevelsRow.holds Try.pinned (OpenSpec.ofChange fnExactFarthestLevelsWrong)

/-- 'laws.FnExactShortestPlan': WHATEVER THE INPUT: true; the input reads as it did. -/
def fnExactShortestPlanSpec : ChangeSpec := { name := "fnExactShortestPlan", fn := fun _ => fun
  | [d1, d2, d3, d4] => { results := [.lit (.bool true)], args := [d1, d2, d3, d4] }
  | _ => none }
def fnExactShortestPlanRow : OpenClaim := { program := "ytbedepmcecdhfaa", sum := "b322d6a857250afe64c8aca2ca0d3209c155ba866113f534ace5cbe38b038a6c", func := "loop.example/g01019/laws.FnExactShortestPlan", spec := "fnExactShortestPlan", unfollowed := true, recurses := true, plainKeys := false, apart := false }
def FnExactShortestPlanSaid : Prop := fnExactShortestPlanRow.holds Try.pinned (OpenSpec.ofChange fnExactShortestPlanSpec)

/-- ITS FALSE NEIGHBOUR: 'it returns false'. Refute it at one input. -/
def fnExactShortestPlanWrong : ChangeSpec := { name := "fnExactShortestPlan", fn := fun _ => fun
  | [d1, d2, d3, d4] => { results := [.lit (.bool false)], args := [d1, d2, d3, d4] }
  | _ => none }
def FnExactShortestPlanWrongFalsely : Prop := fnExactShortestPlanRow.holds Try.pinned (OpenSpec.ofChange fnExactShortestPlanWrong)

/-- 'laws.FnExactWhyNoPlan': WHATEVER THE INPUT: true; the input reads as it did. -/
def fnExactWhyNoPlanSpec : ChangeSpec := { name := "fnExactWhyNoPlan", fn := fun _ => fun
  | [d1, d2, d3, d4] => { results := [.lit (.bool true)], args := [d1, d2, d3, d4] }
  | _ => none }
def fnExactWhyNoPlanRow : OpenClaim := { program := "ytbedepmcecdhfaa", sum := "b322d6a857250afe64c8aca2ca0d3209c155ba866113f534ace5cbe38b038a6c", func := "loop.example/g01019/laws.FnExactWhyNoPlan", spec := "fnExactWhyNoPlan", unfollowed := true, recurses := true, plainKeys := false, apart := false }
def FnExactWhyNoPlanSaid : Prop := fnExactWhyNoPlanRow.holds Try.pinned (OpenSpec.ofChange fnExactWhyNoPlanSpec)

/-- ITS FALSE NEIGHBOUR: 'it returns false'. Refute it at one input. -/
def fnExactWhyNoPlanWrong : ChangeSpec := { name := "fnExactWhyNoPlan", fn := fun _ => fun
  | [d1, d2, d3, d4] => { results := [.lit (.bool false)], args := [d1, d2, d3, d4] }
  | _ => none }
def FnExactWhyNoPlanWrongFalsely : Prop := fnExactWhyNoPlanRow.holds Try.pinned (OpenSpec.ofChange fnExactWhyNoPlanWrong)

/-- 'laws.FnLevels': WHATEVER THE INPUT: true; the input reads as it did. -/
def fnLevelsSpec : ChangeSpec := { name := "fnLevels", fn := fun _ => fun
  | [d] => { results := [.lit (.bool true)], args := [d] }
  | _ => none }
def fnLevelsRow : OpenClaim := { program := "ytbedepmcecdhfaa", sum := "b322d6a857250afe64c8aca2ca0d3209c155ba866113f534ace5cbe38b038a6c", func := "loop.example/g01019/laws.FnLevels", spec := "fnLevels", unfollowed := true, recurses := true, plainKeys := false, apart := false }
def FnLevelsSaid : Prop := fnLevelsRow.holds Try.pinned (OpenSpec.ofChange fnLevelsSpec)

/-- ITS FALSE NEIGHBOUR: 'it returns false'. Refute it at one input. -/
def fnLevelsWrong : ChangeSpec := { name := "fnLevels", fn := fun _ => fun
  | [d] => { results := [.lit (.bool false)], args := [d] }
  | _ => none }
def FnLevelsWrongFalsely : Prop := fnLevelsRow.holds Try.pinned (OpenSpec.ofChange fnLevelsWrong)

/- THE SECOND FORM. 'bulk': how many values and letters a reading holds, each counted each time it is reached (what is shared counts as often as it is met; a slice's spare places count too). A statement '..UptoSaid' is the law's where the arguments, and the package variables that the reading takes, are together of bulk at most 1048576: NARROWER than '..Said'. Prove '..Said' where nothing that the law and all that it calls make is longer than what came in: it says more and counts as full. Else prove '..UptoSaid'. A law counts once. -/
mutual
def uptoBulk {H : Type} : DataW H → Nat
  | .lit (.string bytes) => bytes.length + 1
  | .lit _ => 1
  | .nil => 1
  | .ptr d => uptoBulk d + 1
  | .slice elems spare => uptoBulkAll elems + uptoBulkAll spare + 1
  | .agg parts => uptoBulkAll parts + 1
  | .iface _ d => uptoBulk d + 1
  | .map entries => uptoBulkEntries entries + 1
  | .held _ => 1
def uptoBulkAll {H : Type} : List (DataW H) → Nat
  | [] => 0
  | d :: r => uptoBulk d + uptoBulkAll r
def uptoBulkEntries {H : Type} : List (Lit × DataW H) → Nat
  | [] => 0
  | x :: r => uptoBulkEntry x + uptoBulkEntries r
def uptoBulkEntry {H : Type} : Lit × DataW H → Nat
  | (.string bytes, d) => bytes.length + uptoBulk d + 1
  | (_, d) => uptoBulk d + 1
 end
def uptoSmall : (H : Type) → List (DataW H) → Bool := fun _ ds => decide (uptoBulkAll ds ≤ 1048576)
def OpenSpec.upto (s : _root_.Go.ChangeSpec) : _root_.Go.OpenSpec := { _root_.Go.OpenSpec.ofChange s with cond := some uptoSmall }

/-- 'laws.FnPlans', WHERE WHAT IT READS IS OF BULK AT MOST 1048576: true; the input reads as it did. -/
def fnPlansUptoRow : OpenClaim := { program := "ytbedepmcecdhfaa", sum := "b322d6a857250afe64c8aca2ca0d3209c155ba866113f534ace5cbe38b038a6c", func := "loop.example/g01019/laws.FnPlans", spec := "fnPlans", unfollowed := true, recurses := true, plainKeys := false, apart := false, narrowed := true }
def FnPlansUptoSaid : Prop := fnPlansUptoRow.holds Try.pinned (OpenSpec.upto fnPlansSpec)

/-- 'laws.FnExactAreLevels', WHERE WHAT IT READS IS OF BULK AT MOST 1048576: true; the input reads as it did. -/
def fnExactAreLevelsUptoRow : OpenClaim := { program := "ytbedepmcecdhfaa", sum := "b322d6a857250afe64c8aca2ca0d3209c155ba866113f534ace5cbe38b038a6c", func := "loop.example/g01019/laws.FnExactAreLevels", spec := "fnExactAreLevels", unfollowed := true, recurses := true, plainKeys := false, apart := false, narrowed := true }
def FnExactAreLevelsUptoSaid : Prop := fnExactAreLevelsUptoRow.holds Try.pinned (OpenSpec.upto fnExactAreLevelsSpec)

/-- 'laws.FnExactLevelsCount', WHERE WHAT IT READS IS OF BULK AT MOST 1048576: true; the input reads as it did. -/
def fnExactLevelsCountUptoRow : OpenClaim := { program := "ytbedepmcecdhfaa", sum := "b322d6a857250afe64c8aca2ca0d3209c155ba866113f534ace5cbe38b038a6c", func := "loop.example/g01019/laws.FnExactLevelsCount", spec := "fnExactLevelsCount", unfollowed := true, recurses := true, plainKeys := false, apart := false, narrowed := true }
def FnExactLevelsCountUptoSaid : Prop := fnExactLevelsCountUptoRow.holds Try.pinned (OpenSpec.upto fnExactLevelsCountSpec)

/-- 'laws.FnExactIsField', WHERE WHAT IT READS IS OF BULK AT MOST 1048576: true; the input reads as it did. -/
def fnExactIsFieldUptoRow : OpenClaim := { program := "ytbedepmcecdhfaa", sum := "b322d6a857250afe64c8aca2ca0d3209c155ba866113f534ace5cbe38b038a6c", func := "loop.example/g01019/laws.FnExactIsField", spec := "fnExactIsField", unfollowed := true, recurses := true, plainKeys := false, apart := false, narrowed := true }
def FnExactIsFieldUptoSaid : Prop := fnExactIsFieldUptoRow.holds Try.pinned (OpenSpec.upto fnExactIsFieldSpec)

/-- 'laws.FnExactAfterPlan', WHERE WHAT IT READS IS OF BULK AT MOST 1048576: true; the input reads as it did. -/
def fnExactAfterPlanUptoRow : OpenClaim := { program := "ytbedepmcecdhfaa", sum := "b322d6a857250afe64c8aca2ca0d3209c155ba866113f534ace5cbe38b038a6c", func := "loop.example/g01019/laws.FnExactAfterPlan", spec := "fnExactAfterPlan", unfollowed := true, recurses := true, plainKeys := false, apart := false, narrowed := true }
def FnExactAfterPlanUptoSaid : Prop := fnExactAfterPlanUptoRow.holds Try.pinned (OpenSpec.upto fnExactAfterPlanSpec)

/-- 'laws.FnExactReachedCount', WHERE WHAT IT READS IS OF BULK AT MOST 1048576: true; the input reads as it did. -/
def fnExactReachedCountUptoRow : OpenClaim := { program := "ytbedepmcecdhfaa", sum := "b322d6a857250afe64c8aca2ca0d3209c155ba866113f534ace5cbe38b038a6c", func := "loop.example/g01019/laws.FnExactReachedCount", spec := "fnExactReachedCount", unfollowed := true, recurses := true, plainKeys := false, apart := false, narrowed := true }
def FnExactReachedCountUptoSaid : Prop := fnExactReachedCountUptoRow.holds Try.pinned (OpenSpec.upto fnExactReachedCountSpec)

/-- 'laws.FnExactFullestPond', WHERE WHAT IT READS IS OF BULK AT MOST 1048576: true; the input reads as it did. -/
def fnExactFullestPondUptoRow : OpenClaim := { program := "ytbedepmcecdhfaa", sum := "b322d6a857250afe64c8aca2ca0d3209c155ba866113f534ace5cbe38b038a6c", func := "loop.example/g01019/laws.FnExactFullestPond", spec := "fnExactFullestPond", unfollowed := true, recurses := true, plainKeys := false, apart := false, narrowed := true }
def FnExactFullestPondUptoSaid : Prop := fnExactFullestPondUptoRow.holds Try.pinned (OpenSpec.upto fnExactFullestPondSpec)

/-- 'laws.FnExactFarthestLevels', WHERE WHAT IT READS IS OF BULK AT MOST 1048576: true; the input reads as it did. -/
def fnExactFarthestLevelsUptoRow : OpenClaim := { program := "ytbedepmcecdhfaa", sum := "b322d6a857250afe64c8aca2ca0d3209c155ba866113f534ace5cbe38b038a6c", func := "loop.example/g01019/laws.FnExactFarthestLevels", spec := "fnExactFarthestLevels", unfollowed := true, recurses := true, plainKeys := false, apart := false, narrowed := true }
def FnExactFarthestLevelsUptoSaid : Prop := fnExactFarthestLevelsUptoRow.holds Try.pinned (OpenSpec.upto fnExactFarthestLevelsSpec)

/-- 'laws.FnExactShortestPlan', WHERE WHAT IT READS IS OF BULK AT MOST 1048576: true; the input reads as it did. -/
def fnExactShortestPlanUptoRow : OpenClaim := { program := "ytbedepmcecdhfaa", sum := "b322d6a857250afe64c8aca2ca0d3209c155ba866113f534ace5cbe38b038a6c", func := "loop.example/g01019/laws.FnExactShortestPlan", spec := "fnExactShortestPlan", unfollowed := true, recurses := true, plainKeys := false, apart := false, narrowed := true }
def FnExactShortestPlanUptoSaid : Prop := fnExactShortestPlanUptoRow.holds Try.pinned (OpenSpec.upto fnExactShortestPlanSpec)

/-- 'laws.FnExactWhyNoPlan', WHERE WHAT IT READS IS OF BULK AT MOST 1048576: true; the input reads as it did. -/
def fnExactWhyNoPlanUptoRow : OpenClaim := { program := "ytbedepmcecdhfaa", sum := "b322d6a857250afe64c8aca2ca0d3209c155ba866113f534ace5cbe38b038a6c", func := "loop.example/g01019/laws.FnExactWhyNoPlan", spec := "fnExactWhyNoPlan", unfollowed := true, recurses := true, plainKeys := false, apart := false, narrowed := true }
def FnExactWhyNoPlanUptoSaid : Prop := fnExactWhyNoPlanUptoRow.holds Try.pinned (OpenSpec.upto fnExactWhyNoPlanSpec)

/-- 'laws.FnLevels', WHERE WHAT IT READS IS OF BULK AT MOST 1048576: true; the input reads as it did. -/
def fnLevelsUptoRow : OpenClaim := { program := "ytbedepmcecdhfaa", sum := "b322d6a857250afe64c8aca2ca0d3209c155ba866113f534ace5cbe38b038a6c", func := "loop.example/g01019/laws.FnLevels", spec := "fnLevels", unfollowed := true, recurses := true, plainKeys := false, apart := false, narrowed := true }
def FnLevelsUptoSaid : Prop := fnLevelsUptoRow.holds Try.pinned (OpenSpec.upto fnLevelsSpec)

end Rows
end Go.Proofs.Ytbedepmcecdhfaa
