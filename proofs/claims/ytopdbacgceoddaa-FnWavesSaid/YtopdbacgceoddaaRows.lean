/-
  No cell of these rows narrows 'for every input' (looked for: loops, veiled, ifaces, maps, wideKeys, modest, calm, conditions, laid).
  DERIVED. THE GIVEN ROWS OF THIS SEAT. 12 by the template 'for every input the law returns true; each argument reads behind the call as it read before'; 0 by the template 'total and deterministic' (their statements: YtopdbacgceoddaaTotals.lean).
  GIVEN WITH THE SEED: the statements are not yours to turn. If you find one false, say at which input.
  Laid BY PROGRAM, IN A SANDBOX (cutbox-rows.mjs): the forced cells as the released guide's own fill.sh prints them over the translation 0a94a17fba120a67… (all of the seat's roots in one cut). By AI agents, Wed Nov 11 2026. No macro, syntax, notation, axiom, sorry.
-/
import Derived.Test.YtopdbacgceoddaaChecked
import GoSem.Claim
import GoSem.ClaimJoined
import GoSem.ClaimMapViews
import Derived.JoinedTies
import Derived.KernelRfl
namespace Go.Proofs.Ytopdbacgceoddaa
/- THE CELL 'sum', in the pinned program and in every row, IS THE sha256 OF THE DUMP (.gsa) THAT YtopdbacgceoddaaProg.lean LOADS. Nothing in Lean hashes anything: it is a label: what it is worth is what the hold of that sum in a sandbox is worth. -/
noncomputable def Try.pinned : Pinned := { name := "ytopdbacgceoddaa", sum := "0a94a17fba120a6703872bbb39f7a0ce828b5adef23dd0e5867e64954631189a", checked := Try.checked }
namespace Rows
def none {H : Type} : Left H := { results := [], args := [] }

/-- 'laws.FnExactTurnLake': WHATEVER THE INPUT: true; the input reads as it did. -/
def fnExactTurnLakeSpec : ChangeSpec := { name := "fnExactTurnLake", fn := fun _ => fun
  | [d] => { results := [.lit (.bool true)], args := [d] }
  | _ => none }
def fnExactTurnLakeRow : OpenClaim := { program := "ytopdbacgceoddaa", sum := "0a94a17fba120a6703872bbb39f7a0ce828b5adef23dd0e5867e64954631189a", func := "loop.example/g01019/laws.FnExactTurnLake", spec := "fnExactTurnLake", apart := false }
def FnExactTurnLakeSaid : Prop := fnExactTurnLakeRow.holds Try.pinned (OpenSpec.ofChange fnExactTurnLakeSpec)

/-- ITS FALSE NEIGHBOUR: 'it returns false'. Refute it at one input. -/
def fnExactTurnLakeWrong : ChangeSpec := { name := "fnExactTurnLake", fn := fun _ => fun
  | [d] => { results := [.lit (.bool false)], args := [d] }
  | _ => none }
def FnExactTurnLakeWrongFalsely : Prop := fnExactTurnLakeRow.holds Try.pinned (OpenSpec.ofChange fnExactTurnLakeWrong)

/-- 'laws.FnExactWaveOf': WHATEVER THE INPUT: true; the input reads as it did. -/
def fnExactWaveOfSpec : ChangeSpec := { name := "fnExactWaveOf", fn := fun _ => fun
  | [d1, d2, d3] => { results := [.lit (.bool true)], args := [d1, d2, d3] }
  | _ => none }
def fnExactWaveOfRow : OpenClaim := { program := "ytopdbacgceoddaa", sum := "0a94a17fba120a6703872bbb39f7a0ce828b5adef23dd0e5867e64954631189a", func := "loop.example/g01019/laws.FnExactWaveOf", spec := "fnExactWaveOf", apart := false }
def FnExactWaveOfSaid : Prop := fnExactWaveOfRow.holds Try.pinned (OpenSpec.ofChange fnExactWaveOfSpec)

/-- ITS FALSE NEIGHBOUR: 'it returns false'. Refute it at one input. -/
def fnExactWaveOfWrong : ChangeSpec := { name := "fnExactWaveOf", fn := fun _ => fun
  | [d1, d2, d3] => { results := [.lit (.bool false)], args := [d1, d2, d3] }
  | _ => none }
def FnExactWaveOfWrongFalsely : Prop := fnExactWaveOfRow.holds Try.pinned (OpenSpec.ofChange fnExactWaveOfWrong)

/-- 'laws.FnExactAreBlows': WHATEVER THE INPUT: true; the input reads as it did. -/
def fnExactAreBlowsSpec : ChangeSpec := { name := "fnExactAreBlows", fn := fun _ => fun
  | [d] => { results := [.lit (.bool true)], args := [d] }
  | _ => none }
def fnExactAreBlowsRow : OpenClaim := { program := "ytopdbacgceoddaa", sum := "0a94a17fba120a6703872bbb39f7a0ce828b5adef23dd0e5867e64954631189a", func := "loop.example/g01019/laws.FnExactAreBlows", spec := "fnExactAreBlows", apart := false }
def FnExactAreBlowsSaid : Prop := fnExactAreBlowsRow.holds Try.pinned (OpenSpec.ofChange fnExactAreBlowsSpec)

/-- ITS FALSE NEIGHBOUR: 'it returns false'. Refute it at one input. -/
def fnExactAreBlowsWrong : ChangeSpec := { name := "fnExactAreBlows", fn := fun _ => fun
  | [d] => { results := [.lit (.bool false)], args := [d] }
  | _ => none }
def FnExactAreBlowsWrongFalsely : Prop := fnExactAreBlowsRow.holds Try.pinned (OpenSpec.ofChange fnExactAreBlowsWrong)

/-- 'laws.FnExactMainDirection': WHATEVER THE INPUT: true; the input reads as it did. -/
def fnExactMainDirectionSpec : ChangeSpec := { name := "fnExactMainDirection", fn := fun _ => fun
  | [d] => { results := [.lit (.bool true)], args := [d] }
  | _ => none }
def fnExactMainDirectionRow : OpenClaim := { program := "ytopdbacgceoddaa", sum := "0a94a17fba120a6703872bbb39f7a0ce828b5adef23dd0e5867e64954631189a", func := "loop.example/g01019/laws.FnExactMainDirection", spec := "fnExactMainDirection", apart := false }
def FnExactMainDirectionSaid : Prop := fnExactMainDirectionRow.holds Try.pinned (OpenSpec.ofChange fnExactMainDirectionSpec)

/-- ITS FALSE NEIGHBOUR: 'it returns false'. Refute it at one input. -/
def fnExactMainDirectionWrong : ChangeSpec := { name := "fnExactMainDirection", fn := fun _ => fun
  | [d] => { results := [.lit (.bool false)], args := [d] }
  | _ => none }
def FnExactMainDirectionWrongFalsely : Prop := fnExactMainDirectionRow.holds Try.pinned (OpenSpec.ofChange fnExactMainDirectionWrong)

/-- 'laws.FnExactCalmSpan': WHATEVER THE INPUT: true; the input reads as it did. -/
def fnExactCalmSpanSpec : ChangeSpec := { name := "fnExactCalmSpan", fn := fun _ => fun
  | [d1, d2, d3, d4] => { results := [.lit (.bool true)], args := [d1, d2, d3, d4] }
  | _ => none }
def fnExactCalmSpanRow : OpenClaim := { program := "ytopdbacgceoddaa", sum := "0a94a17fba120a6703872bbb39f7a0ce828b5adef23dd0e5867e64954631189a", func := "loop.example/g01019/laws.FnExactCalmSpan", spec := "fnExactCalmSpan", apart := false }
def FnExactCalmSpanSaid : Prop := fnExactCalmSpanRow.holds Try.pinned (OpenSpec.ofChange fnExactCalmSpanSpec)

/-- ITS FALSE NEIGHBOUR: 'it returns false'. Refute it at one input. -/
def fnExactCalmSpanWrong : ChangeSpec := { name := "fnExactCalmSpan", fn := fun _ => fun
  | [d1, d2, d3, d4] => { results := [.lit (.bool false)], args := [d1, d2, d3, d4] }
  | _ => none }
def FnExactCalmSpanWrongFalsely : Prop := fnExactCalmSpanRow.holds Try.pinned (OpenSpec.ofChange fnExactCalmSpanWrong)

/-- 'laws.FnExactBankNeeded': WHATEVER THE INPUT: true; the input reads as it did. -/
def fnExactBankNeededSpec : ChangeSpec := { name := "fnExactBankNeeded", fn := fun _ => fun
  | [d1, d2] => { results := [.lit (.bool true)], args := [d1, d2] }
  | _ => none }
def fnExactBankNeededRow : OpenClaim := { program := "ytopdbacgceoddaa", sum := "0a94a17fba120a6703872bbb39f7a0ce828b5adef23dd0e5867e64954631189a", func := "loop.example/g01019/laws.FnExactBankNeeded", spec := "fnExactBankNeeded", apart := false }
def FnExactBankNeededSaid : Prop := fnExactBankNeededRow.holds Try.pinned (OpenSpec.ofChange fnExactBankNeededSpec)

/-- ITS FALSE NEIGHBOUR: 'it returns false'. Refute it at one input. -/
def fnExactBankNeededWrong : ChangeSpec := { name := "fnExactBankNeeded", fn := fun _ => fun
  | [d1, d2] => { results := [.lit (.bool false)], args := [d1, d2] }
  | _ => none }
def FnExactBankNeededWrongFalsely : Prop := fnExactBankNeededRow.holds Try.pinned (OpenSpec.ofChange fnExactBankNeededWrong)

/-- 'laws.FnExactMeanSpeed': WHATEVER THE INPUT: true; the input reads as it did. -/
def fnExactMeanSpeedSpec : ChangeSpec := { name := "fnExactMeanSpeed", fn := fun _ => fun
  | [d1, d2] => { results := [.lit (.bool true)], args := [d1, d2] }
  | _ => none }
def fnExactMeanSpeedRow : OpenClaim := { program := "ytopdbacgceoddaa", sum := "0a94a17fba120a6703872bbb39f7a0ce828b5adef23dd0e5867e64954631189a", func := "loop.example/g01019/laws.FnExactMeanSpeed", spec := "fnExactMeanSpeed", apart := false }
def FnExactMeanSpeedSaid : Prop := fnExactMeanSpeedRow.holds Try.pinned (OpenSpec.ofChange fnExactMeanSpeedSpec)

/-- ITS FALSE NEIGHBOUR: 'it returns false'. Refute it at one input. -/
def fnExactMeanSpeedWrong : ChangeSpec := { name := "fnExactMeanSpeed", fn := fun _ => fun
  | [d1, d2] => { results := [.lit (.bool false)], args := [d1, d2] }
  | _ => none }
def FnExactMeanSpeedWrongFalsely : Prop := fnExactMeanSpeedRow.holds Try.pinned (OpenSpec.ofChange fnExactMeanSpeedWrong)

/-- 'laws.FnExactSpilledInAll': WHATEVER THE INPUT: true; the input reads as it did. -/
def fnExactSpilledInAllSpec : ChangeSpec := { name := "fnExactSpilledInAll", fn := fun _ => fun
  | [d1, d2] => { results := [.lit (.bool true)], args := [d1, d2] }
  | _ => none }
def fnExactSpilledInAllRow : OpenClaim := { program := "ytopdbacgceoddaa", sum := "0a94a17fba120a6703872bbb39f7a0ce828b5adef23dd0e5867e64954631189a", func := "loop.example/g01019/laws.FnExactSpilledInAll", spec := "fnExactSpilledInAll", apart := false }
def FnExactSpilledInAllSaid : Prop := fnExactSpilledInAllRow.holds Try.pinned (OpenSpec.ofChange fnExactSpilledInAllSpec)

/-- ITS FALSE NEIGHBOUR: 'it returns false'. Refute it at one input. -/
def fnExactSpilledInAllWrong : ChangeSpec := { name := "fnExactSpilledInAll", fn := fun _ => fun
  | [d1, d2] => { results := [.lit (.bool false)], args := [d1, d2] }
  | _ => none }
def FnExactSpilledInAllWrongFalsely : Prop := fnExactSpilledInAllRow.holds Try.pinned (OpenSpec.ofChange fnExactSpilledInAllWrong)

/-- 'laws.FnExactSpilledIn': WHATEVER THE INPUT: true; the input reads as it did. -/
def fnExactSpilledInSpec : ChangeSpec := { name := "fnExactSpilledIn", fn := fun _ => fun
  | [d1, d2, d3] => { results := [.lit (.bool true)], args := [d1, d2, d3] }
  | _ => none }
def fnExactSpilledInRow : OpenClaim := { program := "ytopdbacgceoddaa", sum := "0a94a17fba120a6703872bbb39f7a0ce828b5adef23dd0e5867e64954631189a", func := "loop.example/g01019/laws.FnExactSpilledIn", spec := "fnExactSpilledIn", apart := false }
def FnExactSpilledInSaid : Prop := fnExactSpilledInRow.holds Try.pinned (OpenSpec.ofChange fnExactSpilledInSpec)

/-- ITS FALSE NEIGHBOUR: 'it returns false'. Refute it at one input. -/
def fnExactSpilledInWrong : ChangeSpec := { name := "fnExactSpilledIn", fn := fun _ => fun
  | [d1, d2, d3] => { results := [.lit (.bool false)], args := [d1, d2, d3] }
  | _ => none }
def FnExactSpilledInWrongFalsely : Prop := fnExactSpilledInRow.holds Try.pinned (OpenSpec.ofChange fnExactSpilledInWrong)

/-- 'laws.FnExactWorstHour': WHATEVER THE INPUT: true; the input reads as it did. -/
def fnExactWorstHourSpec : ChangeSpec := { name := "fnExactWorstHour", fn := fun _ => fun
  | [d1, d2] => { results := [.lit (.bool true)], args := [d1, d2] }
  | _ => none }
def fnExactWorstHourRow : OpenClaim := { program := "ytopdbacgceoddaa", sum := "0a94a17fba120a6703872bbb39f7a0ce828b5adef23dd0e5867e64954631189a", func := "loop.example/g01019/laws.FnExactWorstHour", spec := "fnExactWorstHour", apart := false }
def FnExactWorstHourSaid : Prop := fnExactWorstHourRow.holds Try.pinned (OpenSpec.ofChange fnExactWorstHourSpec)

/-- ITS FALSE NEIGHBOUR: 'it returns false'. Refute it at one input. -/
def fnExactWorstHourWrong : ChangeSpec := { name := "fnExactWorstHour", fn := fun _ => fun
  | [d1, d2] => { results := [.lit (.bool false)], args := [d1, d2] }
  | _ => none }
def FnExactWorstHourWrongFalsely : Prop := fnExactWorstHourRow.holds Try.pinned (OpenSpec.ofChange fnExactWorstHourWrong)

/-- 'laws.FnWaves': WHATEVER THE INPUT: true; the input reads as it did. -/
def fnWavesSpec : ChangeSpec := { name := "fnWaves", fn := fun _ => fun
  | [d] => { results := [.lit (.bool true)], args := [d] }
  | _ => none }
def fnWavesRow : OpenClaim := { program := "ytopdbacgceoddaa", sum := "0a94a17fba120a6703872bbb39f7a0ce828b5adef23dd0e5867e64954631189a", func := "loop.example/g01019/laws.FnWaves", spec := "fnWaves", apart := false }
def FnWavesSaid : Prop := fnWavesRow.holds Try.pinned (OpenSpec.ofChange fnWavesSpec)

/-- ITS FALSE NEIGHBOUR: 'it returns false'. Refute it at one input. -/
def fnWavesWrong : ChangeSpec := { name := "fnWaves", fn := fun _ => fun
  | [d] => { results := [.lit (.bool false)], args := [d] }
  | _ => none }
def FnWavesWrongFalsely : Prop := fnWavesRow.holds Try.pinned (OpenSpec.ofChange fnWavesWrong)

/-- 'laws.FnCalm': WHATEVER THE INPUT: true; the input reads as it did. -/
def fnCalmSpec : ChangeSpec := { name := "fnCalm", fn := fun _ => fun
  | [d] => { results := [.lit (.bool true)], args := [d] }
  | _ => none }
def fnCalmRow : OpenClaim := { program := "ytopdbacgceoddaa", sum := "0a94a17fba120a6703872bbb39f7a0ce828b5adef23dd0e5867e64954631189a", func := "loop.example/g01019/laws.FnCalm", spec := "fnCalm", apart := false }
def FnCalmSaid : Prop := fnCalmRow.holds Try.pinned (OpenSpec.ofChange fnCalmSpec)

/-- ITS FALSE NEIGHBOUR: 'it returns false'. Refute it at one input. -/
def fnCalmWrong : ChangeSpec := { name := "fnCalm", fn := fun _ => fun
  | [d] => { results := [.lit (.bool false)], args := [d] }
  | _ => none }
def FnCalmWrongFalsely : Prop := fnCalmRow.holds Try.pinned (OpenSpec.ofChange fnCalmWrong)

/- THE SECOND FORM. 'bulk': how many values and letters a reading holds, each counted each time it is reached (what is shared counts as often as it is met; a slice's spare places count too). A statement '..UptoSaid' is the law's where the arguments, and the package variables that the reading takes, are together of bulk at most 1048576: NARROWER than '..Said'. Prove '..Said' where nothing that the law and all that it calls make is longer than what came in: it says more and counts as full. Else prove '..UptoSaid'. A law counts once. -/
mutual
def uptoBulk {H : Type} : DataW H → Nat
  | .lit (.string bytes) => bytes.length + 1
  | .lit _ => 1
  | .nil => 1
  | .ptr d => uptoBulk d + 1
  | .slice elems spare => uptoBulkAll elems + uptoBulkAll spare + 1
  | .agg parts => uptoBulkAll parts + 1
  | .iface _ d => uptoBulk d + 1
  | .map entries => uptoBulkEntries entries + 1
  | .held _ => 1
def uptoBulkAll {H : Type} : List (DataW H) → Nat
  | [] => 0
  | d :: r => uptoBulk d + uptoBulkAll r
def uptoBulkEntries {H : Type} : List (Lit × DataW H) → Nat
  | [] => 0
  | x :: r => uptoBulkEntry x + uptoBulkEntries r
def uptoBulkEntry {H : Type} : Lit × DataW H → Nat
  | (.string bytes, d) => bytes.length + uptoBulk d + 1
  | (_, d) => uptoBulk d + 1
 end
def uptoSmall : (H : Type) → List (DataW H) → Bool := fun _ ds => decide (uptoBulkAll ds ≤ 1048576)
def OpenSpec.upto (s : _root_.Go.ChangeSpec) : _root_.Go.OpenSpec := { _root_.Go.OpenSpec.ofChange s with cond := some uptoSmall }

/-- 'laws.FnExactTurnLake', WHERE WHAT IT READS IS OF BULK AT MOST 1048576: true; the input reads as it did. -/
def fnExactTurnLakeUptoRow : OpenClaim := { program := "ytopdbacgceoddaa", sum := "0a94a17fba120a6703872bbb39f7a0ce828b5adef23dd0e5867e64954631189a", func := "loop.example/g01019/laws.FnExactTurnLake", spec := "fnExactTurnLake", apart := false, narrowed := true }
def FnExactTurnLakeUptoSaid : Prop := fnExactTurnLakeUptoRow.holds Try.pinned (OpenSpec.upto fnExactTurnLakeSpec)

/-- 'laws.FnExactWaveOf', WHERE WHAT IT READS IS OF BULK AT MOST 1048576: true; the input reads as it did. -/
def fnExactWaveOfUptoRow : OpenClaim := { program := "ytopdbacgceoddaa", sum := "0a94a17fba120a6703872bbb39f7a0ce828b5adef23dd0e5867e64954631189a", func := "loop.example/g01019/laws.FnExactWaveOf", spec := "fnExactWaveOf", apart := false, narrowed := true }
def FnExactWaveOfUptoSaid : Prop := fnExactWaveOfUptoRow.holds Try.pinned (OpenSpec.upto fnExactWaveOfSpec)

/-- 'laws.FnExactAreBlows', WHERE WHAT IT READS IS OF BULK AT MOST 1048576: true; the input reads as it did. -/
def fnExactAreBlowsUptoRow : OpenClaim := { program := "ytopdbacgceoddaa", sum := "0a94a17fba120a6703872bbb39f7a0ce828b5adef23dd0e5867e64954631189a", func := "loop.example/g01019/laws.FnExactAreBlows", spec := "fnExactAreBlows", apart := false, narrowed := true }
def FnExactAreBlowsUptoSaid : Prop := fnExactAreBlowsUptoRow.holds Try.pinned (OpenSpec.upto fnExactAreBlowsSpec)

/-- 'laws.FnExactMainDirection', WHERE WHAT IT READS IS OF BULK AT MOST 1048576: true; the input reads as it did. -/
def fnExactMainDirectionUptoRow : OpenClaim := { program := "ytopdbacgceoddaa", sum := "0a94a17fba120a6703872bbb39f7a0ce828b5adef23dd0e5867e64954631189a", func := "loop.example/g01019/laws.FnExactMainDirection", spec := "fnExactMainDirection", apart := false, narrowed := true }
def FnExactMainDirectionUptoSaid : Prop := fnExactMainDirectionUptoRow.holds Try.pinned (OpenSpec.upto fnExactMainDirectionSpec)

/-- 'laws.FnExactCalmSpan', WHERE WHAT IT READS IS OF BULK AT MOST 1048576: true; the input reads as it did. -/
def fnExactCalmSpanUptoRow : OpenClaim := { program := "ytopdbacgceoddaa", sum := "0a94a17fba120a6703872bbb39f7a0ce828b5adef23dd0e5867e64954631189a", func := "loop.example/g01019/laws.FnExactCalmSpan", spec := "fnExactCalmSpan", apart := false, narrowed := true }
def FnExactCalmSpanUptoSaid : Prop := fnExactCalmSpanUptoRow.holds Try.pinned (OpenSpec.upto fnExactCalmSpanSpec)

/-- 'laws.FnExactBankNeeded', WHERE WHAT IT READS IS OF BULK AT MOST 1048576: true; the input reads as it did. -/
def fnExactBankNeededUptoRow : OpenClaim := { program := "ytopdbacgceoddaa", sum := "0a94a17fba120a6703872bbb39f7a0ce828b5adef23dd0e5867e64954631189a", func := "loop.example/g01019/laws.FnExactBankNeeded", spec := "fnExactBankNeeded", apart := false, narrowed := true }
def FnExactBankNeededUptoSaid : Prop := fnExactBankNeededUptoRow.holds Try.pinned (OpenSpec.upto fnExactBankNeededSpec)

/-- 'laws.FnExactMeanSpeed', WHERE WHAT IT READS IS OF BULK AT MOST 1048576: true; the input reads as it did. -/
def fnExactMeanSpeedUptoRow : OpenClaim := { program := "ytopdbacgceoddaa", sum := "0a94a17fba120a6703872bbb39f7a0ce828b5adef23dd0e5867e64954631189a", func := "loop.example/g01019/laws.FnExactMeanSpeed", spec := "fnExactMeanSpeed", apart := false, narrowed := true }
def FnExactMeanSpeedUptoSaid : Prop := fnExactMeanSpeedUptoRow.holds Try.pinned (OpenSpec.upto fnExactMeanSpeedSpec)

/-- 'laws.FnExactSpilledInAll', WHERE WHAT IT READS IS OF BULK AT MOST 1048576: true; the input reads as it did. -/
def fnExactSpilledInAllUptoRow : OpenClaim := { program := "ytopdbacgceoddaa", sum := "0a94a17fba120a6703872bbb39f7a0ce828b5adef23dd0e5867e64954631189a", func := "loop.example/g01019/laws.FnExactSpilledInAll", spec := "fnExactSpilledInAll", apart := false, narrowed := true }
def FnExactSpilledInAllUptoSaid : Prop := fnExactSpilledInAllUptoRow.holds Try.pinned (OpenSpec.upto fnExactSpilledInAllSpec)

/-- 'laws.FnExactSpilledIn', WHERE WHAT IT READS IS OF BULK AT MOST 1048576: true; the input reads as it did. -/
def fnExactSpilledInUptoRow : OpenClaim := { program := "ytopdbacgceoddaa", sum := "0a94a17fba120a6703872bbb39f7a0ce828b5adef23dd0e5867e64954631189a", func := "loop.example/g01019/laws.FnExactSpilledIn", spec := "fnExactSpilledIn", apart := false, narrowed := true }
def FnExactSpilledInUptoSaid : Prop := fnExactSpilledInUptoRow.holds Try.pinned (OpenSpec.upto fnExactSpilledInSpec)

/-- 'laws.FnExactWorstHour', WHERE WHAT IT READS IS OF BULK AT MOST 1048576: true; the input reads as it did. -/
def fnExactWorstHourUptoRow : OpenClaim := { program := "ytopdbacgceoddaa", sum := "0a94a17fba120a6703872bbb39f7a0ce828b5adef23dd0e5867e64954631189a", func := "loop.example/g01019/laws.FnExactWorstHour", spec := "fnExactWorstHour", apart := false, narrowed := true }
def FnExactWorstHourUptoSaid : Prop := fnExactWorstHourUptoRow.holds Try.pinned (OpenSpec.upto fnExactWorstHourSpec)

/-- 'laws.FnWaves', WHERE WHAT IT READS IS OF BULK AT MOST 1048576: true; the input reads as it did. -/
def fnWavesUptoRow : OpenClaim := { program := "ytopdbacgceoddaa", sum := "0a94a17fba120a6703872bbb39f7a0ce828b5adef23dd0e5867e64954631189a", func := "loop.example/g01019/laws.FnWaves", spec := "fnWaves", apart := false, narrowed := true }
def FnWavesUptoSaid : Prop := fnWavesUptoRow.holds Try.pinned (OpenSpec.upto fnWavesSpec)

/-- 'laws.FnCalm', WHERE WHAT IT READS IS OF BULK AT MOST 1048576: true; the input reads as it did. -/
def fnCalmUptoRow : OpenClaim := { program := "ytopdbacgceoddaa", sum := "0a94a17fba120a6703872bbb39f7a0ce828b5adef23dd0e5867e64954631189a", func := "loop.example/g01019/laws.FnCalm", spec := "fnCalm", apart := false, narrowed := true }
def FnCalmUptoSaid : Prop := fnCalmUptoRow.holds Try.pinned (OpenSpec.upto fnCalmSpec)

end Rows
end Go.Proofs.Ytopdbacgceoddaa
