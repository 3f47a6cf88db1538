/-
  No cell of these rows narrows 'for every input' (looked for: loops, veiled, ifaces, maps, wideKeys, modest, calm, conditions, laid).
  DERIVED. THE GIVEN ROWS OF THIS SEAT. 13 by the template 'for every input the law returns true; each argument reads behind the call as it read before'; 0 by the template 'total and deterministic' (their statements: YthhilkahfgpncaaTotals.lean).
  GIVEN WITH THE SEED: the statements are not yours to turn. If you find one false, say at which input.
  Laid BY PROGRAM, IN A SANDBOX (cutbox-rows.mjs): the forced cells as the released guide's own fill.sh prints them over the translation 7201995a2ff3b486… (all of the seat's roots in one cut). By AI agents, Wed Nov 11 2026. No macro, syntax, notation, axiom, sorry.
-/
import Derived.Test.YthhilkahfgpncaaChecked
import GoSem.Claim
import GoSem.ClaimJoined
import GoSem.ClaimMapViews
import Derived.JoinedTies
import Derived.KernelRfl
namespace Go.Proofs.Ythhilkahfgpncaa
/- THE CELL 'sum', in the pinned program and in every row, IS THE sha256 OF THE DUMP (.gsa) THAT YthhilkahfgpncaaProg.lean LOADS. Nothing in Lean hashes anything: it is a label: what it is worth is what the hold of that sum in a sandbox is worth. -/
noncomputable def Try.pinned : Pinned := { name := "ythhilkahfgpncaa", sum := "7201995a2ff3b4862038fef8b25e1b4dc7c83d7b8a6b2bc09b1c1ac39cd8f6dd", checked := Try.checked }
namespace Rows
def none {H : Type} : Left H := { results := [], args := [] }

/-- 'laws.FnExactSuitsHall': WHATEVER THE INPUT: true; the input reads as it did. -/
def fnExactSuitsHallSpec : ChangeSpec := { name := "fnExactSuitsHall", fn := fun _ => fun
  | [d1, d2, d3] => { results := [.lit (.bool true)], args := [d1, d2, d3] }
  | _ => none }
def fnExactSuitsHallRow : OpenClaim := { program := "ythhilkahfgpncaa", sum := "7201995a2ff3b4862038fef8b25e1b4dc7c83d7b8a6b2bc09b1c1ac39cd8f6dd", func := "loop.example/g01063/laws.FnExactSuitsHall", spec := "fnExactSuitsHall", unfollowed := true, recurses := true, apart := false }
def FnExactSuitsHallSaid : Prop := fnExactSuitsHallRow.holds Try.pinned (OpenSpec.ofChange fnExactSuitsHallSpec)

/-- ITS FALSE NEIGHBOUR: 'it returns false'. Refute it at one input. -/
def fnExactSuitsHallWrong : ChangeSpec := { name := "fnExactSuitsHall", fn := fun _ => fun
  | [d1, d2, d3] => { results := [.lit (.bool false)], args := [d1, d2, d3] }
  | _ => none }
def FnExactSuitsHallWrongFalsely : Prop := fnExactSuitsHallRow.holds Try.pinned (OpenSpec.ofChange fnExactSuitsHallWrong)

/-- 'laws.FnExactValidLensHalls': WHATEVER THE INPUT: true; the input reads as it did. -/
def fnExactValidLensHallsSpec : ChangeSpec := { name := "fnExactValidLensHalls", fn := fun _ => fun
  | [d] => { results := [.lit (.bool true)], args := [d] }
  | _ => none }
def fnExactValidLensHallsRow : OpenClaim := { program := "ythhilkahfgpncaa", sum := "7201995a2ff3b4862038fef8b25e1b4dc7c83d7b8a6b2bc09b1c1ac39cd8f6dd", func := "loop.example/g01063/laws.FnExactValidLensHalls", spec := "fnExactValidLensHalls", unfollowed := true, recurses := true, apart := false }
def FnExactValidLensHallsSaid : Prop := fnExactValidLensHallsRow.holds Try.pinned (OpenSpec.ofChange fnExactValidLensHallsSpec)

/-- ITS FALSE NEIGHBOUR: 'it returns false'. Refute it at one input. -/
def fnExactValidLensHallsWrong : ChangeSpec := { name := "fnExactValidLensHalls", fn := fun _ => fun
  | [d] => { results := [.lit (.bool false)], args := [d] }
  | _ => none }
def FnExactValidLensHallsWrongFalsely : Prop := fnExactValidLensHallsRow.holds Try.pinned (OpenSpec.ofChange fnExactValidLensHallsWrong)

/-- 'laws.FnExactNearestLens': WHATEVER THE INPUT: true; the input reads as it did. -/
def fnExactNearestLensSpec : ChangeSpec := { name := "fnExactNearestLens", fn := fun _ => fun
  | [d1, d2] => { results := [.lit (.bool true)], args := [d1, d2] }
  | _ => none }
def fnExactNearestLensRow : OpenClaim := { program := "ythhilkahfgpncaa", sum := "7201995a2ff3b4862038fef8b25e1b4dc7c83d7b8a6b2bc09b1c1ac39cd8f6dd", func := "loop.example/g01063/laws.FnExactNearestLens", spec := "fnExactNearestLens", unfollowed := true, recurses := true, apart := false }
def FnExactNearestLensSaid : Prop := fnExactNearestLensRow.holds Try.pinned (OpenSpec.ofChange fnExactNearestLensSpec)

/-- ITS FALSE NEIGHBOUR: 'it returns false'. Refute it at one input. -/
def fnExactNearestLensWrong : ChangeSpec := { name := "fnExactNearestLens", fn := fun _ => fun
  | [d1, d2] => { results := [.lit (.bool false)], args := [d1, d2] }
  | _ => none }
def FnExactNearestLensWrongFalsely : Prop := fnExactNearestLensRow.holds Try.pinned (OpenSpec.ofChange fnExactNearestLensWrong)

/-- 'laws.FnExactFocalRange': WHATEVER THE INPUT: true; the input reads as it did. -/
def fnExactFocalRangeSpec : ChangeSpec := { name := "fnExactFocalRange", fn := fun _ => fun
  | [d1, d2] => { results := [.lit (.bool true)], args := [d1, d2] }
  | _ => none }
def fnExactFocalRangeRow : OpenClaim := { program := "ythhilkahfgpncaa", sum := "7201995a2ff3b4862038fef8b25e1b4dc7c83d7b8a6b2bc09b1c1ac39cd8f6dd", func := "loop.example/g01063/laws.FnExactFocalRange", spec := "fnExactFocalRange", unfollowed := true, recurses := true, apart := false }
def FnExactFocalRangeSaid : Prop := fnExactFocalRangeRow.holds Try.pinned (OpenSpec.ofChange fnExactFocalRangeSpec)

/-- ITS FALSE NEIGHBOUR: 'it returns false'. Refute it at one input. -/
def fnExactFocalRangeWrong : ChangeSpec := { name := "fnExactFocalRange", fn := fun _ => fun
  | [d1, d2] => { results := [.lit (.bool false)], args := [d1, d2] }
  | _ => none }
def FnExactFocalRangeWrongFalsely : Prop := fnExactFocalRangeRow.holds Try.pinned (OpenSpec.ofChange fnExactFocalRangeWrong)

/-- 'laws.FnExactLightThrough': WHATEVER THE INPUT: true; the input reads as it did. -/
def fnExactLightThroughSpec : ChangeSpec := { name := "fnExactLightThrough", fn := fun _ => fun
  | [d1, d2] => { results := [.lit (.bool true)], args := [d1, d2] }
  | _ => none }
def fnExactLightThroughRow : OpenClaim := { program := "ythhilkahfgpncaa", sum := "7201995a2ff3b4862038fef8b25e1b4dc7c83d7b8a6b2bc09b1c1ac39cd8f6dd", func := "loop.example/g01063/laws.FnExactLightThrough", spec := "fnExactLightThrough", unfollowed := true, recurses := true, apart := false }
def FnExactLightThroughSaid : Prop := fnExactLightThroughRow.holds Try.pinned (OpenSpec.ofChange fnExactLightThroughSpec)

/-- ITS FALSE NEIGHBOUR: 'it returns false'. Refute it at one input. -/
def fnExactLightThroughWrong : ChangeSpec := { name := "fnExactLightThrough", fn := fun _ => fun
  | [d1, d2] => { results := [.lit (.bool false)], args := [d1, d2] }
  | _ => none }
def FnExactLightThroughWrongFalsely : Prop := fnExactLightThroughRow.holds Try.pinned (OpenSpec.ofChange fnExactLightThroughWrong)

/-- 'laws.FnExactNearestPair': WHATEVER THE INPUT: true; the input reads as it did. -/
def fnExactNearestPairSpec : ChangeSpec := { name := "fnExactNearestPair", fn := fun _ => fun
  | [d1, d2] => { results := [.lit (.bool true)], args := [d1, d2] }
  | _ => none }
def fnExactNearestPairRow : OpenClaim := { program := "ythhilkahfgpncaa", sum := "7201995a2ff3b4862038fef8b25e1b4dc7c83d7b8a6b2bc09b1c1ac39cd8f6dd", func := "loop.example/g01063/laws.FnExactNearestPair", spec := "fnExactNearestPair", unfollowed := true, recurses := true, apart := false }
def FnExactNearestPairSaid : Prop := fnExactNearestPairRow.holds Try.pinned (OpenSpec.ofChange fnExactNearestPairSpec)

/-- ITS FALSE NEIGHBOUR: 'it returns false'. Refute it at one input. -/
def fnExactNearestPairWrong : ChangeSpec := { name := "fnExactNearestPair", fn := fun _ => fun
  | [d1, d2] => { results := [.lit (.bool false)], args := [d1, d2] }
  | _ => none }
def FnExactNearestPairWrongFalsely : Prop := fnExactNearestPairRow.holds Try.pinned (OpenSpec.ofChange fnExactNearestPairWrong)

/-- 'laws.FnExactLensesFor': WHATEVER THE INPUT: true; the input reads as it did. -/
def fnExactLensesForSpec : ChangeSpec := { name := "fnExactLensesFor", fn := fun _ => fun
  | [d1, d2, d3] => { results := [.lit (.bool true)], args := [d1, d2, d3] }
  | _ => none }
def fnExactLensesForRow : OpenClaim := { program := "ythhilkahfgpncaa", sum := "7201995a2ff3b4862038fef8b25e1b4dc7c83d7b8a6b2bc09b1c1ac39cd8f6dd", func := "loop.example/g01063/laws.FnExactLensesFor", spec := "fnExactLensesFor", unfollowed := true, recurses := true, apart := false }
def FnExactLensesForSaid : Prop := fnExactLensesForRow.holds Try.pinned (OpenSpec.ofChange fnExactLensesForSpec)

/-- ITS FALSE NEIGHBOUR: 'it returns false'. Refute it at one input. -/
def fnExactLensesForWrong : ChangeSpec := { name := "fnExactLensesFor", fn := fun _ => fun
  | [d1, d2, d3] => { results := [.lit (.bool false)], args := [d1, d2, d3] }
  | _ => none }
def FnExactLensesForWrongFalsely : Prop := fnExactLensesForRow.holds Try.pinned (OpenSpec.ofChange fnExactLensesForWrong)

/-- 'laws.FnExactHallsFor': WHATEVER THE INPUT: true; the input reads as it did. -/
def fnExactHallsForSpec : ChangeSpec := { name := "fnExactHallsFor", fn := fun _ => fun
  | [d1, d2, d3] => { results := [.lit (.bool true)], args := [d1, d2, d3] }
  | _ => none }
def fnExactHallsForRow : OpenClaim := { program := "ythhilkahfgpncaa", sum := "7201995a2ff3b4862038fef8b25e1b4dc7c83d7b8a6b2bc09b1c1ac39cd8f6dd", func := "loop.example/g01063/laws.FnExactHallsFor", spec := "fnExactHallsFor", unfollowed := true, recurses := true, apart := false }
def FnExactHallsForSaid : Prop := fnExactHallsForRow.holds Try.pinned (OpenSpec.ofChange fnExactHallsForSpec)

/-- ITS FALSE NEIGHBOUR: 'it returns false'. Refute it at one input. -/
def fnExactHallsForWrong : ChangeSpec := { name := "fnExactHallsFor", fn := fun _ => fun
  | [d1, d2, d3] => { results := [.lit (.bool false)], args := [d1, d2, d3] }
  | _ => none }
def FnExactHallsForWrongFalsely : Prop := fnExactHallsForRow.holds Try.pinned (OpenSpec.ofChange fnExactHallsForWrong)

/-- 'laws.FnExactFewestLamps': WHATEVER THE INPUT: true; the input reads as it did. -/
def fnExactFewestLampsSpec : ChangeSpec := { name := "fnExactFewestLamps", fn := fun _ => fun
  | [d1, d2] => { results := [.lit (.bool true)], args := [d1, d2] }
  | _ => none }
def fnExactFewestLampsRow : OpenClaim := { program := "ythhilkahfgpncaa", sum := "7201995a2ff3b4862038fef8b25e1b4dc7c83d7b8a6b2bc09b1c1ac39cd8f6dd", func := "loop.example/g01063/laws.FnExactFewestLamps", spec := "fnExactFewestLamps", unfollowed := true, recurses := true, apart := false }
def FnExactFewestLampsSaid : Prop := fnExactFewestLampsRow.holds Try.pinned (OpenSpec.ofChange fnExactFewestLampsSpec)

/-- ITS FALSE NEIGHBOUR: 'it returns false'. Refute it at one input. -/
def fnExactFewestLampsWrong : ChangeSpec := { name := "fnExactFewestLamps", fn := fun _ => fun
  | [d1, d2] => { results := [.lit (.bool false)], args := [d1, d2] }
  | _ => none }
def FnExactFewestLampsWrongFalsely : Prop := fnExactFewestLampsRow.holds Try.pinned (OpenSpec.ofChange fnExactFewestLampsWrong)

/-- 'laws.FnExactCheapestLamps': WHATEVER THE INPUT: true; the input reads as it did. -/
def fnExactCheapestLampsSpec : ChangeSpec := { name := "fnExactCheapestLamps", fn := fun _ => fun
  | [d1, d2, d3] => { results := [.lit (.bool true)], args := [d1, d2, d3] }
  | _ => none }
def fnExactCheapestLampsRow : OpenClaim := { program := "ythhilkahfgpncaa", sum := "7201995a2ff3b4862038fef8b25e1b4dc7c83d7b8a6b2bc09b1c1ac39cd8f6dd", func := "loop.example/g01063/laws.FnExactCheapestLamps", spec := "fnExactCheapestLamps", unfollowed := true, recurses := true, apart := false }
def FnExactCheapestLampsSaid : Prop := fnExactCheapestLampsRow.holds Try.pinned (OpenSpec.ofChange fnExactCheapestLampsSpec)

/-- ITS FALSE NEIGHBOUR: 'it returns false'. Refute it at one input. -/
def fnExactCheapestLampsWrong : ChangeSpec := { name := "fnExactCheapestLamps", fn := fun _ => fun
  | [d1, d2, d3] => { results := [.lit (.bool false)], args := [d1, d2, d3] }
  | _ => none }
def FnExactCheapestLampsWrongFalsely : Prop := fnExactCheapestLampsRow.holds Try.pinned (OpenSpec.ofChange fnExactCheapestLampsWrong)

/-- 'laws.FnExactHallsLeft': WHATEVER THE INPUT: true; the input reads as it did. -/
def fnExactHallsLeftSpec : ChangeSpec := { name := "fnExactHallsLeft", fn := fun _ => fun
  | [d1, d2, d3] => { results := [.lit (.bool true)], args := [d1, d2, d3] }
  | _ => none }
def fnExactHallsLeftRow : OpenClaim := { program := "ythhilkahfgpncaa", sum := "7201995a2ff3b4862038fef8b25e1b4dc7c83d7b8a6b2bc09b1c1ac39cd8f6dd", func := "loop.example/g01063/laws.FnExactHallsLeft", spec := "fnExactHallsLeft", unfollowed := true, recurses := true, apart := false }
def FnExactHallsLeftSaid : Prop := fnExactHallsLeftRow.holds Try.pinned (OpenSpec.ofChange fnExactHallsLeftSpec)

/-- ITS FALSE NEIGHBOUR: 'it returns false'. Refute it at one input. -/
def fnExactHallsLeftWrong : ChangeSpec := { name := "fnExactHallsLeft", fn := fun _ => fun
  | [d1, d2, d3] => { results := [.lit (.bool false)], args := [d1, d2, d3] }
  | _ => none }
def FnExactHallsLeftWrongFalsely : Prop := fnExactHallsLeftRow.holds Try.pinned (OpenSpec.ofChange fnExactHallsLeftWrong)

/-- 'laws.FnExactBestLensMore': WHATEVER THE INPUT: true; the input reads as it did. -/
def fnExactBestLensMoreSpec : ChangeSpec := { name := "fnExactBestLensMore", fn := fun _ => fun
  | [d1, d2, d3] => { results := [.lit (.bool true)], args := [d1, d2, d3] }
  | _ => none }
def fnExactBestLensMoreRow : OpenClaim := { program := "ythhilkahfgpncaa", sum := "7201995a2ff3b4862038fef8b25e1b4dc7c83d7b8a6b2bc09b1c1ac39cd8f6dd", func := "loop.example/g01063/laws.FnExactBestLensMore", spec := "fnExactBestLensMore", unfollowed := true, recurses := true, apart := false }
def FnExactBestLensMoreSaid : Prop := fnExactBestLensMoreRow.holds Try.pinned (OpenSpec.ofChange fnExactBestLensMoreSpec)

/-- ITS FALSE NEIGHBOUR: 'it returns false'. Refute it at one input. -/
def fnExactBestLensMoreWrong : ChangeSpec := { name := "fnExactBestLensMore", fn := fun _ => fun
  | [d1, d2, d3] => { results := [.lit (.bool false)], args := [d1, d2, d3] }
  | _ => none }
def FnExactBestLensMoreWrongFalsely : Prop := fnExactBestLensMoreRow.holds Try.pinned (OpenSpec.ofChange fnExactBestLensMoreWrong)

/-- 'laws.FnExactFewestLenses': WHATEVER THE INPUT: true; the input reads as it did. -/
def fnExactFewestLensesSpec : ChangeSpec := { name := "fnExactFewestLenses", fn := fun _ => fun
  | [d1, d2, d3] => { results := [.lit (.bool true)], args := [d1, d2, d3] }
  | _ => none }
def fnExactFewestLensesRow : OpenClaim := { program := "ythhilkahfgpncaa", sum := "7201995a2ff3b4862038fef8b25e1b4dc7c83d7b8a6b2bc09b1c1ac39cd8f6dd", func := "loop.example/g01063/laws.FnExactFewestLenses", spec := "fnExactFewestLenses", unfollowed := true, recurses := true, apart := false }
def FnExactFewestLensesSaid : Prop := fnExactFewestLensesRow.holds Try.pinned (OpenSpec.ofChange fnExactFewestLensesSpec)

/-- ITS FALSE NEIGHBOUR: 'it returns false'. Refute it at one input. -/
def fnExactFewestLensesWrong : ChangeSpec := { name := "fnExactFewestLenses", fn := fun _ => fun
  | [d1, d2, d3] => { results := [.lit (.bool false)], args := [d1, d2, d3] }
  | _ => none }
def FnExactFewestLensesWrongFalsely : Prop := fnExactFewestLensesRow.holds Try.pinned (OpenSpec.ofChange fnExactFewestLensesWrong)

/- THE SECOND FORM. 'bulk': how many values and letters a reading holds, each counted each time it is reached (what is shared counts as often as it is met; a slice's spare places count too). A statement '..UptoSaid' is the law's where the arguments, and the package variables that the reading takes, are together of bulk at most 1048576: NARROWER than '..Said'. Prove '..Said' where nothing that the law and all that it calls make is longer than what came in: it says more and counts as full. Else prove '..UptoSaid'. A law counts once. -/
mutual
def uptoBulk {H : Type} : DataW H → Nat
  | .lit (.string bytes) => bytes.length + 1
  | .lit _ => 1
  | .nil => 1
  | .ptr d => uptoBulk d + 1
  | .slice elems spare => uptoBulkAll elems + uptoBulkAll spare + 1
  | .agg parts => uptoBulkAll parts + 1
  | .iface _ d => uptoBulk d + 1
  | .map entries => uptoBulkEntries entries + 1
  | .held _ => 1
def uptoBulkAll {H : Type} : List (DataW H) → Nat
  | [] => 0
  | d :: r => uptoBulk d + uptoBulkAll r
def uptoBulkEntries {H : Type} : List (Lit × DataW H) → Nat
  | [] => 0
  | x :: r => uptoBulkEntry x + uptoBulkEntries r
def uptoBulkEntry {H : Type} : Lit × DataW H → Nat
  | (.string bytes, d) => bytes.length + uptoBulk d + 1
  | (_, d) => uptoBulk d + 1
 end
def uptoSmall : (H : Type) → List (DataW H) → Bool := fun _ ds => decide (uptoBulkAll ds ≤ 1048576)
def OpenSpec.upto (s : _root_.Go.ChangeSpec) : _root_.Go.OpenSpec := { _root_.Go.OpenSpec.ofChange s with cond := some uptoSmall }

/-- 'laws.FnExactSuitsHall', WHERE WHAT IT READS IS OF BULK AT MOST 1048576: true; the input reads as it did. -/
def fnExactSuitsHallUptoRow : OpenClaim := { program := "ythhilkahfgpncaa", sum := "7201995a2ff3b4862038fef8b25e1b4dc7c83d7b8a6b2bc09b1c1ac39cd8f6dd", func := "loop.example/g01063/laws.FnExactSuitsHall", spec := "fnExactSuitsHall", unfollowed := true, recurses := true, apart := false, narrowed := true }
def FnExactSuitsHallUptoSaid : Prop := fnExactSuitsHallUptoRow.holds Try.pinned (OpenSpec.upto fnExactSuitsHallSpec)

/-- 'laws.FnExactValidLensHalls', WHERE WHAT IT READS IS OF BULK AT MOST 1048576: true; the input reads as it did. -/
def fnExactValidLensHallsUptoRow : OpenClaim := { program := "ythhilkahfgpncaa", sum := "7201995a2ff3b4862038fef8b25e1b4dc7c83d7b8a6b2bc09b1c1ac39cd8f6dd", func := "loop.example/g01063/laws.FnExactValidLensHalls", spec := "fnExactValidLensHalls", unfollowed := true, recurses := true, apart := false, narrowed := true }
def FnExactValidLensHallsUptoSaid : Prop := fnExactValidLensHallsUptoRow.holds Try.pinned (OpenSpec.upto fnExactValidLensHallsSpec)

/-- 'laws.FnExactNearestLens', WHERE WHAT IT READS IS OF BULK AT MOST 1048576: true; the input reads as it did. -/
def fnExactNearestLensUptoRow : OpenClaim := { program := "ythhilkahfgpncaa", sum := "7201995a2ff3b4862038fef8b25e1b4dc7c83d7b8a6b2bc09b1c1ac39cd8f6dd", func := "loop.example/g01063/laws.FnExactNearestLens", spec := "fnExactNearestLens", unfollowed := true, recurses := true, apart := false, narrowed := true }
def FnExactNearestLensUptoSaid : Prop := fnExactNearestLensUptoRow.holds Try.pinned (OpenSpec.upto fnExactNearestLensSpec)

/-- 'laws.FnExactFocalRange', WHERE WHAT IT READS IS OF BULK AT MOST 1048576: true; the input reads as it did. -/
def fnExactFocalRangeUptoRow : OpenClaim := { program := "ythhilkahfgpncaa", sum := "7201995a2ff3b4862038fef8b25e1b4dc7c83d7b8a6b2bc09b1c1ac39cd8f6dd", func := "loop.example/g01063/laws.FnExactFocalRange", spec := "fnExactFocalRange", unfollowed := true, recurses := true, apart := false, narrowed := true }
def FnExactFocalRangeUptoSaid : Prop := fnExactFocalRangeUptoRow.holds Try.pinned (OpenSpec.upto fnExactFocalRangeSpec)

/-- 'laws.FnExactLightThrough', WHERE WHAT IT READS IS OF BULK AT MOST 1048576: true; the input reads as it did. -/
def fnExactLightThroughUptoRow : OpenClaim := { program := "ythhilkahfgpncaa", sum := "7201995a2ff3b4862038fef8b25e1b4dc7c83d7b8a6b2bc09b1c1ac39cd8f6dd", func := "loop.example/g01063/laws.FnExactLightThrough", spec := "fnExactLightThrough", unfollowed := true, recurses := true, apart := false, narrowed := true }
def FnExactLightThroughUptoSaid : Prop := fnExactLightThroughUptoRow.holds Try.pinned (OpenSpec.upto fnExactLightThroughSpec)

/-- 'laws.FnExactNearestPair', WHERE WHAT IT READS IS OF BULK AT MOST 1048576: true; the input reads as it did. -/
def fnExactNearestPairUptoRow : OpenClaim := { program := "ythhilkahfgpncaa", sum := "7201995a2ff3b4862038fef8b25e1b4dc7c83d7b8a6b2bc09b1c1ac39cd8f6dd", func := "loop.example/g01063/laws.FnExactNearestPair", spec := "fnExactNearestPair", unfollowed := true, recurses := true, apart := false, narrowed := true }
def FnExactNearestPairUptoSaid : Prop := fnExactNearestPairUptoRow.holds Try.pinned (OpenSpec.upto fnExactNearestPairSpec)

/-- 'laws.FnExactLensesFor', WHERE WHAT IT READS IS OF BULK AT MOST 1048576: true; the input reads as it did. -/
def fnExactLensesForUptoRow : OpenClaim := { program := "ythhilkahfgpncaa", sum := "7201995a2ff3b4862038fef8b25e1b4dc7c83d7b8a6b2bc09b1c1ac39cd8f6dd", func := "loop.example/g01063/laws.FnExactLensesFor", spec := "fnExactLensesFor", unfollowed := true, recurses := true, apart := false, narrowed := true }
def FnExactLensesForUptoSaid : Prop := fnExactLensesForUptoRow.holds Try.pinned (OpenSpec.upto fnExactLensesForSpec)

/-- 'laws.FnExactHallsFor', WHERE WHAT IT READS IS OF BULK AT MOST 1048576: true; the input reads as it did. -/
def fnExactHallsForUptoRow : OpenClaim := { program := "ythhilkahfgpncaa", sum := "7201995a2ff3b4862038fef8b25e1b4dc7c83d7b8a6b2bc09b1c1ac39cd8f6dd", func := "loop.example/g01063/laws.FnExactHallsFor", spec := "fnExactHallsFor", unfollowed := true, recurses := true, apart := false, narrowed := true }
def FnExactHallsForUptoSaid : Prop := fnExactHallsForUptoRow.holds Try.pinned (OpenSpec.upto fnExactHallsForSpec)

/-- 'laws.FnExactFewestLamps', WHERE WHAT IT READS IS OF BULK AT MOST 1048576: true; the input reads as it did. -/
def fnExactFewestLampsUptoRow : OpenClaim := { program := "ythhilkahfgpncaa", sum := "7201995a2ff3b4862038fef8b25e1b4dc7c83d7b8a6b2bc09b1c1ac39cd8f6dd", func := "loop.example/g01063/laws.FnExactFewestLamps", spec := "fnExactFewestLamps", unfollowed := true, recurses := true, apart := false, narrowed := true }
def FnExactFewestLampsUptoSaid : Prop := fnExactFewestLampsUptoRow.holds Try.pinned (OpenSpec.upto fnExactFewestLampsSpec)

/-- 'laws.FnExactCheapestLamps', WHERE WHAT IT READS IS OF BULK AT MOST 1048576: true; the input reads as it did. -/
def fnExactCheapestLampsUptoRow : OpenClaim := { program := "ythhilkahfgpncaa", sum := "7201995a2ff3b4862038fef8b25e1b4dc7c83d7b8a6b2bc09b1c1ac39cd8f6dd", func := "loop.example/g01063/laws.FnExactCheapestLamps", spec := "fnExactCheapestLamps", unfollowed := true, recurses := true, apart := false, narrowed := true }
def FnExactCheapestLampsUptoSaid : Prop := fnExactCheapestLampsUptoRow.holds Try.pinned (OpenSpec.upto fnExactCheapestLampsSpec)

/-- 'laws.FnExactHallsLeft', WHERE WHAT IT READS IS OF BULK AT MOST 1048576: true; the input reads as it did. -/
def fnExactHallsLeftUptoRow : OpenClaim := { program := "ythhilkahfgpncaa", sum := "7201995a2ff3b4862038fef8b25e1b4dc7c83d7b8a6b2bc09b1c1ac39cd8f6dd", func := "loop.example/g01063/laws.FnExactHallsLeft", spec := "fnExactHallsLeft", unfollowed := true, recurses := true, apart := false, narrowed := true }
def FnExactHallsLeftUptoSaid : Prop := fnExactHallsLeftUptoRow.holds Try.pinned (OpenSpec.upto fnExactHallsLeftSpec)

/-- 'laws.FnExactBestLensMore', WHERE WHAT IT READS IS OF BULK AT MOST 1048576: true; the input reads as it did. -/
def fnExactBestLensMoreUptoRow : OpenClaim := { program := "ythhilkahfgpncaa", sum := "7201995a2ff3b4862038fef8b25e1b4dc7c83d7b8a6b2bc09b1c1ac39cd8f6dd", func := "loop.example/g01063/laws.FnExactBestLensMore", spec := "fnExactBestLensMore", unfollowed := true, recurses := true, apart := false, narrowed := true }
def FnExactBestLensMoreUptoSaid : Prop := fnExactBestLensMoreUptoRow.holds Try.pinned (OpenSpec.upto fnExactBestLensMoreSpec)

/-- 'laws.FnExactFewestLenses', WHERE WHAT IT READS IS OF BULK AT MOST 1048576: true; the input reads as it did. -/
def fnExactFewestLensesUptoRow : OpenClaim := { program := "ythhilkahfgpncaa", sum := "7201995a2ff3b4862038fef8b25e1b4dc7c83d7b8a6b2bc09b1c1ac39cd8f6dd", func := "loop.example/g01063/laws.FnExactFewestLenses", spec := "fnExactFewestLenses", unfollowed := true, recurses := true, apart := false, narrowed := true }
def FnExactFewestLensesUptoSaid : Prop := fnExactFewestLensesUptoRow.holds Try.pinned (OpenSpec.upto fnExactFewestLensesSpec)

end Rows
end Go.Proofs.Ythhilkahfgpncaa
