/-
  No cell of these rows narrows 'for every input' (looked for: loops, veiled, ifaces, maps, wideKeys, modest, calm, conditions, laid).
  DERIVED. THE GIVEN ROWS OF THIS SEAT. 9 by the template 'for every input the law returns true; each argument reads behind the call as it read before'; 0 by the template 'total and deterministic' (their statements: YtnjndlngkoadfaaTotals.lean).
  GIVEN WITH THE SEED: the statements are not yours to turn. If you find one false, say at which input.
  Laid BY PROGRAM, IN A SANDBOX (cutbox-rows.mjs): the forced cells as the released guide's own fill.sh prints them over the translation f091d6d0b5aa0069… (all of the seat's roots in one cut). By AI agents, Wed Nov 11 2026. No macro, syntax, notation, axiom, sorry.
-/
import Derived.Test.YtnjndlngkoadfaaChecked
import GoSem.Claim
import GoSem.ClaimJoined
import GoSem.ClaimMapViews
import Derived.JoinedTies
import Derived.KernelRfl
namespace Go.Proofs.Ytnjndlngkoadfaa
/- THE CELL 'sum', in the pinned program and in every row, IS THE sha256 OF THE DUMP (.gsa) THAT YtnjndlngkoadfaaProg.lean LOADS. Nothing in Lean hashes anything: it is a label: what it is worth is what the hold of that sum in a sandbox is worth. -/
noncomputable def Try.pinned : Pinned := { name := "ytnjndlngkoadfaa", sum := "f091d6d0b5aa00691d33c72c768c02d75a5df31011e523100c27846d0d25aa9b", checked := Try.checked }
namespace Rows
def none {H : Type} : Left H := { results := [], args := [] }

/-- 'laws.FnExactPageAt': WHATEVER THE INPUT: true; the input reads as it did. -/
def fnExactPageAtSpec : ChangeSpec := { name := "fnExactPageAt", fn := fun _ => fun
  | [d1, d2, d3] => { results := [.lit (.bool true)], args := [d1, d2, d3] }
  | _ => none }
def fnExactPageAtRow : OpenClaim := { program := "ytnjndlngkoadfaa", sum := "f091d6d0b5aa00691d33c72c768c02d75a5df31011e523100c27846d0d25aa9b", func := "loop.example/g01063/laws.FnExactPageAt", spec := "fnExactPageAt", apart := false }
def FnExactPageAtSaid : Prop := fnExactPageAtRow.holds Try.pinned (OpenSpec.ofChange fnExactPageAtSpec)

/-- ITS FALSE NEIGHBOUR: 'it returns false'. Refute it at one input. -/
def fnExactPageAtWrong : ChangeSpec := { name := "fnExactPageAt", fn := fun _ => fun
  | [d1, d2, d3] => { results := [.lit (.bool false)], args := [d1, d2, d3] }
  | _ => none }
def FnExactPageAtWrongFalsely : Prop := fnExactPageAtRow.holds Try.pinned (OpenSpec.ofChange fnExactPageAtWrong)

/-- 'laws.FnExactSameScenes': WHATEVER THE INPUT: true; the input reads as it did. -/
def fnExactSameScenesSpec : ChangeSpec := { name := "fnExactSameScenes", fn := fun _ => fun
  | [d1, d2] => { results := [.lit (.bool true)], args := [d1, d2] }
  | _ => none }
def fnExactSameScenesRow : OpenClaim := { program := "ytnjndlngkoadfaa", sum := "f091d6d0b5aa00691d33c72c768c02d75a5df31011e523100c27846d0d25aa9b", func := "loop.example/g01063/laws.FnExactSameScenes", spec := "fnExactSameScenes", apart := false }
def FnExactSameScenesSaid : Prop := fnExactSameScenesRow.holds Try.pinned (OpenSpec.ofChange fnExactSameScenesSpec)

/-- ITS FALSE NEIGHBOUR: 'it returns false'. Refute it at one input. -/
def fnExactSameScenesWrong : ChangeSpec := { name := "fnExactSameScenes", fn := fun _ => fun
  | [d1, d2] => { results := [.lit (.bool false)], args := [d1, d2] }
  | _ => none }
def FnExactSameScenesWrongFalsely : Prop := fnExactSameScenesRow.holds Try.pinned (OpenSpec.ofChange fnExactSameScenesWrong)

/-- 'laws.FnExactValidScenes': WHATEVER THE INPUT: true; the input reads as it did. -/
def fnExactValidScenesSpec : ChangeSpec := { name := "fnExactValidScenes", fn := fun _ => fun
  | [d] => { results := [.lit (.bool true)], args := [d] }
  | _ => none }
def fnExactValidScenesRow : OpenClaim := { program := "ytnjndlngkoadfaa", sum := "f091d6d0b5aa00691d33c72c768c02d75a5df31011e523100c27846d0d25aa9b", func := "loop.example/g01063/laws.FnExactValidScenes", spec := "fnExactValidScenes", apart := false }
def FnExactValidScenesSaid : Prop := fnExactValidScenesRow.holds Try.pinned (OpenSpec.ofChange fnExactValidScenesSpec)

/-- ITS FALSE NEIGHBOUR: 'it returns false'. Refute it at one input. -/
def fnExactValidScenesWrong : ChangeSpec := { name := "fnExactValidScenes", fn := fun _ => fun
  | [d] => { results := [.lit (.bool false)], args := [d] }
  | _ => none }
def FnExactValidScenesWrongFalsely : Prop := fnExactValidScenesRow.holds Try.pinned (OpenSpec.ofChange fnExactValidScenesWrong)

/-- 'laws.FnExactLengthOfScenes': WHATEVER THE INPUT: true; the input reads as it did. -/
def fnExactLengthOfScenesSpec : ChangeSpec := { name := "fnExactLengthOfScenes", fn := fun _ => fun
  | [d] => { results := [.lit (.bool true)], args := [d] }
  | _ => none }
def fnExactLengthOfScenesRow : OpenClaim := { program := "ytnjndlngkoadfaa", sum := "f091d6d0b5aa00691d33c72c768c02d75a5df31011e523100c27846d0d25aa9b", func := "loop.example/g01063/laws.FnExactLengthOfScenes", spec := "fnExactLengthOfScenes", apart := false }
def FnExactLengthOfScenesSaid : Prop := fnExactLengthOfScenesRow.holds Try.pinned (OpenSpec.ofChange fnExactLengthOfScenesSpec)

/-- ITS FALSE NEIGHBOUR: 'it returns false'. Refute it at one input. -/
def fnExactLengthOfScenesWrong : ChangeSpec := { name := "fnExactLengthOfScenes", fn := fun _ => fun
  | [d] => { results := [.lit (.bool false)], args := [d] }
  | _ => none }
def FnExactLengthOfScenesWrongFalsely : Prop := fnExactLengthOfScenesRow.holds Try.pinned (OpenSpec.ofChange fnExactLengthOfScenesWrong)

/-- 'laws.FnExactExactTick': WHATEVER THE INPUT: true; the input reads as it did. -/
def fnExactExactTickSpec : ChangeSpec := { name := "fnExactExactTick", fn := fun _ => fun
  | [d] => { results := [.lit (.bool true)], args := [d] }
  | _ => none }
def fnExactExactTickRow : OpenClaim := { program := "ytnjndlngkoadfaa", sum := "f091d6d0b5aa00691d33c72c768c02d75a5df31011e523100c27846d0d25aa9b", func := "loop.example/g01063/laws.FnExactExactTick", spec := "fnExactExactTick", unfollowed := true, recurses := true, apart := false }
def FnExactExactTickSaid : Prop := fnExactExactTickRow.holds Try.pinned (OpenSpec.ofChange fnExactExactTickSpec)

/-- ITS FALSE NEIGHBOUR: 'it returns false'. Refute it at one input. -/
def fnExactExactTickWrong : ChangeSpec := { name := "fnExactExactTick", fn := fun _ => fun
  | [d] => { results := [.lit (.bool false)], args := [d] }
  | _ => none }
def FnExactExactTickWrongFalsely : Prop := fnExactExactTickRow.holds Try.pinned (OpenSpec.ofChange fnExactExactTickWrong)

/-- 'laws.FnExactScenesOf': WHATEVER THE INPUT: true; the input reads as it did. -/
def fnExactScenesOfSpec : ChangeSpec := { name := "fnExactScenesOf", fn := fun _ => fun
  | [d1, d2] => { results := [.lit (.bool true)], args := [d1, d2] }
  | _ => none }
def fnExactScenesOfRow : OpenClaim := { program := "ytnjndlngkoadfaa", sum := "f091d6d0b5aa00691d33c72c768c02d75a5df31011e523100c27846d0d25aa9b", func := "loop.example/g01063/laws.FnExactScenesOf", spec := "fnExactScenesOf", apart := false }
def FnExactScenesOfSaid : Prop := fnExactScenesOfRow.holds Try.pinned (OpenSpec.ofChange fnExactScenesOfSpec)

/-- ITS FALSE NEIGHBOUR: 'it returns false'. Refute it at one input. -/
def fnExactScenesOfWrong : ChangeSpec := { name := "fnExactScenesOf", fn := fun _ => fun
  | [d1, d2] => { results := [.lit (.bool false)], args := [d1, d2] }
  | _ => none }
def FnExactScenesOfWrongFalsely : Prop := fnExactScenesOfRow.holds Try.pinned (OpenSpec.ofChange fnExactScenesOfWrong)

/-- 'laws.FnExactErrorOfBook': WHATEVER THE INPUT: true; the input reads as it did. -/
def fnExactErrorOfBookSpec : ChangeSpec := { name := "fnExactErrorOfBook", fn := fun _ => fun
  | [d1, d2] => { results := [.lit (.bool true)], args := [d1, d2] }
  | _ => none }
def fnExactErrorOfBookRow : OpenClaim := { program := "ytnjndlngkoadfaa", sum := "f091d6d0b5aa00691d33c72c768c02d75a5df31011e523100c27846d0d25aa9b", func := "loop.example/g01063/laws.FnExactErrorOfBook", spec := "fnExactErrorOfBook", apart := false }
def FnExactErrorOfBookSaid : Prop := fnExactErrorOfBookRow.holds Try.pinned (OpenSpec.ofChange fnExactErrorOfBookSpec)

/-- ITS FALSE NEIGHBOUR: 'it returns false'. Refute it at one input. -/
def fnExactErrorOfBookWrong : ChangeSpec := { name := "fnExactErrorOfBook", fn := fun _ => fun
  | [d1, d2] => { results := [.lit (.bool false)], args := [d1, d2] }
  | _ => none }
def FnExactErrorOfBookWrongFalsely : Prop := fnExactErrorOfBookRow.holds Try.pinned (OpenSpec.ofChange fnExactErrorOfBookWrong)

/-- 'laws.FnExactBestTick': WHATEVER THE INPUT: true; the input reads as it did. -/
def fnExactBestTickSpec : ChangeSpec := { name := "fnExactBestTick", fn := fun _ => fun
  | [d1, d2] => { results := [.lit (.bool true)], args := [d1, d2] }
  | _ => none }
def fnExactBestTickRow : OpenClaim := { program := "ytnjndlngkoadfaa", sum := "f091d6d0b5aa00691d33c72c768c02d75a5df31011e523100c27846d0d25aa9b", func := "loop.example/g01063/laws.FnExactBestTick", spec := "fnExactBestTick", apart := false }
def FnExactBestTickSaid : Prop := fnExactBestTickRow.holds Try.pinned (OpenSpec.ofChange fnExactBestTickSpec)

/-- ITS FALSE NEIGHBOUR: 'it returns false'. Refute it at one input. -/
def fnExactBestTickWrong : ChangeSpec := { name := "fnExactBestTick", fn := fun _ => fun
  | [d1, d2] => { results := [.lit (.bool false)], args := [d1, d2] }
  | _ => none }
def FnExactBestTickWrongFalsely : Prop := fnExactBestTickRow.holds Try.pinned (OpenSpec.ofChange fnExactBestTickWrong)

/-- 'laws.FnExactBookFor': WHATEVER THE INPUT: true; the input reads as it did. -/
def fnExactBookForSpec : ChangeSpec := { name := "fnExactBookFor", fn := fun _ => fun
  | [d1, d2] => { results := [.lit (.bool true)], args := [d1, d2] }
  | _ => none }
def fnExactBookForRow : OpenClaim := { program := "ytnjndlngkoadfaa", sum := "f091d6d0b5aa00691d33c72c768c02d75a5df31011e523100c27846d0d25aa9b", func := "loop.example/g01063/laws.FnExactBookFor", spec := "fnExactBookFor", inPlace := ["internal/abi.NoEscape", "internal/bytealg.MakeNoZero"], apart := false }
def FnExactBookForSaid : Prop := fnExactBookForRow.holds Try.pinned (OpenSpec.ofChange fnExactBookForSpec)

/-- ITS FALSE NEIGHBOUR: 'it returns false'. Refute it at one input. -/
def fnExactBookForWrong : ChangeSpec := { name := "fnExactBookFor", fn := fun _ => fun
  | [d1, d2] => { results := [.lit (.bool false)], args := [d1, d2] }
  | _ => none }
def FnExactBookForWrongFalsely : Prop := fnExactBookForRow.holds Try.pinned (OpenSpec.ofChange fnExactBookForWrong)

/- THE SECOND FORM. 'bulk': how many values and letters a reading holds, each counted each time it is reached (what is shared counts as often as it is met; a slice's spare places count too). A statement '..UptoSaid' is the law's where the arguments, and the package variables that the reading takes, are together of bulk at most 1048576: NARROWER than '..Said'. Prove '..Said' where nothing that the law and all that it calls make is longer than what came in: it says more and counts as full. Else prove '..UptoSaid'. A law counts once. -/
mutual
def uptoBulk {H : Type} : DataW H → Nat
  | .lit (.string bytes) => bytes.length + 1
  | .lit _ => 1
  | .nil => 1
  | .ptr d => uptoBulk d + 1
  | .slice elems spare => uptoBulkAll elems + uptoBulkAll spare + 1
  | .agg parts => uptoBulkAll parts + 1
  | .iface _ d => uptoBulk d + 1
  | .map entries => uptoBulkEntries entries + 1
  | .held _ => 1
def uptoBulkAll {H : Type} : List (DataW H) → Nat
  | [] => 0
  | d :: r => uptoBulk d + uptoBulkAll r
def uptoBulkEntries {H : Type} : List (Lit × DataW H) → Nat
  | [] => 0
  | x :: r => uptoBulkEntry x + uptoBulkEntries r
def uptoBulkEntry {H : Type} : Lit × DataW H → Nat
  | (.string bytes, d) => bytes.length + uptoBulk d + 1
  | (_, d) => uptoBulk d + 1
 end
def uptoSmall : (H : Type) → List (DataW H) → Bool := fun _ ds => decide (uptoBulkAll ds ≤ 1048576)
def OpenSpec.upto (s : _root_.Go.ChangeSpec) : _root_.Go.OpenSpec := { _root_.Go.OpenSpec.ofChange s with cond := some uptoSmall }

/-- 'laws.FnExactPageAt', WHERE WHAT IT READS IS OF BULK AT MOST 1048576: true; the input reads as it did. -/
def fnExactPageAtUptoRow : OpenClaim := { program := "ytnjndlngkoadfaa", sum := "f091d6d0b5aa00691d33c72c768c02d75a5df31011e523100c27846d0d25aa9b", func := "loop.example/g01063/laws.FnExactPageAt", spec := "fnExactPageAt", apart := false, narrowed := true }
def FnExactPageAtUptoSaid : Prop := fnExactPageAtUptoRow.holds Try.pinned (OpenSpec.upto fnExactPageAtSpec)

/-- 'laws.FnExactSameScenes', WHERE WHAT IT READS IS OF BULK AT MOST 1048576: true; the input reads as it did. -/
def fnExactSameScenesUptoRow : OpenClaim := { program := "ytnjndlngkoadfaa", sum := "f091d6d0b5aa00691d33c72c768c02d75a5df31011e523100c27846d0d25aa9b", func := "loop.example/g01063/laws.FnExactSameScenes", spec := "fnExactSameScenes", apart := false, narrowed := true }
def FnExactSameScenesUptoSaid : Prop := fnExactSameScenesUptoRow.holds Try.pinned (OpenSpec.upto fnExactSameScenesSpec)

/-- 'laws.FnExactValidScenes', WHERE WHAT IT READS IS OF BULK AT MOST 1048576: true; the input reads as it did. -/
def fnExactValidScenesUptoRow : OpenClaim := { program := "ytnjndlngkoadfaa", sum := "f091d6d0b5aa00691d33c72c768c02d75a5df31011e523100c27846d0d25aa9b", func := "loop.example/g01063/laws.FnExactValidScenes", spec := "fnExactValidScenes", apart := false, narrowed := true }
def FnExactValidScenesUptoSaid : Prop := fnExactValidScenesUptoRow.holds Try.pinned (OpenSpec.upto fnExactValidScenesSpec)

/-- 'laws.FnExactLengthOfScenes', WHERE WHAT IT READS IS OF BULK AT MOST 1048576: true; the input reads as it did. -/
def fnExactLengthOfScenesUptoRow : OpenClaim := { program := "ytnjndlngkoadfaa", sum := "f091d6d0b5aa00691d33c72c768c02d75a5df31011e523100c27846d0d25aa9b", func := "loop.example/g01063/laws.FnExactLengthOfScenes", spec := "fnExactLengthOfScenes", apart := false, narrowed := true }
def FnExactLengthOfScenesUptoSaid : Prop := fnExactLengthOfScenesUptoRow.holds Try.pinned (OpenSpec.upto fnExactLengthOfScenesSpec)

/-- 'laws.FnExactExactTick', WHERE WHAT IT READS IS OF BULK AT MOST 1048576: true; the input reads as it did. -/
def fnExactExactTickUptoRow : OpenClaim := { program := "ytnjndlngkoadfaa", sum := "f091d6d0b5aa00691d33c72c768c02d75a5df31011e523100c27846d0d25aa9b", func := "loop.example/g01063/laws.FnExactExactTick", spec := "fnExactExactTick", unfollowed := true, recurses := true, apart := false, narrowed := true }
def FnExactExactTickUptoSaid : Prop := fnExactExactTickUptoRow.holds Try.pinned (OpenSpec.upto fnExactExactTickSpec)

/-- 'laws.FnExactScenesOf', WHERE WHAT IT READS IS OF BULK AT MOST 1048576: true; the input reads as it did. -/
def fnExactScenesOfUptoRow : OpenClaim := { program := "ytnjndlngkoadfaa", sum := "f091d6d0b5aa00691d33c72c768c02d75a5df31011e523100c27846d0d25aa9b", func := "loop.example/g01063/laws.FnExactScenesOf", spec := "fnExactScenesOf", apart := false, narrowed := true }
def FnExactScenesOfUptoSaid : Prop := fnExactScenesOfUptoRow.holds Try.pinned (OpenSpec.upto fnExactScenesOfSpec)

/-- 'laws.FnExactErrorOfBook', WHERE WHAT IT READS IS OF BULK AT MOST 1048576: true; the input reads as it did. -/
def fnExactErrorOfBookUptoRow : OpenClaim := { program := "ytnjndlngkoadfaa", sum := "f091d6d0b5aa00691d33c72c768c02d75a5df31011e523100c27846d0d25aa9b", func := "loop.example/g01063/laws.FnExactErrorOfBook", spec := "fnExactErrorOfBook", apart := false, narrowed := true }
def FnExactErrorOfBookUptoSaid : Prop := fnExactErrorOfBookUptoRow.holds Try.pinned (OpenSpec.upto fnExactErrorOfBookSpec)

/-- 'laws.FnExactBestTick', WHERE WHAT IT READS IS OF BULK AT MOST 1048576: true; the input reads as it did. -/
def fnExactBestTickUptoRow : OpenClaim := { program := "ytnjndlngkoadfaa", sum := "f091d6d0b5aa00691d33c72c768c02d75a5df31011e523100c27846d0d25aa9b", func := "loop.example/g01063/laws.FnExactBestTick", spec := "fnExactBestTick", apart := false, narrowed := true }
def FnExactBestTickUptoSaid : Prop := fnExactBestTickUptoRow.holds Try.pinned (OpenSpec.upto fnExactBestTickSpec)

/-- 'laws.FnExactBookFor', WHERE WHAT IT READS IS OF BULK AT MOST 1048576: true; the input reads as it did. -/
def fnExactBookForUptoRow : OpenClaim := { program := "ytnjndlngkoadfaa", sum := "f091d6d0b5aa00691d33c72c768c02d75a5df31011e523100c27846d0d25aa9b", func := "loop.example/g01063/laws.FnExactBookFor", spec := "fnExactBookFor", inPlace := ["internal/abi.NoEscape", "internal/bytealg.MakeNoZero"], apart := false, narrowed := true }
def FnExactBookForUptoSaid : Prop := fnExactBookForUptoRow.holds Try.pinned (OpenSpec.upto fnExactBookForSpec)

end Rows
end Go.Proofs.Ytnjndlngkoadfaa
