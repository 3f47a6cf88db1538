/-
  No cell of these rows narrows 'for every input' (looked for: loops, veiled, ifaces, maps, wideKeys, modest, calm, conditions, laid).
  DERIVED. THE GIVEN ROWS OF THIS SEAT. 13 by the template 'for every input the law returns true; each argument reads behind the call as it read before'; 0 by the template 'total and deterministic' (their statements: YtiplokbcojdcdaaTotals.lean).
  GIVEN WITH THE SEED: the statements are not yours to turn. If you find one false, say at which input.
  Laid BY PROGRAM, IN A SANDBOX (cutbox-rows.mjs): the forced cells as the released guide's own fill.sh prints them over the translation ed7ff96d30b77638… (all of the seat's roots in one cut). By AI agents, Wed Nov 11 2026. No macro, syntax, notation, axiom, sorry.
-/
import Derived.Test.YtiplokbcojdcdaaChecked
import GoSem.Claim
import GoSem.ClaimJoined
import GoSem.ClaimMapViews
import Derived.JoinedTies
import Derived.KernelRfl
namespace Go.Proofs.Ytiplokbcojdcdaa
/- THE CELL 'sum', in the pinned program and in every row, IS THE sha256 OF THE DUMP (.gsa) THAT YtiplokbcojdcdaaProg.lean LOADS. Nothing in Lean hashes anything: it is a label: what it is worth is what the hold of that sum in a sandbox is worth. -/
noncomputable def Try.pinned : Pinned := { name := "ytiplokbcojdcdaa", sum := "ed7ff96d30b77638049231a0fffa2d924ee043109d05e658504a4f9f518f4987", checked := Try.checked }
namespace Rows
def none {H : Type} : Left H := { results := [], args := [] }

/-- 'laws.FnExactScreenArea': WHATEVER THE INPUT: true; the input reads as it did. -/
def fnExactScreenAreaSpec : ChangeSpec := { name := "fnExactScreenArea", fn := fun _ => fun
  | [d1, d2] => { results := [.lit (.bool true)], args := [d1, d2] }
  | _ => none }
def fnExactScreenAreaRow : OpenClaim := { program := "ytiplokbcojdcdaa", sum := "ed7ff96d30b77638049231a0fffa2d924ee043109d05e658504a4f9f518f4987", func := "loop.example/g01063/laws.FnExactScreenArea", spec := "fnExactScreenArea", apart := false }
def FnExactScreenAreaSaid : Prop := fnExactScreenAreaRow.holds Try.pinned (OpenSpec.ofChange fnExactScreenAreaSpec)

/-- ITS FALSE NEIGHBOUR: 'it returns false'. Refute it at one input. -/
def fnExactScreenAreaWrong : ChangeSpec := { name := "fnExactScreenArea", fn := fun _ => fun
  | [d1, d2] => { results := [.lit (.bool false)], args := [d1, d2] }
  | _ => none }
def FnExactScreenAreaWrongFalsely : Prop := fnExactScreenAreaRow.holds Try.pinned (OpenSpec.ofChange fnExactScreenAreaWrong)

/-- 'laws.FnExactBrightnessOf': WHATEVER THE INPUT: true; the input reads as it did. -/
def fnExactBrightnessOfSpec : ChangeSpec := { name := "fnExactBrightnessOf", fn := fun _ => fun
  | [d1, d2, d3] => { results := [.lit (.bool true)], args := [d1, d2, d3] }
  | _ => none }
def fnExactBrightnessOfRow : OpenClaim := { program := "ytiplokbcojdcdaa", sum := "ed7ff96d30b77638049231a0fffa2d924ee043109d05e658504a4f9f518f4987", func := "loop.example/g01063/laws.FnExactBrightnessOf", spec := "fnExactBrightnessOf", apart := false }
def FnExactBrightnessOfSaid : Prop := fnExactBrightnessOfRow.holds Try.pinned (OpenSpec.ofChange fnExactBrightnessOfSpec)

/-- ITS FALSE NEIGHBOUR: 'it returns false'. Refute it at one input. -/
def fnExactBrightnessOfWrong : ChangeSpec := { name := "fnExactBrightnessOf", fn := fun _ => fun
  | [d1, d2, d3] => { results := [.lit (.bool false)], args := [d1, d2, d3] }
  | _ => none }
def FnExactBrightnessOfWrongFalsely : Prop := fnExactBrightnessOfRow.holds Try.pinned (OpenSpec.ofChange fnExactBrightnessOfWrong)

/-- 'laws.FnExactCornerLight': WHATEVER THE INPUT: true; the input reads as it did. -/
def fnExactCornerLightSpec : ChangeSpec := { name := "fnExactCornerLight", fn := fun _ => fun
  | [d1, d2] => { results := [.lit (.bool true)], args := [d1, d2] }
  | _ => none }
def fnExactCornerLightRow : OpenClaim := { program := "ytiplokbcojdcdaa", sum := "ed7ff96d30b77638049231a0fffa2d924ee043109d05e658504a4f9f518f4987", func := "loop.example/g01063/laws.FnExactCornerLight", spec := "fnExactCornerLight", apart := false }
def FnExactCornerLightSaid : Prop := fnExactCornerLightRow.holds Try.pinned (OpenSpec.ofChange fnExactCornerLightSpec)

/-- ITS FALSE NEIGHBOUR: 'it returns false'. Refute it at one input. -/
def fnExactCornerLightWrong : ChangeSpec := { name := "fnExactCornerLight", fn := fun _ => fun
  | [d1, d2] => { results := [.lit (.bool false)], args := [d1, d2] }
  | _ => none }
def FnExactCornerLightWrongFalsely : Prop := fnExactCornerLightRow.holds Try.pinned (OpenSpec.ofChange fnExactCornerLightWrong)

/-- 'laws.FnExactEnlargementOf': WHATEVER THE INPUT: true; the input reads as it did. -/
def fnExactEnlargementOfSpec : ChangeSpec := { name := "fnExactEnlargementOf", fn := fun _ => fun
  | [d1, d2] => { results := [.lit (.bool true)], args := [d1, d2] }
  | _ => none }
def fnExactEnlargementOfRow : OpenClaim := { program := "ytiplokbcojdcdaa", sum := "ed7ff96d30b77638049231a0fffa2d924ee043109d05e658504a4f9f518f4987", func := "loop.example/g01063/laws.FnExactEnlargementOf", spec := "fnExactEnlargementOf", apart := false }
def FnExactEnlargementOfSaid : Prop := fnExactEnlargementOfRow.holds Try.pinned (OpenSpec.ofChange fnExactEnlargementOfSpec)

/-- ITS FALSE NEIGHBOUR: 'it returns false'. Refute it at one input. -/
def fnExactEnlargementOfWrong : ChangeSpec := { name := "fnExactEnlargementOf", fn := fun _ => fun
  | [d1, d2] => { results := [.lit (.bool false)], args := [d1, d2] }
  | _ => none }
def FnExactEnlargementOfWrongFalsely : Prop := fnExactEnlargementOfRow.holds Try.pinned (OpenSpec.ofChange fnExactEnlargementOfWrong)

/-- 'laws.FnLenses': WHATEVER THE INPUT: true; the input reads as it did. -/
def fnLensesSpec : ChangeSpec := { name := "fnLenses", fn := fun _ => fun
  | [d1, d2] => { results := [.lit (.bool true)], args := [d1, d2] }
  | _ => none }
def fnLensesRow : OpenClaim := { program := "ytiplokbcojdcdaa", sum := "ed7ff96d30b77638049231a0fffa2d924ee043109d05e658504a4f9f518f4987", func := "loop.example/g01063/laws.FnLenses", spec := "fnLenses", apart := false }
def FnLensesSaid : Prop := fnLensesRow.holds Try.pinned (OpenSpec.ofChange fnLensesSpec)

/-- ITS FALSE NEIGHBOUR: 'it returns false'. Refute it at one input. -/
def fnLensesWrong : ChangeSpec := { name := "fnLenses", fn := fun _ => fun
  | [d1, d2] => { results := [.lit (.bool false)], args := [d1, d2] }
  | _ => none }
def FnLensesWrongFalsely : Prop := fnLensesRow.holds Try.pinned (OpenSpec.ofChange fnLensesWrong)

/-- 'laws.FnExactFocalFor': WHATEVER THE INPUT: true; the input reads as it did. -/
def fnExactFocalForSpec : ChangeSpec := { name := "fnExactFocalFor", fn := fun _ => fun
  | [d1, d2, d3] => { results := [.lit (.bool true)], args := [d1, d2, d3] }
  | _ => none }
def fnExactFocalForRow : OpenClaim := { program := "ytiplokbcojdcdaa", sum := "ed7ff96d30b77638049231a0fffa2d924ee043109d05e658504a4f9f518f4987", func := "loop.example/g01063/laws.FnExactFocalFor", spec := "fnExactFocalFor", apart := false }
def FnExactFocalForSaid : Prop := fnExactFocalForRow.holds Try.pinned (OpenSpec.ofChange fnExactFocalForSpec)

/-- ITS FALSE NEIGHBOUR: 'it returns false'. Refute it at one input. -/
def fnExactFocalForWrong : ChangeSpec := { name := "fnExactFocalFor", fn := fun _ => fun
  | [d1, d2, d3] => { results := [.lit (.bool false)], args := [d1, d2, d3] }
  | _ => none }
def FnExactFocalForWrongFalsely : Prop := fnExactFocalForRow.holds Try.pinned (OpenSpec.ofChange fnExactFocalForWrong)

/-- 'laws.FnExactJoinLenses': WHATEVER THE INPUT: true; the input reads as it did. -/
def fnExactJoinLensesSpec : ChangeSpec := { name := "fnExactJoinLenses", fn := fun _ => fun
  | [d1, d2] => { results := [.lit (.bool true)], args := [d1, d2] }
  | _ => none }
def fnExactJoinLensesRow : OpenClaim := { program := "ytiplokbcojdcdaa", sum := "ed7ff96d30b77638049231a0fffa2d924ee043109d05e658504a4f9f518f4987", func := "loop.example/g01063/laws.FnExactJoinLenses", spec := "fnExactJoinLenses", apart := false }
def FnExactJoinLensesSaid : Prop := fnExactJoinLensesRow.holds Try.pinned (OpenSpec.ofChange fnExactJoinLensesSpec)

/-- ITS FALSE NEIGHBOUR: 'it returns false'. Refute it at one input. -/
def fnExactJoinLensesWrong : ChangeSpec := { name := "fnExactJoinLenses", fn := fun _ => fun
  | [d1, d2] => { results := [.lit (.bool false)], args := [d1, d2] }
  | _ => none }
def FnExactJoinLensesWrongFalsely : Prop := fnExactJoinLensesRow.holds Try.pinned (OpenSpec.ofChange fnExactJoinLensesWrong)

/-- 'laws.FnExactThrowFor': WHATEVER THE INPUT: true; the input reads as it did. -/
def fnExactThrowForSpec : ChangeSpec := { name := "fnExactThrowFor", fn := fun _ => fun
  | [d1, d2, d3] => { results := [.lit (.bool true)], args := [d1, d2, d3] }
  | _ => none }
def fnExactThrowForRow : OpenClaim := { program := "ytiplokbcojdcdaa", sum := "ed7ff96d30b77638049231a0fffa2d924ee043109d05e658504a4f9f518f4987", func := "loop.example/g01063/laws.FnExactThrowFor", spec := "fnExactThrowFor", apart := false }
def FnExactThrowForSaid : Prop := fnExactThrowForRow.holds Try.pinned (OpenSpec.ofChange fnExactThrowForSpec)

/-- ITS FALSE NEIGHBOUR: 'it returns false'. Refute it at one input. -/
def fnExactThrowForWrong : ChangeSpec := { name := "fnExactThrowFor", fn := fun _ => fun
  | [d1, d2, d3] => { results := [.lit (.bool false)], args := [d1, d2, d3] }
  | _ => none }
def FnExactThrowForWrongFalsely : Prop := fnExactThrowForRow.holds Try.pinned (OpenSpec.ofChange fnExactThrowForWrong)

/-- 'laws.FnExactBrightnessAt': WHATEVER THE INPUT: true; the input reads as it did. -/
def fnExactBrightnessAtSpec : ChangeSpec := { name := "fnExactBrightnessAt", fn := fun _ => fun
  | [d1, d2, d3] => { results := [.lit (.bool true)], args := [d1, d2, d3] }
  | _ => none }
def fnExactBrightnessAtRow : OpenClaim := { program := "ytiplokbcojdcdaa", sum := "ed7ff96d30b77638049231a0fffa2d924ee043109d05e658504a4f9f518f4987", func := "loop.example/g01063/laws.FnExactBrightnessAt", spec := "fnExactBrightnessAt", apart := false }
def FnExactBrightnessAtSaid : Prop := fnExactBrightnessAtRow.holds Try.pinned (OpenSpec.ofChange fnExactBrightnessAtSpec)

/-- ITS FALSE NEIGHBOUR: 'it returns false'. Refute it at one input. -/
def fnExactBrightnessAtWrong : ChangeSpec := { name := "fnExactBrightnessAt", fn := fun _ => fun
  | [d1, d2, d3] => { results := [.lit (.bool false)], args := [d1, d2, d3] }
  | _ => none }
def FnExactBrightnessAtWrongFalsely : Prop := fnExactBrightnessAtRow.holds Try.pinned (OpenSpec.ofChange fnExactBrightnessAtWrong)

/-- 'laws.FnExactFarthestFor': WHATEVER THE INPUT: true; the input reads as it did. -/
def fnExactFarthestForSpec : ChangeSpec := { name := "fnExactFarthestFor", fn := fun _ => fun
  | [d1, d2, d3] => { results := [.lit (.bool true)], args := [d1, d2, d3] }
  | _ => none }
def fnExactFarthestForRow : OpenClaim := { program := "ytiplokbcojdcdaa", sum := "ed7ff96d30b77638049231a0fffa2d924ee043109d05e658504a4f9f518f4987", func := "loop.example/g01063/laws.FnExactFarthestFor", spec := "fnExactFarthestFor", apart := false }
def FnExactFarthestForSaid : Prop := fnExactFarthestForRow.holds Try.pinned (OpenSpec.ofChange fnExactFarthestForSpec)

/-- ITS FALSE NEIGHBOUR: 'it returns false'. Refute it at one input. -/
def fnExactFarthestForWrong : ChangeSpec := { name := "fnExactFarthestFor", fn := fun _ => fun
  | [d1, d2, d3] => { results := [.lit (.bool false)], args := [d1, d2, d3] }
  | _ => none }
def FnExactFarthestForWrongFalsely : Prop := fnExactFarthestForRow.holds Try.pinned (OpenSpec.ofChange fnExactFarthestForWrong)

/-- 'laws.FnExactImageAt': WHATEVER THE INPUT: true; the input reads as it did. -/
def fnExactImageAtSpec : ChangeSpec := { name := "fnExactImageAt", fn := fun _ => fun
  | [d1, d2] => { results := [.lit (.bool true)], args := [d1, d2] }
  | _ => none }
def fnExactImageAtRow : OpenClaim := { program := "ytiplokbcojdcdaa", sum := "ed7ff96d30b77638049231a0fffa2d924ee043109d05e658504a4f9f518f4987", func := "loop.example/g01063/laws.FnExactImageAt", spec := "fnExactImageAt", apart := false }
def FnExactImageAtSaid : Prop := fnExactImageAtRow.holds Try.pinned (OpenSpec.ofChange fnExactImageAtSpec)

/-- ITS FALSE NEIGHBOUR: 'it returns false'. Refute it at one input. -/
def fnExactImageAtWrong : ChangeSpec := { name := "fnExactImageAt", fn := fun _ => fun
  | [d1, d2] => { results := [.lit (.bool false)], args := [d1, d2] }
  | _ => none }
def FnExactImageAtWrongFalsely : Prop := fnExactImageAtRow.holds Try.pinned (OpenSpec.ofChange fnExactImageAtWrong)

/-- 'laws.FnExactObjectFor': WHATEVER THE INPUT: true; the input reads as it did. -/
def fnExactObjectForSpec : ChangeSpec := { name := "fnExactObjectFor", fn := fun _ => fun
  | [d1, d2] => { results := [.lit (.bool true)], args := [d1, d2] }
  | _ => none }
def fnExactObjectForRow : OpenClaim := { program := "ytiplokbcojdcdaa", sum := "ed7ff96d30b77638049231a0fffa2d924ee043109d05e658504a4f9f518f4987", func := "loop.example/g01063/laws.FnExactObjectFor", spec := "fnExactObjectFor", apart := false }
def FnExactObjectForSaid : Prop := fnExactObjectForRow.holds Try.pinned (OpenSpec.ofChange fnExactObjectForSpec)

/-- ITS FALSE NEIGHBOUR: 'it returns false'. Refute it at one input. -/
def fnExactObjectForWrong : ChangeSpec := { name := "fnExactObjectFor", fn := fun _ => fun
  | [d1, d2] => { results := [.lit (.bool false)], args := [d1, d2] }
  | _ => none }
def FnExactObjectForWrongFalsely : Prop := fnExactObjectForRow.holds Try.pinned (OpenSpec.ofChange fnExactObjectForWrong)

/-- 'laws.FnExactScreenSize': WHATEVER THE INPUT: true; the input reads as it did. -/
def fnExactScreenSizeSpec : ChangeSpec := { name := "fnExactScreenSize", fn := fun _ => fun
  | [d1, d2, d3] => { results := [.lit (.bool true)], args := [d1, d2, d3] }
  | _ => none }
def fnExactScreenSizeRow : OpenClaim := { program := "ytiplokbcojdcdaa", sum := "ed7ff96d30b77638049231a0fffa2d924ee043109d05e658504a4f9f518f4987", func := "loop.example/g01063/laws.FnExactScreenSize", spec := "fnExactScreenSize", apart := false }
def FnExactScreenSizeSaid : Prop := fnExactScreenSizeRow.holds Try.pinned (OpenSpec.ofChange fnExactScreenSizeSpec)

/-- ITS FALSE NEIGHBOUR: 'it returns false'. Refute it at one input. -/
def fnExactScreenSizeWrong : ChangeSpec := { name := "fnExactScreenSize", fn := fun _ => fun
  | [d1, d2, d3] => { results := [.lit (.bool false)], args := [d1, d2, d3] }
  | _ => none }
def FnExactScreenSizeWrongFalsely : Prop := fnExactScreenSizeRow.holds Try.pinned (OpenSpec.ofChange fnExactScreenSizeWrong)

/- THE SECOND FORM. 'bulk': how many values and letters a reading holds, each counted each time it is reached (what is shared counts as often as it is met; a slice's spare places count too). A statement '..UptoSaid' is the law's where the arguments, and the package variables that the reading takes, are together of bulk at most 1048576: NARROWER than '..Said'. Prove '..Said' where nothing that the law and all that it calls make is longer than what came in: it says more and counts as full. Else prove '..UptoSaid'. A law counts once. -/
mutual
def uptoBulk {H : Type} : DataW H → Nat
  | .lit (.string bytes) => bytes.length + 1
  | .lit _ => 1
  | .nil => 1
  | .ptr d => uptoBulk d + 1
  | .slice elems spare => uptoBulkAll elems + uptoBulkAll spare + 1
  | .agg parts => uptoBulkAll parts + 1
  | .iface _ d => uptoBulk d + 1
  | .map entries => uptoBulkEntries entries + 1
  | .held _ => 1
def uptoBulkAll {H : Type} : List (DataW H) → Nat
  | [] => 0
  | d :: r => uptoBulk d + uptoBulkAll r
def uptoBulkEntries {H : Type} : List (Lit × DataW H) → Nat
  | [] => 0
  | x :: r => uptoBulkEntry x + uptoBulkEntries r
def uptoBulkEntry {H : Type} : Lit × DataW H → Nat
  | (.string bytes, d) => bytes.length + uptoBulk d + 1
  | (_, d) => uptoBulk d + 1
 end
def uptoSmall : (H : Type) → List (DataW H) → Bool := fun _ ds => decide (uptoBulkAll ds ≤ 1048576)
def OpenSpec.upto (s : _root_.Go.ChangeSpec) : _root_.Go.OpenSpec := { _root_.Go.OpenSpec.ofChange s with cond := some uptoSmall }

/-- 'laws.FnExactScreenArea', WHERE WHAT IT READS IS OF BULK AT MOST 1048576: true; the input reads as it did. -/
def fnExactScreenAreaUptoRow : OpenClaim := { program := "ytiplokbcojdcdaa", sum := "ed7ff96d30b77638049231a0fffa2d924ee043109d05e658504a4f9f518f4987", func := "loop.example/g01063/laws.FnExactScreenArea", spec := "fnExactScreenArea", apart := false, narrowed := true }
def FnExactScreenAreaUptoSaid : Prop := fnExactScreenAreaUptoRow.holds Try.pinned (OpenSpec.upto fnExactScreenAreaSpec)

/-- 'laws.FnExactBrightnessOf', WHERE WHAT IT READS IS OF BULK AT MOST 1048576: true; the input reads as it did. -/
def fnExactBrightnessOfUptoRow : OpenClaim := { program := "ytiplokbcojdcdaa", sum := "ed7ff96d30b77638049231a0fffa2d924ee043109d05e658504a4f9f518f4987", func := "loop.example/g01063/laws.FnExactBrightnessOf", spec := "fnExactBrightnessOf", apart := false, narrowed := true }
def FnExactBrightnessOfUptoSaid : Prop := fnExactBrightnessOfUptoRow.holds Try.pinned (OpenSpec.upto fnExactBrightnessOfSpec)

/-- 'laws.FnExactCornerLight', WHERE WHAT IT READS IS OF BULK AT MOST 1048576: true; the input reads as it did. -/
def fnExactCornerLightUptoRow : OpenClaim := { program := "ytiplokbcojdcdaa", sum := "ed7ff96d30b77638049231a0fffa2d924ee043109d05e658504a4f9f518f4987", func := "loop.example/g01063/laws.FnExactCornerLight", spec := "fnExactCornerLight", apart := false, narrowed := true }
def FnExactCornerLightUptoSaid : Prop := fnExactCornerLightUptoRow.holds Try.pinned (OpenSpec.upto fnExactCornerLightSpec)

/-- 'laws.FnExactEnlargementOf', WHERE WHAT IT READS IS OF BULK AT MOST 1048576: true; the input reads as it did. -/
def fnExactEnlargementOfUptoRow : OpenClaim := { program := "ytiplokbcojdcdaa", sum := "ed7ff96d30b77638049231a0fffa2d924ee043109d05e658504a4f9f518f4987", func := "loop.example/g01063/laws.FnExactEnlargementOf", spec := "fnExactEnlargementOf", apart := false, narrowed := true }
def FnExactEnlargementOfUptoSaid : Prop := fnExactEnlargementOfUptoRow.holds Try.pinned (OpenSpec.upto fnExactEnlargementOfSpec)

/-- 'laws.FnLenses', WHERE WHAT IT READS IS OF BULK AT MOST 1048576: true; the input reads as it did. -/
def fnLensesUptoRow : OpenClaim := { program := "ytiplokbcojdcdaa", sum := "ed7ff96d30b77638049231a0fffa2d924ee043109d05e658504a4f9f518f4987", func := "loop.example/g01063/laws.FnLenses", spec := "fnLenses", apart := false, narrowed := true }
def FnLensesUptoSaid : Prop := fnLensesUptoRow.holds Try.pinned (OpenSpec.upto fnLensesSpec)

/-- 'laws.FnExactFocalFor', WHERE WHAT IT READS IS OF BULK AT MOST 1048576: true; the input reads as it did. -/
def fnExactFocalForUptoRow : OpenClaim := { program := "ytiplokbcojdcdaa", sum := "ed7ff96d30b77638049231a0fffa2d924ee043109d05e658504a4f9f518f4987", func := "loop.example/g01063/laws.FnExactFocalFor", spec := "fnExactFocalFor", apart := false, narrowed := true }
def FnExactFocalForUptoSaid : Prop := fnExactFocalForUptoRow.holds Try.pinned (OpenSpec.upto fnExactFocalForSpec)

/-- 'laws.FnExactJoinLenses', WHERE WHAT IT READS IS OF BULK AT MOST 1048576: true; the input reads as it did. -/
def fnExactJoinLensesUptoRow : OpenClaim := { program := "ytiplokbcojdcdaa", sum := "ed7ff96d30b77638049231a0fffa2d924ee043109d05e658504a4f9f518f4987", func := "loop.example/g01063/laws.FnExactJoinLenses", spec := "fnExactJoinLenses", apart := false, narrowed := true }
def FnExactJoinLensesUptoSaid : Prop := fnExactJoinLensesUptoRow.holds Try.pinned (OpenSpec.upto fnExactJoinLensesSpec)

/-- 'laws.FnExactThrowFor', WHERE WHAT IT READS IS OF BULK AT MOST 1048576: true; the input reads as it did. -/
def fnExactThrowForUptoRow : OpenClaim := { program := "ytiplokbcojdcdaa", sum := "ed7ff96d30b77638049231a0fffa2d924ee043109d05e658504a4f9f518f4987", func := "loop.example/g01063/laws.FnExactThrowFor", spec := "fnExactThrowFor", apart := false, narrowed := true }
def FnExactThrowForUptoSaid : Prop := fnExactThrowForUptoRow.holds Try.pinned (OpenSpec.upto fnExactThrowForSpec)

/-- 'laws.FnExactBrightnessAt', WHERE WHAT IT READS IS OF BULK AT MOST 1048576: true; the input reads as it did. -/
def fnExactBrightnessAtUptoRow : OpenClaim := { program := "ytiplokbcojdcdaa", sum := "ed7ff96d30b77638049231a0fffa2d924ee043109d05e658504a4f9f518f4987", func := "loop.example/g01063/laws.FnExactBrightnessAt", spec := "fnExactBrightnessAt", apart := false, narrowed := true }
def FnExactBrightnessAtUptoSaid : Prop := fnExactBrightnessAtUptoRow.holds Try.pinned (OpenSpec.upto fnExactBrightnessAtSpec)

/-- 'laws.FnExactFarthestFor', WHERE WHAT IT READS IS OF BULK AT MOST 1048576: true; the input reads as it did. -/
def fnExactFarthestForUptoRow : OpenClaim := { program := "ytiplokbcojdcdaa", sum := "ed7ff96d30b77638049231a0fffa2d924ee043109d05e658504a4f9f518f4987", func := "loop.example/g01063/laws.FnExactFarthestFor", spec := "fnExactFarthestFor", apart := false, narrowed := true }
def FnExactFarthestForUptoSaid : Prop := fnExactFarthestForUptoRow.holds Try.pinned (OpenSpec.upto fnExactFarthestForSpec)

/-- 'laws.FnExactImageAt', WHERE WHAT IT READS IS OF BULK AT MOST 1048576: true; the input reads as it did. -/
def fnExactImageAtUptoRow : OpenClaim := { program := "ytiplokbcojdcdaa", sum := "ed7ff96d30b77638049231a0fffa2d924ee043109d05e658504a4f9f518f4987", func := "loop.example/g01063/laws.FnExactImageAt", spec := "fnExactImageAt", apart := false, narrowed := true }
def FnExactImageAtUptoSaid : Prop := fnExactImageAtUptoRow.holds Try.pinned (OpenSpec.upto fnExactImageAtSpec)

/-- 'laws.FnExactObjectFor', WHERE WHAT IT READS IS OF BULK AT MOST 1048576: true; the input reads as it did. -/
def fnExactObjectForUptoRow : OpenClaim := { program := "ytiplokbcojdcdaa", sum := "ed7ff96d30b77638049231a0fffa2d924ee043109d05e658504a4f9f518f4987", func := "loop.example/g01063/laws.FnExactObjectFor", spec := "fnExactObjectFor", apart := false, narrowed := true }
def FnExactObjectForUptoSaid : Prop := fnExactObjectForUptoRow.holds Try.pinned (OpenSpec.upto fnExactObjectForSpec)

/-- 'laws.FnExactScreenSize', WHERE WHAT IT READS IS OF BULK AT MOST 1048576: true; the input reads as it did. -/
def fnExactScreenSizeUptoRow : OpenClaim := { program := "ytiplokbcojdcdaa", sum := "ed7ff96d30b77638049231a0fffa2d924ee043109d05e658504a4f9f518f4987", func := "loop.example/g01063/laws.FnExactScreenSize", spec := "fnExactScreenSize", apart := false, narrowed := true }
def FnExactScreenSizeUptoSaid : Prop := fnExactScreenSizeUptoRow.holds Try.pinned (OpenSpec.upto fnExactScreenSizeSpec)

end Rows
end Go.Proofs.Ytiplokbcojdcdaa
