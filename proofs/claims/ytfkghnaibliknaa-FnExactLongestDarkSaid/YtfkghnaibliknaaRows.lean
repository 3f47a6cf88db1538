/-
  No cell of these rows narrows 'for every input' (looked for: loops, veiled, ifaces, maps, wideKeys, modest, calm, conditions, laid).
  DERIVED. THE GIVEN ROWS OF THIS SEAT. 11 by the template 'for every input the law returns true; each argument reads behind the call as it read before'; 0 by the template 'total and deterministic' (their statements: YtfkghnaibliknaaTotals.lean).
  GIVEN WITH THE SEED: the statements are not yours to turn. If you find one false, say at which input.
  Laid BY PROGRAM, IN A SANDBOX (cutbox-rows.mjs): the forced cells as the released guide's own fill.sh prints them over the translation 70b67a1be7481e3a… (all of the seat's roots in one cut). By AI agents, Wed Nov 11 2026. No macro, syntax, notation, axiom, sorry.
-/
import Derived.Test.YtfkghnaibliknaaChecked
import GoSem.Claim
import GoSem.ClaimJoined
import GoSem.ClaimMapViews
import Derived.JoinedTies
import Derived.KernelRfl
namespace Go.Proofs.Ytfkghnaibliknaa
/- THE CELL 'sum', in the pinned program and in every row, IS THE sha256 OF THE DUMP (.gsa) THAT YtfkghnaibliknaaProg.lean LOADS. Nothing in Lean hashes anything: it is a label: what it is worth is what the hold of that sum in a sandbox is worth. -/
noncomputable def Try.pinned : Pinned := { name := "ytfkghnaibliknaa", sum := "70b67a1be7481e3a09aa8da1163eda52af8b939f457339f973b487a3a7876c68", checked := Try.checked }
namespace Rows
def none {H : Type} : Left H := { results := [], args := [] }

/-- 'laws.FnExactValidBlades': WHATEVER THE INPUT: true; the input reads as it did. -/
def fnExactValidBladesSpec : ChangeSpec := { name := "fnExactValidBlades", fn := fun _ => fun
  | [d] => { results := [.lit (.bool true)], args := [d] }
  | _ => none }
def fnExactValidBladesRow : OpenClaim := { program := "ytfkghnaibliknaa", sum := "70b67a1be7481e3a09aa8da1163eda52af8b939f457339f973b487a3a7876c68", func := "loop.example/g01063/laws.FnExactValidBlades", spec := "fnExactValidBlades", apart := false }
def FnExactValidBladesSaid : Prop := fnExactValidBladesRow.holds Try.pinned (OpenSpec.ofChange fnExactValidBladesSpec)

/-- ITS FALSE NEIGHBOUR: 'it returns false'. Refute it at one input. -/
def fnExactValidBladesWrong : ChangeSpec := { name := "fnExactValidBlades", fn := fun _ => fun
  | [d] => { results := [.lit (.bool false)], args := [d] }
  | _ => none }
def FnExactValidBladesWrongFalsely : Prop := fnExactValidBladesRow.holds Try.pinned (OpenSpec.ofChange fnExactValidBladesWrong)

/-- 'laws.FnExactIsOpenAt': WHATEVER THE INPUT: true; the input reads as it did. -/
def fnExactIsOpenAtSpec : ChangeSpec := { name := "fnExactIsOpenAt", fn := fun _ => fun
  | [d1, d2] => { results := [.lit (.bool true)], args := [d1, d2] }
  | _ => none }
def fnExactIsOpenAtRow : OpenClaim := { program := "ytfkghnaibliknaa", sum := "70b67a1be7481e3a09aa8da1163eda52af8b939f457339f973b487a3a7876c68", func := "loop.example/g01063/laws.FnExactIsOpenAt", spec := "fnExactIsOpenAt", apart := false }
def FnExactIsOpenAtSaid : Prop := fnExactIsOpenAtRow.holds Try.pinned (OpenSpec.ofChange fnExactIsOpenAtSpec)

/-- ITS FALSE NEIGHBOUR: 'it returns false'. Refute it at one input. -/
def fnExactIsOpenAtWrong : ChangeSpec := { name := "fnExactIsOpenAt", fn := fun _ => fun
  | [d1, d2] => { results := [.lit (.bool false)], args := [d1, d2] }
  | _ => none }
def FnExactIsOpenAtWrongFalsely : Prop := fnExactIsOpenAtRow.holds Try.pinned (OpenSpec.ofChange fnExactIsOpenAtWrong)

/-- 'laws.FnExactOpenParts': WHATEVER THE INPUT: true; the input reads as it did. -/
def fnExactOpenPartsSpec : ChangeSpec := { name := "fnExactOpenParts", fn := fun _ => fun
  | [d1, d2, d3] => { results := [.lit (.bool true)], args := [d1, d2, d3] }
  | _ => none }
def fnExactOpenPartsRow : OpenClaim := { program := "ytfkghnaibliknaa", sum := "70b67a1be7481e3a09aa8da1163eda52af8b939f457339f973b487a3a7876c68", func := "loop.example/g01063/laws.FnExactOpenParts", spec := "fnExactOpenParts", apart := false }
def FnExactOpenPartsSaid : Prop := fnExactOpenPartsRow.holds Try.pinned (OpenSpec.ofChange fnExactOpenPartsSpec)

/-- ITS FALSE NEIGHBOUR: 'it returns false'. Refute it at one input. -/
def fnExactOpenPartsWrong : ChangeSpec := { name := "fnExactOpenParts", fn := fun _ => fun
  | [d1, d2, d3] => { results := [.lit (.bool false)], args := [d1, d2, d3] }
  | _ => none }
def FnExactOpenPartsWrongFalsely : Prop := fnExactOpenPartsRow.holds Try.pinned (OpenSpec.ofChange fnExactOpenPartsWrong)

/-- 'laws.FnExactTwoWheels': WHATEVER THE INPUT: true; the input reads as it did. -/
def fnExactTwoWheelsSpec : ChangeSpec := { name := "fnExactTwoWheels", fn := fun _ => fun
  | [d1, d2, d3] => { results := [.lit (.bool true)], args := [d1, d2, d3] }
  | _ => none }
def fnExactTwoWheelsRow : OpenClaim := { program := "ytfkghnaibliknaa", sum := "70b67a1be7481e3a09aa8da1163eda52af8b939f457339f973b487a3a7876c68", func := "loop.example/g01063/laws.FnExactTwoWheels", spec := "fnExactTwoWheels", apart := false }
def FnExactTwoWheelsSaid : Prop := fnExactTwoWheelsRow.holds Try.pinned (OpenSpec.ofChange fnExactTwoWheelsSpec)

/-- ITS FALSE NEIGHBOUR: 'it returns false'. Refute it at one input. -/
def fnExactTwoWheelsWrong : ChangeSpec := { name := "fnExactTwoWheels", fn := fun _ => fun
  | [d1, d2, d3] => { results := [.lit (.bool false)], args := [d1, d2, d3] }
  | _ => none }
def FnExactTwoWheelsWrongFalsely : Prop := fnExactTwoWheelsRow.holds Try.pinned (OpenSpec.ofChange fnExactTwoWheelsWrong)

/-- 'laws.FnExactBestOffset': WHATEVER THE INPUT: true; the input reads as it did. -/
def fnExactBestOffsetSpec : ChangeSpec := { name := "fnExactBestOffset", fn := fun _ => fun
  | [d1, d2] => { results := [.lit (.bool true)], args := [d1, d2] }
  | _ => none }
def fnExactBestOffsetRow : OpenClaim := { program := "ytfkghnaibliknaa", sum := "70b67a1be7481e3a09aa8da1163eda52af8b939f457339f973b487a3a7876c68", func := "loop.example/g01063/laws.FnExactBestOffset", spec := "fnExactBestOffset", apart := false }
def FnExactBestOffsetSaid : Prop := fnExactBestOffsetRow.holds Try.pinned (OpenSpec.ofChange fnExactBestOffsetSpec)

/-- ITS FALSE NEIGHBOUR: 'it returns false'. Refute it at one input. -/
def fnExactBestOffsetWrong : ChangeSpec := { name := "fnExactBestOffset", fn := fun _ => fun
  | [d1, d2] => { results := [.lit (.bool false)], args := [d1, d2] }
  | _ => none }
def FnExactBestOffsetWrongFalsely : Prop := fnExactBestOffsetRow.holds Try.pinned (OpenSpec.ofChange fnExactBestOffsetWrong)

/-- 'laws.FnExactLitShare': WHATEVER THE INPUT: true; the input reads as it did. -/
def fnExactLitShareSpec : ChangeSpec := { name := "fnExactLitShare", fn := fun _ => fun
  | [d] => { results := [.lit (.bool true)], args := [d] }
  | _ => none }
def fnExactLitShareRow : OpenClaim := { program := "ytfkghnaibliknaa", sum := "70b67a1be7481e3a09aa8da1163eda52af8b939f457339f973b487a3a7876c68", func := "loop.example/g01063/laws.FnExactLitShare", spec := "fnExactLitShare", apart := false }
def FnExactLitShareSaid : Prop := fnExactLitShareRow.holds Try.pinned (OpenSpec.ofChange fnExactLitShareSpec)

/-- ITS FALSE NEIGHBOUR: 'it returns false'. Refute it at one input. -/
def fnExactLitShareWrong : ChangeSpec := { name := "fnExactLitShare", fn := fun _ => fun
  | [d] => { results := [.lit (.bool false)], args := [d] }
  | _ => none }
def FnExactLitShareWrongFalsely : Prop := fnExactLitShareRow.holds Try.pinned (OpenSpec.ofChange fnExactLitShareWrong)

/-- 'laws.FnExactFewestBlades': WHATEVER THE INPUT: true; the input reads as it did. -/
def fnExactFewestBladesSpec : ChangeSpec := { name := "fnExactFewestBlades", fn := fun _ => fun
  | [d1, d2] => { results := [.lit (.bool true)], args := [d1, d2] }
  | _ => none }
def fnExactFewestBladesRow : OpenClaim := { program := "ytfkghnaibliknaa", sum := "70b67a1be7481e3a09aa8da1163eda52af8b939f457339f973b487a3a7876c68", func := "loop.example/g01063/laws.FnExactFewestBlades", spec := "fnExactFewestBlades", apart := false }
def FnExactFewestBladesSaid : Prop := fnExactFewestBladesRow.holds Try.pinned (OpenSpec.ofChange fnExactFewestBladesSpec)

/-- ITS FALSE NEIGHBOUR: 'it returns false'. Refute it at one input. -/
def fnExactFewestBladesWrong : ChangeSpec := { name := "fnExactFewestBlades", fn := fun _ => fun
  | [d1, d2] => { results := [.lit (.bool false)], args := [d1, d2] }
  | _ => none }
def FnExactFewestBladesWrongFalsely : Prop := fnExactFewestBladesRow.holds Try.pinned (OpenSpec.ofChange fnExactFewestBladesWrong)

/-- 'laws.FnExactSlowestSteady': WHATEVER THE INPUT: true; the input reads as it did. -/
def fnExactSlowestSteadySpec : ChangeSpec := { name := "fnExactSlowestSteady", fn := fun _ => fun
  | [d1, d2] => { results := [.lit (.bool true)], args := [d1, d2] }
  | _ => none }
def fnExactSlowestSteadyRow : OpenClaim := { program := "ytfkghnaibliknaa", sum := "70b67a1be7481e3a09aa8da1163eda52af8b939f457339f973b487a3a7876c68", func := "loop.example/g01063/laws.FnExactSlowestSteady", spec := "fnExactSlowestSteady", apart := false }
def FnExactSlowestSteadySaid : Prop := fnExactSlowestSteadyRow.holds Try.pinned (OpenSpec.ofChange fnExactSlowestSteadySpec)

/-- ITS FALSE NEIGHBOUR: 'it returns false'. Refute it at one input. -/
def fnExactSlowestSteadyWrong : ChangeSpec := { name := "fnExactSlowestSteady", fn := fun _ => fun
  | [d1, d2] => { results := [.lit (.bool false)], args := [d1, d2] }
  | _ => none }
def FnExactSlowestSteadyWrongFalsely : Prop := fnExactSlowestSteadyRow.holds Try.pinned (OpenSpec.ofChange fnExactSlowestSteadyWrong)

/-- 'laws.FnExactIsSteady': WHATEVER THE INPUT: true; the input reads as it did. -/
def fnExactIsSteadySpec : ChangeSpec := { name := "fnExactIsSteady", fn := fun _ => fun
  | [d1, d2, d3] => { results := [.lit (.bool true)], args := [d1, d2, d3] }
  | _ => none }
def fnExactIsSteadyRow : OpenClaim := { program := "ytfkghnaibliknaa", sum := "70b67a1be7481e3a09aa8da1163eda52af8b939f457339f973b487a3a7876c68", func := "loop.example/g01063/laws.FnExactIsSteady", spec := "fnExactIsSteady", apart := false }
def FnExactIsSteadySaid : Prop := fnExactIsSteadyRow.holds Try.pinned (OpenSpec.ofChange fnExactIsSteadySpec)

/-- ITS FALSE NEIGHBOUR: 'it returns false'. Refute it at one input. -/
def fnExactIsSteadyWrong : ChangeSpec := { name := "fnExactIsSteady", fn := fun _ => fun
  | [d1, d2, d3] => { results := [.lit (.bool false)], args := [d1, d2, d3] }
  | _ => none }
def FnExactIsSteadyWrongFalsely : Prop := fnExactIsSteadyRow.holds Try.pinned (OpenSpec.ofChange fnExactIsSteadyWrong)

/-- 'laws.FnExactFlickerRate': WHATEVER THE INPUT: true; the input reads as it did. -/
def fnExactFlickerRateSpec : ChangeSpec := { name := "fnExactFlickerRate", fn := fun _ => fun
  | [d1, d2] => { results := [.lit (.bool true)], args := [d1, d2] }
  | _ => none }
def fnExactFlickerRateRow : OpenClaim := { program := "ytfkghnaibliknaa", sum := "70b67a1be7481e3a09aa8da1163eda52af8b939f457339f973b487a3a7876c68", func := "loop.example/g01063/laws.FnExactFlickerRate", spec := "fnExactFlickerRate", apart := false }
def FnExactFlickerRateSaid : Prop := fnExactFlickerRateRow.holds Try.pinned (OpenSpec.ofChange fnExactFlickerRateSpec)

/-- ITS FALSE NEIGHBOUR: 'it returns false'. Refute it at one input. -/
def fnExactFlickerRateWrong : ChangeSpec := { name := "fnExactFlickerRate", fn := fun _ => fun
  | [d1, d2] => { results := [.lit (.bool false)], args := [d1, d2] }
  | _ => none }
def FnExactFlickerRateWrongFalsely : Prop := fnExactFlickerRateRow.holds Try.pinned (OpenSpec.ofChange fnExactFlickerRateWrong)

/-- 'laws.FnExactLongestDark': WHATEVER THE INPUT: true; the input reads as it did. -/
def fnExactLongestDarkSpec : ChangeSpec := { name := "fnExactLongestDark", fn := fun _ => fun
  | [d1, d2] => { results := [.lit (.bool true)], args := [d1, d2] }
  | _ => none }
def fnExactLongestDarkRow : OpenClaim := { program := "ytfkghnaibliknaa", sum := "70b67a1be7481e3a09aa8da1163eda52af8b939f457339f973b487a3a7876c68", func := "loop.example/g01063/laws.FnExactLongestDark", spec := "fnExactLongestDark", apart := false }
def FnExactLongestDarkSaid : Prop := fnExactLongestDarkRow.holds Try.pinned (OpenSpec.ofChange fnExactLongestDarkSpec)

/-- ITS FALSE NEIGHBOUR: 'it returns false'. Refute it at one input. -/
def fnExactLongestDarkWrong : ChangeSpec := { name := "fnExactLongestDark", fn := fun _ => fun
  | [d1, d2] => { results := [.lit (.bool false)], args := [d1, d2] }
  | _ => none }
def FnExactLongestDarkWrongFalsely : Prop := fnExactLongestDarkRow.holds Try.pinned (OpenSpec.ofChange fnExactLongestDarkWrong)

/- THE SECOND FORM. 'bulk': how many values and letters a reading holds, each counted each time it is reached (what is shared counts as often as it is met; a slice's spare places count too). A statement '..UptoSaid' is the law's where the arguments, and the package variables that the reading takes, are together of bulk at most 1048576: NARROWER than '..Said'. Prove '..Said' where nothing that the law and all that it calls make is longer than what came in: it says more and counts as full. Else prove '..UptoSaid'. A law counts once. -/
mutual
def uptoBulk {H : Type} : DataW H → Nat
  | .lit (.string bytes) => bytes.length + 1
  | .lit _ => 1
  | .nil => 1
  | .ptr d => uptoBulk d + 1
  | .slice elems spare => uptoBulkAll elems + uptoBulkAll spare + 1
  | .agg parts => uptoBulkAll parts + 1
  | .iface _ d => uptoBulk d + 1
  | .map entries => uptoBulkEntries entries + 1
  | .held _ => 1
def uptoBulkAll {H : Type} : List (DataW H) → Nat
  | [] => 0
  | d :: r => uptoBulk d + uptoBulkAll r
def uptoBulkEntries {H : Type} : List (Lit × DataW H) → Nat
  | [] => 0
  | x :: r => uptoBulkEntry x + uptoBulkEntries r
def uptoBulkEntry {H : Type} : Lit × DataW H → Nat
  | (.string bytes, d) => bytes.length + uptoBulk d + 1
  | (_, d) => uptoBulk d + 1
 end
def uptoSmall : (H : Type) → List (DataW H) → Bool := fun _ ds => decide (uptoBulkAll ds ≤ 1048576)
def OpenSpec.upto (s : _root_.Go.ChangeSpec) : _root_.Go.OpenSpec := { _root_.Go.OpenSpec.ofChange s with cond := some uptoSmall }

/-- 'laws.FnExactValidBlades', WHERE WHAT IT READS IS OF BULK AT MOST 1048576: true; the input reads as it did. -/
def fnExactValidBladesUptoRow : OpenClaim := { program := "ytfkghnaibliknaa", sum := "70b67a1be7481e3a09aa8da1163eda52af8b939f457339f973b487a3a7876c68", func := "loop.example/g01063/laws.FnExactValidBlades", spec := "fnExactValidBlades", apart := false, narrowed := true }
def FnExactValidBladesUptoSaid : Prop := fnExactValidBladesUptoRow.holds Try.pinned (OpenSpec.upto fnExactValidBladesSpec)

/-- 'laws.FnExactIsOpenAt', WHERE WHAT IT READS IS OF BULK AT MOST 1048576: true; the input reads as it did. -/
def fnExactIsOpenAtUptoRow : OpenClaim := { program := "ytfkghnaibliknaa", sum := "70b67a1be7481e3a09aa8da1163eda52af8b939f457339f973b487a3a7876c68", func := "loop.example/g01063/laws.FnExactIsOpenAt", spec := "fnExactIsOpenAt", apart := false, narrowed := true }
def FnExactIsOpenAtUptoSaid : Prop := fnExactIsOpenAtUptoRow.holds Try.pinned (OpenSpec.upto fnExactIsOpenAtSpec)

/-- 'laws.FnExactOpenParts', WHERE WHAT IT READS IS OF BULK AT MOST 1048576: true; the input reads as it did. -/
def fnExactOpenPartsUptoRow : OpenClaim := { program := "ytfkghnaibliknaa", sum := "70b67a1be7481e3a09aa8da1163eda52af8b939f457339f973b487a3a7876c68", func := "loop.example/g01063/laws.FnExactOpenParts", spec := "fnExactOpenParts", apart := false, narrowed := true }
def FnExactOpenPartsUptoSaid : Prop := fnExactOpenPartsUptoRow.holds Try.pinned (OpenSpec.upto fnExactOpenPartsSpec)

/-- 'laws.FnExactTwoWheels', WHERE WHAT IT READS IS OF BULK AT MOST 1048576: true; the input reads as it did. -/
def fnExactTwoWheelsUptoRow : OpenClaim := { program := "ytfkghnaibliknaa", sum := "70b67a1be7481e3a09aa8da1163eda52af8b939f457339f973b487a3a7876c68", func := "loop.example/g01063/laws.FnExactTwoWheels", spec := "fnExactTwoWheels", apart := false, narrowed := true }
def FnExactTwoWheelsUptoSaid : Prop := fnExactTwoWheelsUptoRow.holds Try.pinned (OpenSpec.upto fnExactTwoWheelsSpec)

/-- 'laws.FnExactBestOffset', WHERE WHAT IT READS IS OF BULK AT MOST 1048576: true; the input reads as it did. -/
def fnExactBestOffsetUptoRow : OpenClaim := { program := "ytfkghnaibliknaa", sum := "70b67a1be7481e3a09aa8da1163eda52af8b939f457339f973b487a3a7876c68", func := "loop.example/g01063/laws.FnExactBestOffset", spec := "fnExactBestOffset", apart := false, narrowed := true }
def FnExactBestOffsetUptoSaid : Prop := fnExactBestOffsetUptoRow.holds Try.pinned (OpenSpec.upto fnExactBestOffsetSpec)

/-- 'laws.FnExactLitShare', WHERE WHAT IT READS IS OF BULK AT MOST 1048576: true; the input reads as it did. -/
def fnExactLitShareUptoRow : OpenClaim := { program := "ytfkghnaibliknaa", sum := "70b67a1be7481e3a09aa8da1163eda52af8b939f457339f973b487a3a7876c68", func := "loop.example/g01063/laws.FnExactLitShare", spec := "fnExactLitShare", apart := false, narrowed := true }
def FnExactLitShareUptoSaid : Prop := fnExactLitShareUptoRow.holds Try.pinned (OpenSpec.upto fnExactLitShareSpec)

/-- 'laws.FnExactFewestBlades', WHERE WHAT IT READS IS OF BULK AT MOST 1048576: true; the input reads as it did. -/
def fnExactFewestBladesUptoRow : OpenClaim := { program := "ytfkghnaibliknaa", sum := "70b67a1be7481e3a09aa8da1163eda52af8b939f457339f973b487a3a7876c68", func := "loop.example/g01063/laws.FnExactFewestBlades", spec := "fnExactFewestBlades", apart := false, narrowed := true }
def FnExactFewestBladesUptoSaid : Prop := fnExactFewestBladesUptoRow.holds Try.pinned (OpenSpec.upto fnExactFewestBladesSpec)

/-- 'laws.FnExactSlowestSteady', WHERE WHAT IT READS IS OF BULK AT MOST 1048576: true; the input reads as it did. -/
def fnExactSlowestSteadyUptoRow : OpenClaim := { program := "ytfkghnaibliknaa", sum := "70b67a1be7481e3a09aa8da1163eda52af8b939f457339f973b487a3a7876c68", func := "loop.example/g01063/laws.FnExactSlowestSteady", spec := "fnExactSlowestSteady", apart := false, narrowed := true }
def FnExactSlowestSteadyUptoSaid : Prop := fnExactSlowestSteadyUptoRow.holds Try.pinned (OpenSpec.upto fnExactSlowestSteadySpec)

/-- 'laws.FnExactIsSteady', WHERE WHAT IT READS IS OF BULK AT MOST 1048576: true; the input reads as it did. -/
def fnExactIsSteadyUptoRow : OpenClaim := { program := "ytfkghnaibliknaa", sum := "70b67a1be7481e3a09aa8da1163eda52af8b939f457339f973b487a3a7876c68", func := "loop.example/g01063/laws.FnExactIsSteady", spec := "fnExactIsSteady", apart := false, narrowed := true }
def FnExactIsSteadyUptoSaid : Prop := fnExactIsSteadyUptoRow.holds Try.pinned (OpenSpec.upto fnExactIsSteadySpec)

/-- 'laws.FnExactFlickerRate', WHERE WHAT IT READS IS OF BULK AT MOST 1048576: true; the input reads as it did. -/
def fnExactFlickerRateUptoRow : OpenClaim := { program := "ytfkghnaibliknaa", sum := "70b67a1be7481e3a09aa8da1163eda52af8b939f457339f973b487a3a7876c68", func := "loop.example/g01063/laws.FnExactFlickerRate", spec := "fnExactFlickerRate", apart := false, narrowed := true }
def FnExactFlickerRateUptoSaid : Prop := fnExactFlickerRateUptoRow.holds Try.pinned (OpenSpec.upto fnExactFlickerRateSpec)

/-- 'laws.FnExactLongestDark', WHERE WHAT IT READS IS OF BULK AT MOST 1048576: true; the input reads as it did. -/
def fnExactLongestDarkUptoRow : OpenClaim := { program := "ytfkghnaibliknaa", sum := "70b67a1be7481e3a09aa8da1163eda52af8b939f457339f973b487a3a7876c68", func := "loop.example/g01063/laws.FnExactLongestDark", spec := "fnExactLongestDark", apart := false, narrowed := true }
def FnExactLongestDarkUptoSaid : Prop := fnExactLongestDarkUptoRow.holds Try.pinned (OpenSpec.upto fnExactLongestDarkSpec)

end Rows
end Go.Proofs.Ytfkghnaibliknaa
