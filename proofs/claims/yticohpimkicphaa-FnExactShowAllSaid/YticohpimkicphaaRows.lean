/-
  No cell of these rows narrows 'for every input' (looked for: loops, veiled, ifaces, maps, wideKeys, modest, calm, conditions, laid).
  DERIVED. THE GIVEN ROWS OF THIS SEAT. 8 by the template 'for every input the law returns true; each argument reads behind the call as it read before'; 0 by the template 'total and deterministic' (their statements: YticohpimkicphaaTotals.lean).
  GIVEN WITH THE SEED: the statements are not yours to turn. If you find one false, say at which input.
  Laid BY PROGRAM, IN A SANDBOX (cutbox-rows.mjs): the forced cells as the released guide's own fill.sh prints them over the translation 3881414b3907cb99… (all of the seat's roots in one cut). By AI agents, Wed Nov 11 2026. No macro, syntax, notation, axiom, sorry.
-/
import Derived.Test.YticohpimkicphaaChecked
import GoSem.Claim
import GoSem.ClaimJoined
import GoSem.ClaimMapViews
import Derived.JoinedTies
import Derived.KernelRfl
namespace Go.Proofs.Yticohpimkicphaa
/- THE CELL 'sum', in the pinned program and in every row, IS THE sha256 OF THE DUMP (.gsa) THAT YticohpimkicphaaProg.lean LOADS. Nothing in Lean hashes anything: it is a label: what it is worth is what the hold of that sum in a sandbox is worth. -/
noncomputable def Try.pinned : Pinned := { name := "yticohpimkicphaa", sum := "3881414b3907cb99a959ed1e01b53b9fcd3ea670a1c90f09fbe24c73d5474f09", checked := Try.checked }
namespace Rows
def none {H : Type} : Left H := { results := [], args := [] }

/-- 'laws.FnExactShowAll': WHATEVER THE INPUT: true; the input reads as it did. -/
def fnExactShowAllSpec : ChangeSpec := { name := "fnExactShowAll", fn := fun _ => fun
  | [d1, d2, d3] => { results := [.lit (.bool true)], args := [d1, d2, d3] }
  | _ => none }
def fnExactShowAllRow : OpenClaim := { program := "yticohpimkicphaa", sum := "3881414b3907cb99a959ed1e01b53b9fcd3ea670a1c90f09fbe24c73d5474f09", func := "loop.example/g01063/laws.FnExactShowAll", spec := "fnExactShowAll", unfollowed := true, recurses := true, plainKeys := false, apart := false }
def FnExactShowAllSaid : Prop := fnExactShowAllRow.holds Try.pinned (OpenSpec.ofChange fnExactShowAllSpec)

/-- ITS FALSE NEIGHBOUR: 'it returns false'. Refute it at one input. -/
def fnExactShowAllWrong : ChangeSpec := { name := "fnExactShowAll", fn := fun _ => fun
  | [d1, d2, d3] => { results := [.lit (.bool false)], args := [d1, d2, d3] }
  | _ => none }
def FnExactShowAllWrongFalsely : Prop := fnExactShowAllRow.holds Try.pinned (OpenSpec.ofChange fnExactShowAllWrong)

/-- 'laws.FnExactUselessBars': WHATEVER THE INPUT: true; the input reads as it did. -/
def fnExactUselessBarsSpec : ChangeSpec := { name := "fnExactUselessBars", fn := fun _ => fun
  | [d1, d2] => { results := [.lit (.bool true)], args := [d1, d2] }
  | _ => none }
def fnExactUselessBarsRow : OpenClaim := { program := "yticohpimkicphaa", sum := "3881414b3907cb99a959ed1e01b53b9fcd3ea670a1c90f09fbe24c73d5474f09", func := "loop.example/g01063/laws.FnExactUselessBars", spec := "fnExactUselessBars", unfollowed := true, recurses := true, plainKeys := false, apart := false }
def FnExactUselessBarsSaid : Prop := fnExactUselessBarsRow.holds Try.pinned (OpenSpec.ofChange fnExactUselessBarsSpec)

/-- ITS FALSE NEIGHBOUR: 'it returns false'. Refute it at one input. -/
def fnExactUselessBarsWrong : ChangeSpec := { name := "fnExactUselessBars", fn := fun _ => fun
  | [d1, d2] => { results := [.lit (.bool false)], args := [d1, d2] }
  | _ => none }
def FnExactUselessBarsWrongFalsely : Prop := fnExactUselessBarsRow.holds Try.pinned (OpenSpec.ofChange fnExactUselessBarsWrong)

/-- 'laws.FnExactValidSlide': WHATEVER THE INPUT: true; the input reads as it did. -/
def fnExactValidSlideSpec : ChangeSpec := { name := "fnExactValidSlide", fn := fun _ => fun
  | [d] => { results := [.lit (.bool true)], args := [d] }
  | _ => none }
def fnExactValidSlideRow : OpenClaim := { program := "yticohpimkicphaa", sum := "3881414b3907cb99a959ed1e01b53b9fcd3ea670a1c90f09fbe24c73d5474f09", func := "loop.example/g01063/laws.FnExactValidSlide", spec := "fnExactValidSlide", unfollowed := true, recurses := true, plainKeys := false, apart := false }
def FnExactValidSlideSaid : Prop := fnExactValidSlideRow.holds Try.pinned (OpenSpec.ofChange fnExactValidSlideSpec)

/-- ITS FALSE NEIGHBOUR: 'it returns false'. Refute it at one input. -/
def fnExactValidSlideWrong : ChangeSpec := { name := "fnExactValidSlide", fn := fun _ => fun
  | [d] => { results := [.lit (.bool false)], args := [d] }
  | _ => none }
def FnExactValidSlideWrongFalsely : Prop := fnExactValidSlideRow.holds Try.pinned (OpenSpec.ofChange fnExactValidSlideWrong)

/-- 'laws.FnExactMayStand': WHATEVER THE INPUT: true; the input reads as it did. -/
def fnExactMayStandSpec : ChangeSpec := { name := "fnExactMayStand", fn := fun _ => fun
  | [d1, d2] => { results := [.lit (.bool true)], args := [d1, d2] }
  | _ => none }
def fnExactMayStandRow : OpenClaim := { program := "yticohpimkicphaa", sum := "3881414b3907cb99a959ed1e01b53b9fcd3ea670a1c90f09fbe24c73d5474f09", func := "loop.example/g01063/laws.FnExactMayStand", spec := "fnExactMayStand", unfollowed := true, recurses := true, plainKeys := false, apart := false }
def FnExactMayStandSaid : Prop := fnExactMayStandRow.holds Try.pinned (OpenSpec.ofChange fnExactMayStandSpec)

/-- ITS FALSE NEIGHBOUR: 'it returns false'. Refute it at one input. -/
def fnExactMayStandWrong : ChangeSpec := { name := "fnExactMayStand", fn := fun _ => fun
  | [d1, d2] => { results := [.lit (.bool false)], args := [d1, d2] }
  | _ => none }
def FnExactMayStandWrongFalsely : Prop := fnExactMayStandRow.holds Try.pinned (OpenSpec.ofChange fnExactMayStandWrong)

/-- 'laws.FnExactMoveGlass': WHATEVER THE INPUT: true; the input reads as it did. -/
def fnExactMoveGlassSpec : ChangeSpec := { name := "fnExactMoveGlass", fn := fun _ => fun
  | [d1, d2, d3] => { results := [.lit (.bool true)], args := [d1, d2, d3] }
  | _ => none }
def fnExactMoveGlassRow : OpenClaim := { program := "yticohpimkicphaa", sum := "3881414b3907cb99a959ed1e01b53b9fcd3ea670a1c90f09fbe24c73d5474f09", func := "loop.example/g01063/laws.FnExactMoveGlass", spec := "fnExactMoveGlass", unfollowed := true, recurses := true, plainKeys := false, apart := false }
def FnExactMoveGlassSaid : Prop := fnExactMoveGlassRow.holds Try.pinned (OpenSpec.ofChange fnExactMoveGlassSpec)

/-- ITS FALSE NEIGHBOUR: 'it returns false'. Refute it at one input. -/
def fnExactMoveGlassWrong : ChangeSpec := { name := "fnExactMoveGlass", fn := fun _ => fun
  | [d1, d2, d3] => { results := [.lit (.bool false)], args := [d1, d2, d3] }
  | _ => none }
def FnExactMoveGlassWrongFalsely : Prop := fnExactMoveGlassRow.holds Try.pinned (OpenSpec.ofChange fnExactMoveGlassWrong)

/-- 'laws.FnExactMovesFrom': WHATEVER THE INPUT: true; the input reads as it did. -/
def fnExactMovesFromSpec : ChangeSpec := { name := "fnExactMovesFrom", fn := fun _ => fun
  | [d1, d2] => { results := [.lit (.bool true)], args := [d1, d2] }
  | _ => none }
def fnExactMovesFromRow : OpenClaim := { program := "yticohpimkicphaa", sum := "3881414b3907cb99a959ed1e01b53b9fcd3ea670a1c90f09fbe24c73d5474f09", func := "loop.example/g01063/laws.FnExactMovesFrom", spec := "fnExactMovesFrom", unfollowed := true, recurses := true, plainKeys := false, apart := false }
def FnExactMovesFromSaid : Prop := fnExactMovesFromRow.holds Try.pinned (OpenSpec.ofChange fnExactMovesFromSpec)

/-- ITS FALSE NEIGHBOUR: 'it returns false'. Refute it at one input. -/
def fnExactMovesFromWrong : ChangeSpec := { name := "fnExactMovesFrom", fn := fun _ => fun
  | [d1, d2] => { results := [.lit (.bool false)], args := [d1, d2] }
  | _ => none }
def FnExactMovesFromWrongFalsely : Prop := fnExactMovesFromRow.holds Try.pinned (OpenSpec.ofChange fnExactMovesFromWrong)

/-- 'laws.FnExactCountPlaces': WHATEVER THE INPUT: true; the input reads as it did. -/
def fnExactCountPlacesSpec : ChangeSpec := { name := "fnExactCountPlaces", fn := fun _ => fun
  | [d1, d2] => { results := [.lit (.bool true)], args := [d1, d2] }
  | _ => none }
def fnExactCountPlacesRow : OpenClaim := { program := "yticohpimkicphaa", sum := "3881414b3907cb99a959ed1e01b53b9fcd3ea670a1c90f09fbe24c73d5474f09", func := "loop.example/g01063/laws.FnExactCountPlaces", spec := "fnExactCountPlaces", unfollowed := true, recurses := true, plainKeys := false, apart := false }
def FnExactCountPlacesSaid : Prop := fnExactCountPlacesRow.holds Try.pinned (OpenSpec.ofChange fnExactCountPlacesSpec)

/-- ITS FALSE NEIGHBOUR: 'it returns false'. Refute it at one input. -/
def fnExactCountPlacesWrong : ChangeSpec := { name := "fnExactCountPlaces", fn := fun _ => fun
  | [d1, d2] => { results := [.lit (.bool false)], args := [d1, d2] }
  | _ => none }
def FnExactCountPlacesWrongFalsely : Prop := fnExactCountPlacesRow.holds Try.pinned (OpenSpec.ofChange fnExactCountPlacesWrong)

/-- 'laws.FnExactMovesTo': WHATEVER THE INPUT: true; the input reads as it did. -/
def fnExactMovesToSpec : ChangeSpec := { name := "fnExactMovesTo", fn := fun _ => fun
  | [d1, d2, d3] => { results := [.lit (.bool true)], args := [d1, d2, d3] }
  | _ => none }
def fnExactMovesToRow : OpenClaim := { program := "yticohpimkicphaa", sum := "3881414b3907cb99a959ed1e01b53b9fcd3ea670a1c90f09fbe24c73d5474f09", func := "loop.example/g01063/laws.FnExactMovesTo", spec := "fnExactMovesTo", unfollowed := true, recurses := true, plainKeys := false, apart := false }
def FnExactMovesToSaid : Prop := fnExactMovesToRow.holds Try.pinned (OpenSpec.ofChange fnExactMovesToSpec)

/-- ITS FALSE NEIGHBOUR: 'it returns false'. Refute it at one input. -/
def fnExactMovesToWrong : ChangeSpec := { name := "fnExactMovesTo", fn := fun _ => fun
  | [d1, d2, d3] => { results := [.lit (.bool false)], args := [d1, d2, d3] }
  | _ => none }
def FnExactMovesToWrongFalsely : Prop := fnExactMovesToRow.holds Try.pinned (OpenSpec.ofChange fnExactMovesToWrong)

/- THE SECOND FORM. 'bulk': how many values and letters a reading holds, each counted each time it is reached (what is shared counts as often as it is met; a slice's spare places count too). A statement '..UptoSaid' is the law's where the arguments, and the package variables that the reading takes, are together of bulk at most 1048576: NARROWER than '..Said'. Prove '..Said' where nothing that the law and all that it calls make is longer than what came in: it says more and counts as full. Else prove '..UptoSaid'. A law counts once. -/
mutual
def uptoBulk {H : Type} : DataW H → Nat
  | .lit (.string bytes) => bytes.length + 1
  | .lit _ => 1
  | .nil => 1
  | .ptr d => uptoBulk d + 1
  | .slice elems spare => uptoBulkAll elems + uptoBulkAll spare + 1
  | .agg parts => uptoBulkAll parts + 1
  | .iface _ d => uptoBulk d + 1
  | .map entries => uptoBulkEntries entries + 1
  | .held _ => 1
def uptoBulkAll {H : Type} : List (DataW H) → Nat
  | [] => 0
  | d :: r => uptoBulk d + uptoBulkAll r
def uptoBulkEntries {H : Type} : List (Lit × DataW H) → Nat
  | [] => 0
  | x :: r => uptoBulkEntry x + uptoBulkEntries r
def uptoBulkEntry {H : Type} : Lit × DataW H → Nat
  | (.string bytes, d) => bytes.length + uptoBulk d + 1
  | (_, d) => uptoBulk d + 1
 end
def uptoSmall : (H : Type) → List (DataW H) → Bool := fun _ ds => decide (uptoBulkAll ds ≤ 1048576)
def OpenSpec.upto (s : _root_.Go.ChangeSpec) : _root_.Go.OpenSpec := { _root_.Go.OpenSpec.ofChange s with cond := some uptoSmall }

/-- 'laws.FnExactShowAll', WHERE WHAT IT READS IS OF BULK AT MOST 1048576: true; the input reads as it did. -/
def fnExactShowAllUptoRow : OpenClaim := { program := "yticohpimkicphaa", sum := "3881414b3907cb99a959ed1e01b53b9fcd3ea670a1c90f09fbe24c73d5474f09", func := "loop.example/g01063/laws.FnExactShowAll", spec := "fnExactShowAll", unfollowed := true, recurses := true, plainKeys := false, apart := false, narrowed := true }
def FnExactShowAllUptoSaid : Prop := fnExactShowAllUptoRow.holds Try.pinned (OpenSpec.upto fnExactShowAllSpec)

/-- 'laws.FnExactUselessBars', WHERE WHAT IT READS IS OF BULK AT MOST 1048576: true; the input reads as it did. -/
def fnExactUselessBarsUptoRow : OpenClaim := { program := "yticohpimkicphaa", sum := "3881414b3907cb99a959ed1e01b53b9fcd3ea670a1c90f09fbe24c73d5474f09", func := "loop.example/g01063/laws.FnExactUselessBars", spec := "fnExactUselessBars", unfollowed := true, recurses := true, plainKeys := false, apart := false, narrowed := true }
def FnExactUselessBarsUptoSaid : Prop := fnExactUselessBarsUptoRow.holds Try.pinned (OpenSpec.upto fnExactUselessBarsSpec)

/-- 'laws.FnExactValidSlide', WHERE WHAT IT READS IS OF BULK AT MOST 1048576: true; the input reads as it did. -/
def fnExactValidSlideUptoRow : OpenClaim := { program := "yticohpimkicphaa", sum := "3881414b3907cb99a959ed1e01b53b9fcd3ea670a1c90f09fbe24c73d5474f09", func := "loop.example/g01063/laws.FnExactValidSlide", spec := "fnExactValidSlide", unfollowed := true, recurses := true, plainKeys := false, apart := false, narrowed := true }
def FnExactValidSlideUptoSaid : Prop := fnExactValidSlideUptoRow.holds Try.pinned (OpenSpec.upto fnExactValidSlideSpec)

/-- 'laws.FnExactMayStand', WHERE WHAT IT READS IS OF BULK AT MOST 1048576: true; the input reads as it did. -/
def fnExactMayStandUptoRow : OpenClaim := { program := "yticohpimkicphaa", sum := "3881414b3907cb99a959ed1e01b53b9fcd3ea670a1c90f09fbe24c73d5474f09", func := "loop.example/g01063/laws.FnExactMayStand", spec := "fnExactMayStand", unfollowed := true, recurses := true, plainKeys := false, apart := false, narrowed := true }
def FnExactMayStandUptoSaid : Prop := fnExactMayStandUptoRow.holds Try.pinned (OpenSpec.upto fnExactMayStandSpec)

/-- 'laws.FnExactMoveGlass', WHERE WHAT IT READS IS OF BULK AT MOST 1048576: true; the input reads as it did. -/
def fnExactMoveGlassUptoRow : OpenClaim := { program := "yticohpimkicphaa", sum := "3881414b3907cb99a959ed1e01b53b9fcd3ea670a1c90f09fbe24c73d5474f09", func := "loop.example/g01063/laws.FnExactMoveGlass", spec := "fnExactMoveGlass", unfollowed := true, recurses := true, plainKeys := false, apart := false, narrowed := true }
def FnExactMoveGlassUptoSaid : Prop := fnExactMoveGlassUptoRow.holds Try.pinned (OpenSpec.upto fnExactMoveGlassSpec)

/-- 'laws.FnExactMovesFrom', WHERE WHAT IT READS IS OF BULK AT MOST 1048576: true; the input reads as it did. -/
def fnExactMovesFromUptoRow : OpenClaim := { program := "yticohpimkicphaa", sum := "3881414b3907cb99a959ed1e01b53b9fcd3ea670a1c90f09fbe24c73d5474f09", func := "loop.example/g01063/laws.FnExactMovesFrom", spec := "fnExactMovesFrom", unfollowed := true, recurses := true, plainKeys := false, apart := false, narrowed := true }
def FnExactMovesFromUptoSaid : Prop := fnExactMovesFromUptoRow.holds Try.pinned (OpenSpec.upto fnExactMovesFromSpec)

/-- 'laws.FnExactCountPlaces', WHERE WHAT IT READS IS OF BULK AT MOST 1048576: true; the input reads as it did. -/
def fnExactCountPlacesUptoRow : OpenClaim := { program := "yticohpimkicphaa", sum := "3881414b3907cb99a959ed1e01b53b9fcd3ea670a1c90f09fbe24c73d5474f09", func := "loop.example/g01063/laws.FnExactCountPlaces", spec := "fnExactCountPlaces", unfollowed := true, recurses := true, plainKeys := false, apart := false, narrowed := true }
def FnExactCountPlacesUptoSaid : Prop := fnExactCountPlacesUptoRow.holds Try.pinned (OpenSpec.upto fnExactCountPlacesSpec)

/-- 'laws.FnExactMovesTo', WHERE WHAT IT READS IS OF BULK AT MOST 1048576: true; the input reads as it did. -/
def fnExactMovesToUptoRow : OpenClaim := { program := "yticohpimkicphaa", sum := "3881414b3907cb99a959ed1e01b53b9fcd3ea670a1c90f09fbe24c73d5474f09", func := "loop.example/g01063/laws.FnExactMovesTo", spec := "fnExactMovesTo", unfollowed := true, recurses := true, plainKeys := false, apart := false, narrowed := true }
def FnExactMovesToUptoSaid : Prop := fnExactMovesToUptoRow.holds Try.pinned (OpenSpec.upto fnExactMovesToSpec)

end Rows
end Go.Proofs.Yticohpimkicphaa
