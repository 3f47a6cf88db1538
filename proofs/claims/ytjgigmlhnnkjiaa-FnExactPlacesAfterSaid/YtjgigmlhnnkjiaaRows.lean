/-
  No cell of these rows narrows 'for every input' (looked for: loops, veiled, ifaces, maps, wideKeys, modest, calm, conditions, laid).
  DERIVED. THE GIVEN ROWS OF THIS SEAT. 7 by the template 'for every input the law returns true; each argument reads behind the call as it read before'; 0 by the template 'total and deterministic' (their statements: YtjgigmlhnnkjiaaTotals.lean).
  GIVEN WITH THE SEED: the statements are not yours to turn. If you find one false, say at which input.
  Laid BY PROGRAM, IN A SANDBOX (cutbox-rows.mjs): the forced cells as the released guide's own fill.sh prints them over the translation 732046394008de75… (all of the seat's roots in one cut). By AI agents, Wed Nov 11 2026. No macro, syntax, notation, axiom, sorry.
-/
import Derived.Test.YtjgigmlhnnkjiaaChecked
import GoSem.Claim
import GoSem.ClaimJoined
import GoSem.ClaimMapViews
import Derived.JoinedTies
import Derived.KernelRfl
namespace Go.Proofs.Ytjgigmlhnnkjiaa
/- THE CELL 'sum', in the pinned program and in every row, IS THE sha256 OF THE DUMP (.gsa) THAT YtjgigmlhnnkjiaaProg.lean LOADS. Nothing in Lean hashes anything: it is a label: what it is worth is what the hold of that sum in a sandbox is worth. -/
noncomputable def Try.pinned : Pinned := { name := "ytjgigmlhnnkjiaa", sum := "732046394008de75d3f3dce7b4f85e28d97f61a73f6134c576731cea1042d00e", checked := Try.checked }
namespace Rows
def none {H : Type} : Left H := { results := [], args := [] }

/-- 'laws.FnExactValidWheels': WHATEVER THE INPUT: true; the input reads as it did. -/
def fnExactValidWheelsSpec : ChangeSpec := { name := "fnExactValidWheels", fn := fun _ => fun
  | [d1, d2] => { results := [.lit (.bool true)], args := [d1, d2] }
  | _ => none }
def fnExactValidWheelsRow : OpenClaim := { program := "ytjgigmlhnnkjiaa", sum := "732046394008de75d3f3dce7b4f85e28d97f61a73f6134c576731cea1042d00e", func := "loop.example/g01063/laws.FnExactValidWheels", spec := "fnExactValidWheels", unfollowed := true, recurses := true, apart := false }
def FnExactValidWheelsSaid : Prop := fnExactValidWheelsRow.holds Try.pinned (OpenSpec.ofChange fnExactValidWheelsSpec)

/-- ITS FALSE NEIGHBOUR: 'it returns false'. Refute it at one input. -/
def fnExactValidWheelsWrong : ChangeSpec := { name := "fnExactValidWheels", fn := fun _ => fun
  | [d1, d2] => { results := [.lit (.bool false)], args := [d1, d2] }
  | _ => none }
def FnExactValidWheelsWrongFalsely : Prop := fnExactValidWheelsRow.holds Try.pinned (OpenSpec.ofChange fnExactValidWheelsWrong)

/-- 'laws.FnExactWheelFor': WHATEVER THE INPUT: true; the input reads as it did. -/
def fnExactWheelForSpec : ChangeSpec := { name := "fnExactWheelFor", fn := fun _ => fun
  | [d1, d2] => { results := [.lit (.bool true)], args := [d1, d2] }
  | _ => none }
def fnExactWheelForRow : OpenClaim := { program := "ytjgigmlhnnkjiaa", sum := "732046394008de75d3f3dce7b4f85e28d97f61a73f6134c576731cea1042d00e", func := "loop.example/g01063/laws.FnExactWheelFor", spec := "fnExactWheelFor", unfollowed := true, recurses := true, apart := false }
def FnExactWheelForSaid : Prop := fnExactWheelForRow.holds Try.pinned (OpenSpec.ofChange fnExactWheelForSpec)

/-- ITS FALSE NEIGHBOUR: 'it returns false'. Refute it at one input. -/
def fnExactWheelForWrong : ChangeSpec := { name := "fnExactWheelFor", fn := fun _ => fun
  | [d1, d2] => { results := [.lit (.bool false)], args := [d1, d2] }
  | _ => none }
def FnExactWheelForWrongFalsely : Prop := fnExactWheelForRow.holds Try.pinned (OpenSpec.ofChange fnExactWheelForWrong)

/-- 'laws.FnExactReturnAfter': WHATEVER THE INPUT: true; the input reads as it did. -/
def fnExactReturnAfterSpec : ChangeSpec := { name := "fnExactReturnAfter", fn := fun _ => fun
  | [d1, d2] => { results := [.lit (.bool true)], args := [d1, d2] }
  | _ => none }
def fnExactReturnAfterRow : OpenClaim := { program := "ytjgigmlhnnkjiaa", sum := "732046394008de75d3f3dce7b4f85e28d97f61a73f6134c576731cea1042d00e", func := "loop.example/g01063/laws.FnExactReturnAfter", spec := "fnExactReturnAfter", unfollowed := true, recurses := true, apart := false }
def FnExactReturnAfterSaid : Prop := fnExactReturnAfterRow.holds Try.pinned (OpenSpec.ofChange fnExactReturnAfterSpec)

/-- ITS FALSE NEIGHBOUR: 'it returns false'. Refute it at one input. -/
def fnExactReturnAfterWrong : ChangeSpec := { name := "fnExactReturnAfter", fn := fun _ => fun
  | [d1, d2] => { results := [.lit (.bool false)], args := [d1, d2] }
  | _ => none }
def FnExactReturnAfterWrongFalsely : Prop := fnExactReturnAfterRow.holds Try.pinned (OpenSpec.ofChange fnExactReturnAfterWrong)

/-- 'laws.FnExactCountPlacesSeen': WHATEVER THE INPUT: true; the input reads as it did. -/
def fnExactCountPlacesSeenSpec : ChangeSpec := { name := "fnExactCountPlacesSeen", fn := fun _ => fun
  | [d1, d2] => { results := [.lit (.bool true)], args := [d1, d2] }
  | _ => none }
def fnExactCountPlacesSeenRow : OpenClaim := { program := "ytjgigmlhnnkjiaa", sum := "732046394008de75d3f3dce7b4f85e28d97f61a73f6134c576731cea1042d00e", func := "loop.example/g01063/laws.FnExactCountPlacesSeen", spec := "fnExactCountPlacesSeen", unfollowed := true, recurses := true, apart := false }
def FnExactCountPlacesSeenSaid : Prop := fnExactCountPlacesSeenRow.holds Try.pinned (OpenSpec.ofChange fnExactCountPlacesSeenSpec)

/-- ITS FALSE NEIGHBOUR: 'it returns false'. Refute it at one input. -/
def fnExactCountPlacesSeenWrong : ChangeSpec := { name := "fnExactCountPlacesSeen", fn := fun _ => fun
  | [d1, d2] => { results := [.lit (.bool false)], args := [d1, d2] }
  | _ => none }
def FnExactCountPlacesSeenWrongFalsely : Prop := fnExactCountPlacesSeenRow.holds Try.pinned (OpenSpec.ofChange fnExactCountPlacesSeenWrong)

/-- 'laws.FnExactSlackOf': WHATEVER THE INPUT: true; the input reads as it did. -/
def fnExactSlackOfSpec : ChangeSpec := { name := "fnExactSlackOf", fn := fun _ => fun
  | [d1, d2, d3, d4, d5] => { results := [.lit (.bool true)], args := [d1, d2, d3, d4, d5] }
  | _ => none }
def fnExactSlackOfRow : OpenClaim := { program := "ytjgigmlhnnkjiaa", sum := "732046394008de75d3f3dce7b4f85e28d97f61a73f6134c576731cea1042d00e", func := "loop.example/g01063/laws.FnExactSlackOf", spec := "fnExactSlackOf", unfollowed := true, recurses := true, apart := false }
def FnExactSlackOfSaid : Prop := fnExactSlackOfRow.holds Try.pinned (OpenSpec.ofChange fnExactSlackOfSpec)

/-- ITS FALSE NEIGHBOUR: 'it returns false'. Refute it at one input. -/
def fnExactSlackOfWrong : ChangeSpec := { name := "fnExactSlackOf", fn := fun _ => fun
  | [d1, d2, d3, d4, d5] => { results := [.lit (.bool false)], args := [d1, d2, d3, d4, d5] }
  | _ => none }
def FnExactSlackOfWrongFalsely : Prop := fnExactSlackOfRow.holds Try.pinned (OpenSpec.ofChange fnExactSlackOfWrong)

/-- 'laws.FnExactPlacesAfter': WHATEVER THE INPUT: true; the input reads as it did. -/
def fnExactPlacesAfterSpec : ChangeSpec := { name := "fnExactPlacesAfter", fn := fun _ => fun
  | [d1, d2, d3] => { results := [.lit (.bool true)], args := [d1, d2, d3] }
  | _ => none }
def fnExactPlacesAfterRow : OpenClaim := { program := "ytjgigmlhnnkjiaa", sum := "732046394008de75d3f3dce7b4f85e28d97f61a73f6134c576731cea1042d00e", func := "loop.example/g01063/laws.FnExactPlacesAfter", spec := "fnExactPlacesAfter", unfollowed := true, recurses := true, apart := false }
def FnExactPlacesAfterSaid : Prop := fnExactPlacesAfterRow.holds Try.pinned (OpenSpec.ofChange fnExactPlacesAfterSpec)

/-- ITS FALSE NEIGHBOUR: 'it returns false'. Refute it at one input. -/
def fnExactPlacesAfterWrong : ChangeSpec := { name := "fnExactPlacesAfter", fn := fun _ => fun
  | [d1, d2, d3] => { results := [.lit (.bool false)], args := [d1, d2, d3] }
  | _ => none }
def FnExactPlacesAfterWrongFalsely : Prop := fnExactPlacesAfterRow.holds Try.pinned (OpenSpec.ofChange fnExactPlacesAfterWrong)

/-- 'laws.FnExactTurnsOf': WHATEVER THE INPUT: true; the input reads as it did. -/
def fnExactTurnsOfSpec : ChangeSpec := { name := "fnExactTurnsOf", fn := fun _ => fun
  | [d1, d2, d3, d4] => { results := [.lit (.bool true)], args := [d1, d2, d3, d4] }
  | _ => none }
def fnExactTurnsOfRow : OpenClaim := { program := "ytjgigmlhnnkjiaa", sum := "732046394008de75d3f3dce7b4f85e28d97f61a73f6134c576731cea1042d00e", func := "loop.example/g01063/laws.FnExactTurnsOf", spec := "fnExactTurnsOf", unfollowed := true, recurses := true, apart := false }
def FnExactTurnsOfSaid : Prop := fnExactTurnsOfRow.holds Try.pinned (OpenSpec.ofChange fnExactTurnsOfSpec)

/-- ITS FALSE NEIGHBOUR: 'it returns false'. Refute it at one input. -/
def fnExactTurnsOfWrong : ChangeSpec := { name := "fnExactTurnsOf", fn := fun _ => fun
  | [d1, d2, d3, d4] => { results := [.lit (.bool false)], args := [d1, d2, d3, d4] }
  | _ => none }
def FnExactTurnsOfWrongFalsely : Prop := fnExactTurnsOfRow.holds Try.pinned (OpenSpec.ofChange fnExactTurnsOfWrong)

/- THE SECOND FORM. 'bulk': how many values and letters a reading holds, each counted each time it is reached (what is shared counts as often as it is met; a slice's spare places count too). A statement '..UptoSaid' is the law's where the arguments, and the package variables that the reading takes, are together of bulk at most 1048576: NARROWER than '..Said'. Prove '..Said' where nothing that the law and all that it calls make is longer than what came in: it says more and counts as full. Else prove '..UptoSaid'. A law counts once. -/
mutual
def uptoBulk {H : Type} : DataW H → Nat
  | .lit (.string bytes) => bytes.length + 1
  | .lit _ => 1
  | .nil => 1
  | .ptr d => uptoBulk d + 1
  | .slice elems spare => uptoBulkAll elems + uptoBulkAll spare + 1
  | .agg parts => uptoBulkAll parts + 1
  | .iface _ d => uptoBulk d + 1
  | .map entries => uptoBulkEntries entries + 1
  | .held _ => 1
def uptoBulkAll {H : Type} : List (DataW H) → Nat
  | [] => 0
  | d :: r => uptoBulk d + uptoBulkAll r
def uptoBulkEntries {H : Type} : List (Lit × DataW H) → Nat
  | [] => 0
  | x :: r => uptoBulkEntry x + uptoBulkEntries r
def uptoBulkEntry {H : Type} : Lit × DataW H → Nat
  | (.string bytes, d) => bytes.length + uptoBulk d + 1
  | (_, d) => uptoBulk d + 1
 end
def uptoSmall : (H : Type) → List (DataW H) → Bool := fun _ ds => decide (uptoBulkAll ds ≤ 1048576)
def OpenSpec.upto (s : _root_.Go.ChangeSpec) : _root_.Go.OpenSpec := { _root_.Go.OpenSpec.ofChange s with cond := some uptoSmall }

/-- 'laws.FnExactValidWheels', WHERE WHAT IT READS IS OF BULK AT MOST 1048576: true; the input reads as it did. -/
def fnExactValidWheelsUptoRow : OpenClaim := { program := "ytjgigmlhnnkjiaa", sum := "732046394008de75d3f3dce7b4f85e28d97f61a73f6134c576731cea1042d00e", func := "loop.example/g01063/laws.FnExactValidWheels", spec := "fnExactValidWheels", unfollowed := true, recurses := true, apart := false, narrowed := true }
def FnExactValidWheelsUptoSaid : Prop := fnExactValidWheelsUptoRow.holds Try.pinned (OpenSpec.upto fnExactValidWheelsSpec)

/-- 'laws.FnExactWheelFor', WHERE WHAT IT READS IS OF BULK AT MOST 1048576: true; the input reads as it did. -/
def fnExactWheelForUptoRow : OpenClaim := { program := "ytjgigmlhnnkjiaa", sum := "732046394008de75d3f3dce7b4f85e28d97f61a73f6134c576731cea1042d00e", func := "loop.example/g01063/laws.FnExactWheelFor", spec := "fnExactWheelFor", unfollowed := true, recurses := true, apart := false, narrowed := true }
def FnExactWheelForUptoSaid : Prop := fnExactWheelForUptoRow.holds Try.pinned (OpenSpec.upto fnExactWheelForSpec)

/-- 'laws.FnExactReturnAfter', WHERE WHAT IT READS IS OF BULK AT MOST 1048576: true; the input reads as it did. -/
def fnExactReturnAfterUptoRow : OpenClaim := { program := "ytjgigmlhnnkjiaa", sum := "732046394008de75d3f3dce7b4f85e28d97f61a73f6134c576731cea1042d00e", func := "loop.example/g01063/laws.FnExactReturnAfter", spec := "fnExactReturnAfter", unfollowed := true, recurses := true, apart := false, narrowed := true }
def FnExactReturnAfterUptoSaid : Prop := fnExactReturnAfterUptoRow.holds Try.pinned (OpenSpec.upto fnExactReturnAfterSpec)

/-- 'laws.FnExactCountPlacesSeen', WHERE WHAT IT READS IS OF BULK AT MOST 1048576: true; the input reads as it did. -/
def fnExactCountPlacesSeenUptoRow : OpenClaim := { program := "ytjgigmlhnnkjiaa", sum := "732046394008de75d3f3dce7b4f85e28d97f61a73f6134c576731cea1042d00e", func := "loop.example/g01063/laws.FnExactCountPlacesSeen", spec := "fnExactCountPlacesSeen", unfollowed := true, recurses := true, apart := false, narrowed := true }
def FnExactCountPlacesSeenUptoSaid : Prop := fnExactCountPlacesSeenUptoRow.holds Try.pinned (OpenSpec.upto fnExactCountPlacesSeenSpec)

/-- 'laws.FnExactSlackOf', WHERE WHAT IT READS IS OF BULK AT MOST 1048576: true; the input reads as it did. -/
def fnExactSlackOfUptoRow : OpenClaim := { program := "ytjgigmlhnnkjiaa", sum := "732046394008de75d3f3dce7b4f85e28d97f61a73f6134c576731cea1042d00e", func := "loop.example/g01063/laws.FnExactSlackOf", spec := "fnExactSlackOf", unfollowed := true, recurses := true, apart := false, narrowed := true }
def FnExactSlackOfUptoSaid : Prop := fnExactSlackOfUptoRow.holds Try.pinned (OpenSpec.upto fnExactSlackOfSpec)

/-- 'laws.FnExactPlacesAfter', WHERE WHAT IT READS IS OF BULK AT MOST 1048576: true; the input reads as it did. -/
def fnExactPlacesAfterUptoRow : OpenClaim := { program := "ytjgigmlhnnkjiaa", sum := "732046394008de75d3f3dce7b4f85e28d97f61a73f6134c576731cea1042d00e", func := "loop.example/g01063/laws.FnExactPlacesAfter", spec := "fnExactPlacesAfter", unfollowed := true, recurses := true, apart := false, narrowed := true }
def FnExactPlacesAfterUptoSaid : Prop := fnExactPlacesAfterUptoRow.holds Try.pinned (OpenSpec.upto fnExactPlacesAfterSpec)

/-- 'laws.FnExactTurnsOf', WHERE WHAT IT READS IS OF BULK AT MOST 1048576: true; the input reads as it did. -/
def fnExactTurnsOfUptoRow : OpenClaim := { program := "ytjgigmlhnnkjiaa", sum := "732046394008de75d3f3dce7b4f85e28d97f61a73f6134c576731cea1042d00e", func := "loop.example/g01063/laws.FnExactTurnsOf", spec := "fnExactTurnsOf", unfollowed := true, recurses := true, apart := false, narrowed := true }
def FnExactTurnsOfUptoSaid : Prop := fnExactTurnsOfUptoRow.holds Try.pinned (OpenSpec.upto fnExactTurnsOfSpec)

end Rows
end Go.Proofs.Ytjgigmlhnnkjiaa
