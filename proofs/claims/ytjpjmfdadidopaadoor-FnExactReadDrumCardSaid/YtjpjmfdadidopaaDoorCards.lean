/-
  DERIVED. GIVEN WITH THE SEED: THE CARDS: each row of YtjpjmfdadidopaaDoorRows.lean that lists a variable, with what it lists TIED to the program's text (the seventh form; the later family's looks); each row that meets fmt, with fmt's text TOLD by the authors' own Lean function (tested against real Go, not proved from fmt's source: count such statements apart). THE CARD IS WHAT COUNTS. Prove the row's statement (the work); the ties are given (YtjpjmfdadidopaaDoorTie.lean); close each card by the builder's one call (the guide's Derived/Test/ToyasCard.lean, 'card_holds'). Laid BY PROGRAM, IN A SANDBOX (cutbox-door.mjs). By AI agents, Wed Nov 11 2026. No macro, syntax, notation, axiom, sorry.
-/
import Derived.Test.YtjpjmfdadidopaaDoorRows
import GoSem.ClaimSeven
namespace Go.Proofs.YtjpjmfdadidopaaDoor
namespace Rows

/-- THE TIED CARD OF 'laws.FnExactReadDrum'. -/
def fnExactReadDrumCard : Claim7 := { stood := { row := fnExactReadDrumRow, standIns := [], harness := (true, "acec714883ac3eb152ea8f9f60dc530313bcff7d500e81b2013ff3df1cb2daee"), looks := true }, kinds := [], alts := [], laidByText := true, laidKinds := [.data, .data, .data, .sentinel, .sentinel], laidTests := true, laidLooks := .later }
def FnExactReadDrumCardSaid : Prop := Claim7.holds Tryd.pinned (.plain (OpenSpec.ofChange fnExactReadDrumSpec)) fnExactReadDrumCard

/-- THE TIED CARD OF 'laws.FnExactDrumText'. -/
def fnExactDrumTextCard : Claim7 := { stood := { row := fnExactDrumTextRow, standIns := [], harness := (true, "acec714883ac3eb152ea8f9f60dc530313bcff7d500e81b2013ff3df1cb2daee"), looks := true }, kinds := [], alts := [], laidByText := true, laidKinds := [.data, .data, .data], laidTests := true, laidLooks := .later }
def FnExactDrumTextCardSaid : Prop := Claim7.holds Tryd.pinned (.plain (OpenSpec.ofChange fnExactDrumTextSpec)) fnExactDrumTextCard

/-- THE SECOND FORM's CARD OF 'laws.FnExactReadDrum'. -/
def fnExactReadDrumUptoCard : Claim7 := { stood := { row := fnExactReadDrumUptoRow, standIns := [], harness := (true, "acec714883ac3eb152ea8f9f60dc530313bcff7d500e81b2013ff3df1cb2daee"), looks := true }, kinds := [], alts := [], laidByText := true, laidKinds := [.data, .data, .data, .sentinel, .sentinel], laidTests := true, laidLooks := .later }
def FnExactReadDrumUptoCardSaid : Prop := Claim7.holds Tryd.pinned (.plain (OpenSpec.upto fnExactReadDrumSpec)) fnExactReadDrumUptoCard

/-- THE SECOND FORM's CARD OF 'laws.FnExactDrumText'. -/
def fnExactDrumTextUptoCard : Claim7 := { stood := { row := fnExactDrumTextUptoRow, standIns := [], harness := (true, "acec714883ac3eb152ea8f9f60dc530313bcff7d500e81b2013ff3df1cb2daee"), looks := true }, kinds := [], alts := [], laidByText := true, laidKinds := [.data, .data, .data], laidTests := true, laidLooks := .later }
def FnExactDrumTextUptoCardSaid : Prop := Claim7.holds Tryd.pinned (.plain (OpenSpec.upto fnExactDrumTextSpec)) fnExactDrumTextUptoCard
end Rows
end Go.Proofs.YtjpjmfdadidopaaDoor
