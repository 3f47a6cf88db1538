/-
  A region that draws its order, whose operations read old memory or call functions that leave old memory alone (they may make new memory): one walk in the order of the text serves.
  The class of worlds: those that agree with the region's first world below its heap's size.
-/
import Derived.Test.YtclilanlhagppaaRows
import Derived.WalkKit
import Derived.BigQuiet
import Derived.Deep.QuietTactic
namespace Go.Proofs.Ytclilanlhagppaa
open Go.RowKit

/-- The worlds that are as w was below w's own size. -/
def Bel (w : World) : Type := { w' : World // Below w.heap.size w w' }

instance (w : World) : Nonempty (Bel w) := ⟨⟨w, Below.refl _ _⟩⟩

theorem bel_cell {w : World} {a : Addr} {v : Value} (h : w.cell? a = some v) : ∀ t : Bel w, t.1.cell? a = some v := fun t => by
  rw [t.2.cell (World.block_lt_of_cell? w a h)]; exact h

/-- A load of the region: what is there reads as in the region's first world. -/
@[go_sem] theorem bel_eq {w : World} (t : Bel w) (b o : Nat) (h : b < w.heap.size) : t.1.cell? ⟨b, o, none⟩ = w.cell? ⟨b, o, none⟩ := t.2.cell (p := ⟨b, o, none⟩) h

theorem wp_region_bel {P : Program} {id : Nat} {Q : Exit → Act → World → Prop} {a : Act} {w : World} {l : List Oper} (hm : P.follows .mixedOrders = true) (hB : Region.lexB .any l.toArray = true)
    (h : wpQuiet P l.toArray (fun w' => ∃ t : Bel w, w' = t.1) (fun a' => ∀ w', (∃ t : Bel w, w' = t.1) → Q .normal a' w') l a) : (Code.region id l.toArray true).wp P Q a w :=
  wp_region_quiet (C := fun w' => ∃ t : Bel w, w' = t.1) hm hB ⟨⟨w.drew, (Below.refl _ _).drew⟩, rfl⟩ (by simpa using h)

/-- A call whose contract leaves the world alone. -/
theorem calm_same {P : Program} {f : FuncId} {args : Array Value} {w : World} {t : Bel w} {v : Value}
    (h : Calls P f args t.1 fun e w' => e = .returned v ∧ t.1 = w') : Calls P f args t.1 fun e w'' => e = .returned v ∧ ∃ t' : Bel w, w'' = t'.1 :=
  h.mono fun _ _ ⟨he, hw⟩ => ⟨he, t, hw.symm⟩
/-- A call whose contract leaves old memory alone. -/
theorem calm_of {P : Program} {f : FuncId} {args : Array Value} {w : World} {t : Bel w} {v : Value}
    (h : Calls P f args t.1 fun e w' => e = .returned v ∧ Below t.1.heap.size t.1 w') : Calls P f args t.1 fun e w'' => e = .returned v ∧ ∃ t' : Bel w, w'' = t'.1 :=
  h.mono fun _ w' ⟨he, hb⟩ => ⟨he, ⟨w', t.2.trans (hb.mono t.2.size)⟩, rfl⟩

/-- Steps of 'old memory is as it was', without side conditions on sizes. -/
theorem bw_trans {w a b : World} (h : Below w.heap.size w a) (k : Below a.heap.size a b) : Below w.heap.size w b := h.trans (k.mono h.size)
theorem bw_alloc {w a : World} (h : Below w.heap.size w a) (o : Obj) : Below w.heap.size w (a.alloc o) := h.alloc h.size o
theorem bw_set {w a : World} (h : Below w.heap.size w a) {p : Addr} (hp : w.heap.size ≤ p.block) (u : Value) : Below w.heap.size w (a.setCell p u) := h.setCell hp u
theorem bw_drew {w a : World} (h : Below w.heap.size w a) : Below w.heap.size w a.drew := h.drew
theorem bw_drewN {w a : World} (h : Below w.heap.size w a) (n : Nat) : Below w.heap.size w (a.drewN n) := ⟨h.os, h.tape, h.output, h.size, h.block⟩
theorem bw_same {w a b : World} (h : Below w.heap.size w a) (e : a = b) : Below w.heap.size w b := e ▸ h

/-- What is there reads as before behind a call that leaves old memory alone. -/
theorem bcell {W w1 : World} (hb : Below W.heap.size W w1) : (∀ b o, b < W.heap.size → w1.cell? ⟨b, o, none⟩ = W.cell? ⟨b, o, none⟩) ∧ (∀ b o, b < W.heap.size → w1.frozen? ⟨b, o, none⟩ = W.frozen? ⟨b, o, none⟩) :=
  ⟨fun b o h => hb.cell (p := ⟨b, o, none⟩) h, fun b o h => hb.frozen (p := ⟨b, o, none⟩) h⟩
theorem cell_of {w w1 : World} {a : Addr} {v : Value} (hb : Below w.heap.size w w1) (h : w.cell? a = some v) : w1.cell? a = some v :=
  (hb.cell (World.block_lt_of_cell? w a h)).trans h
end Go.Proofs.Ytclilanlhagppaa
