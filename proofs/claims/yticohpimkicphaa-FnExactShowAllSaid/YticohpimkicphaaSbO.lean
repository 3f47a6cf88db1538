/-
  A slice of Bar that came in reads as a list.
-/
import Derived.Test.YticohpimkicphaaSb
import Derived.ProofKit
import Derived.OpenShut
namespace Go.Proofs.Yticohpimkicphaa
open Go.RowKit Go.ChangeShapes Go.WideShapes Go.Deep

section
variable {H : Type} {enc : TypeId × Value → H} {P : Program} {w : World} {base : Nat} {spare : Nat → Bool} {held : Bool}
theorem Bropen_slice_fields {t e : TypeId} {fs : Array Field} {fuel : Nat} {cs : List Value} {x : DataW H × List MemPlace} (ht : P.underlying t = some (.slice e)) (he : P.underlying e = some (.struct fs))
    (hone : oneCellFields P fs = true) (hC : P.cellsOf e = fs.size) (h : DataW.trod enc P w base spare held fuel t cs = some x) :
    (cs = [.slice none 0 0]) ∨
    ∃ (a : Addr) (len cap m : Nat), cs = [.slice (some a) len cap] ∧ len ≤ cap ∧ cap ≤ maxLen ∧ m = (if spare a.block then cap else len) ∧
      ∀ i, i < m → ∃ (n : Nat), ∀ (j : Nat) (f : Field), fs[j]? = some f → ∃ (v : Value) (y : DataW H × List MemPlace), w.cell? (a.add (i * fs.size + j)) = some v ∧ DataW.trod enc P w base spare held n f.type [v] = some y := by
  rcases open_slice ht h with h0 | ⟨a, len, cap, m, n, D, Pl, hcs, hb, hl, hm, hmm, hx, hi⟩
  · exact .inl h0.1
  · refine .inr ⟨a, len, cap, m, hcs, hl, hm, hmm, fun i him => ?_⟩
    obtain ⟨cs', hc, ht'⟩ := hi i him
    rw [hC] at hc
    obtain ⟨ys, n', hn', hy, hlen, hyl, hf⟩ := DataW.trod_struct he ht'
    obtain ⟨_, hcl, hat⟩ := World.cells?_some hc
    refine ⟨n', fun j f hj => ?_⟩
    obtain ⟨ho, hk⟩ := hone_of hone j f hj
    have hjl : j < fs.size := (Array.getElem?_eq_some_iff.1 hj).1
    have hcell := hat j hjl
    have hv : cs'[j]? = some (cs'[j]'(by omega)) := List.getElem?_eq_getElem (by omega)
    have h1 := hf j f hj
    rw [ho, hk] at h1
    have hone' : (cs'.drop j).take 1 = [cs'[j]'(by omega)] := by
      rw [List.drop_eq_getElem_cons (by omega)]
      rfl
    rw [hone'] at h1
    have hys : ys[j]? = some (ys[j]'(by omega)) := List.getElem?_eq_getElem (by omega)
    refine ⟨_, _, ?_, h1.trans hys⟩
    rw [← Go.Deep.add_add, hcell, hv]
end

theorem Brlist {P : Nat → BrE → Prop} : ∀ l : Nat, (∀ i, i < l → ∃ y, P i y) → ∃ xs : List BrE, xs.length = l ∧ ∀ i, i < l → P i (xs.getD i BrE.zero)
  | 0, _ => ⟨[], rfl, fun i hi => absurd hi (by omega)⟩
  | l + 1, h => by
    obtain ⟨xs, hl, hx⟩ := Brlist l fun i hi => h i (by omega)
    obtain ⟨y, hy⟩ := h l (by omega)
    refine ⟨xs ++ [y], by simp [hl], fun i hi => ?_⟩
    rcases Nat.lt_or_ge i l with hi' | hi'
    · have := hx i hi'
      rwa [List.getD_eq_getElem?_getD, List.getElem?_append_left (by omega), ← List.getD_eq_getElem?_getD]
    · have : i = l := by omega
      subst this
      rw [List.getD_eq_getElem?_getD, List.getElem?_append_right (by omega), hl]
      simpa using hy
theorem SlBr.opened {w : World} {x : Addr} {l : Nat} (h : ∀ i, i < l → ∃ y : BrE, w.cell? (x.add (i * 4 + 0)) = some (.int .i64 (y.f0)) ∧ w.cell? (x.add (i * 4 + 1)) = some (.int .i64 (y.f1)) ∧ w.cell? (x.add (i * 4 + 2)) = some (.int .i64 (y.f2)) ∧ w.cell? (x.add (i * 4 + 3)) = some (.int .i64 (y.f3))) : ∃ xs, SlBr w (some x) l xs := by
  obtain ⟨xs, hl, hx⟩ := Brlist l h
  refine ⟨xs, hl, fun hp => ?_⟩
  obtain ⟨b, off, spot⟩ := x
  have hspot : spot = none := by simpa [Addr.add] using World.cell?_spot (hx 0 hp).1
  subst hspot
  have h0 := (hx 0 hp).1
  rw [Go.WideShapes.add_plain] at h0
  refine ⟨b, off, rfl, World.block_lt_of_cell? w _ h0, fun k hk => ?_⟩
  have hh := hx k hk
  simp only [Go.WideShapes.add_plain, Nat.add_zero, ← Nat.add_assoc] at hh
  exact hh
theorem SlBr.openedQ {Q : BrE → Prop} {w : World} {x : Addr} {l : Nat} (h : ∀ i, i < l → ∃ y : BrE, (w.cell? (x.add (i * 4 + 0)) = some (.int .i64 (y.f0)) ∧ w.cell? (x.add (i * 4 + 1)) = some (.int .i64 (y.f1)) ∧ w.cell? (x.add (i * 4 + 2)) = some (.int .i64 (y.f2)) ∧ w.cell? (x.add (i * 4 + 3)) = some (.int .i64 (y.f3))) ∧ Q y) : ∃ xs, SlBr w (some x) l xs ∧ ∀ i, i < l → Q (xs.getD i BrE.zero) := by
  obtain ⟨xs, hl, hx⟩ := Brlist l h
  refine ⟨xs, ⟨hl, fun hp => ?_⟩, fun i hi => (hx i hi).2⟩
  obtain ⟨b, off, spot⟩ := x
  have hspot : spot = none := by simpa [Addr.add] using World.cell?_spot (hx 0 hp).1.1
  subst hspot
  have h0 := (hx 0 hp).1.1
  rw [Go.WideShapes.add_plain] at h0
  refine ⟨b, off, rfl, World.block_lt_of_cell? w _ h0, fun k hk => ?_⟩
  have hh := (hx k hk).1
  simp only [Go.WideShapes.add_plain, Nat.add_zero, ← Nat.add_assoc] at hh
  exact hh
end Go.Proofs.Yticohpimkicphaa
