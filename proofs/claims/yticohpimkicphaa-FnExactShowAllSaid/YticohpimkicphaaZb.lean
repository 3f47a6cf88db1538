/-
  A slice of slices of integers that came in reads as a list of lists.
-/
import Derived.Test.YticohpimkicphaaZa
import Derived.ProofKit
import Derived.OpenShut
namespace Go.Proofs.Yticohpimkicphaa
open Go.RowKit Go.ChangeShapes Go.WideShapes Go.Deep

theorem exList {α : Type} (d : α) {P : Nat → α → Prop} : ∀ l : Nat, (∀ i, i < l → ∃ y, P i y) → ∃ xs : List α, xs.length = l ∧ ∀ i, i < l → P i (xs.getD i d)
  | 0, _ => ⟨[], rfl, fun i hi => absurd hi (by omega)⟩
  | l + 1, h => by
    obtain ⟨xs, hl, hx⟩ := exList d l fun i hi => h i (by omega)
    obtain ⟨y, hy⟩ := h l (by omega)
    refine ⟨xs ++ [y], by simp [hl], fun i hi => ?_⟩
    rcases Nat.lt_or_ge i l with hi' | hi'
    · have := hx i hi'
      rwa [List.getD_eq_getElem?_getD, List.getElem?_append_left (by omega), ← List.getD_eq_getElem?_getD]
    · have : i = l := by omega
      subst this
      rw [List.getD_eq_getElem?_getD, List.getElem?_append_right (by omega), hl]
      simpa using hy
section
variable {H : Type} {enc : TypeId × Value → H} {w : World} {base : Nat} {held : Bool}
theorem open_ss {fuel : Nat} {cs : List Value} {x : DataW H × List MemPlace} (h : DataW.trod enc Try.prog w base (fun _ => true) held fuel 26 cs = some x) :
    ∃ a l c pls, cs = [.slice a l c] ∧ l ≤ 9223372036854775807 ∧ SlSB 9223372036854775807 w a l pls := by
  rcases open_slice1 Try.underlying26 (by kernel_rfl) h with ⟨hcs, _⟩ | ⟨a, len, cap, m, n, V, D, Pl, hcs, hb, hl, hm, hmm, hx, hi⟩
  · exact ⟨none, 0, 0, [], hcs, by omega, rfl, fun h => absurd h (by omega)⟩
  · have hlen : len ≤ 9223372036854775807 := by unfold maxLen at hm; omega
    obtain ⟨pls, hpl, hp⟩ := exList (α := List Int) [] (P := fun i ys => ∃ A' c', w.cell? (a.add i) = some (.slice A' ys.length c') ∧ SlI w A' ys.length ys ∧ ys.length ≤ 9223372036854775807) len fun i hil => by
      obtain ⟨hc, ht⟩ := hi i (by split at hmm <;> omega)
      rcases open_ints Try.underlying22 Try.underlying2 (by kernel_rfl) ht with ⟨hcs', _⟩ | ⟨y, l, c, zs, hcs', _, hl', hm', hz, _, hcell, hwz⟩
      · simp at hcs'
        exact ⟨[], none, 0, by rw [hc, hcs']; rfl, SlI.nil w, by simp⟩
      · simp at hcs'
        have hr : IsRow .i64 w (some y) l c zs := .inr ⟨_, rfl, hl', hm', by simpa using hz, hcell, hwz⟩
        have hsl := hr.sl
        have hyl := hsl.length
        refine ⟨zs.take l, some y, c, by rw [hc, hcs', hyl], by rw [hyl]; exact hsl, by rw [hyl]; exact hr.len⟩
    refine ⟨some a, len, cap, pls, hcs, hlen, hpl, fun h0 => ?_⟩
    obtain ⟨b, off, spot⟩ := a
    obtain ⟨A0, c0, e0, _, _⟩ := hp 0 h0
    have hspot : spot = none := by simpa [Addr.add] using World.cell?_spot e0
    subst hspot
    rw [Go.WideShapes.add_plain] at e0
    refine ⟨b, off, rfl, World.block_lt_of_cell? w _ e0, fun k hk => ?_⟩
    obtain ⟨A1, c1, e1, e2, e3⟩ := hp k hk
    rw [Go.WideShapes.add_plain] at e1
    exact ⟨A1, c1, e1, e2, e3⟩
end
end Go.Proofs.Yticohpimkicphaa
