/-
  Rows of integers that a call owns: appending to them, and reading them as lists.
-/
import Derived.Test.YticohpimkicphaaRow
import Derived.Laws.AppendOwn
import Derived.Laws.OwnMore
import Derived.OwnWalk
import Derived.Maps.AppendAt
namespace Go.Proofs.Yticohpimkicphaa
open Go.RowKit

/-- The value v is a row of the integers xs in a block from B on, that nothing froze. -/
def OwnI (w : World) (B : Nat) (v : Value) (xs : List Int) : Prop := w.ownsRow B 2 1 v xs.length (xs.map (Value.int .i64))

theorem add_off (g j : Nat) : (⟨g, 0, none⟩ : Addr).add j = ⟨g, j, none⟩ := by unfold Addr.add; split <;> simp_all
theorem OwnI.nil (w : World) (B : Nat) : OwnI w B (.slice none 0 0) [] := World.ownsRow_nil _ _ _ _
theorem OwnI.lit (w : World) {B : Nat} (hB : B ≤ w.heap.size) : OwnI (w.alloc (.cells #[] 2)) B (.slice (some ⟨w.heap.size, 0, none⟩) 0 0) [] :=
  World.ownsRow_lit w #[] 0 hB (by unfold maxLen; omega) rfl
theorem grown_of_below {w w' : World} (h : Below w.heap.size w w') (row : Option Nat) : w.grownBy w' row := ⟨h.os, h.tape, h.output, h.size, fun k hk _ => h.block k hk⟩
theorem OwnI.below {w w' : World} {B : Nat} {v : Value} {xs : List Int} (h : OwnI w B v xs) (hb : Below w.heap.size w w') : OwnI w' B v xs := by
  unfold OwnI at *
  rcases hv : v.ownBlock with _ | k
  · exact World.ownsRow.kept h (grown_of_below hb none) (.inl hv)
  · exact World.ownsRow.kept h (grown_of_below hb none) (.inr (by rw [hv]; simp))
theorem OwnI.alloc {w : World} {B : Nat} {v : Value} {xs : List Int} (h : OwnI w B v xs) (o : Obj) : OwnI (w.alloc o) B v xs := World.ownsRow.alloc h o
theorem OwnI.drew {w : World} {B : Nat} {v : Value} {xs : List Int} (h : OwnI w B v xs) : OwnI w.drew B v xs := h
theorem OwnI.drewN {w : World} {B : Nat} {v : Value} {xs : List Int} (h : OwnI w B v xs) (n : Nat) : OwnI (w.drewN n) B v xs := h
theorem OwnI.base {w : World} {B B' : Nat} {v : Value} {xs : List Int} (h : OwnI w B v xs) (hB : B' ≤ B) : OwnI w B' v xs := by
  refine ⟨h.1, ?_⟩
  rcases h.2 with h2 | ⟨g, cap, cur, e, hg, hh⟩
  · exact .inl h2
  · exact .inr ⟨g, cap, cur, e, Nat.le_trans hB hg, hh⟩
theorem OwnI.form {w : World} {B : Nat} {v : Value} {xs : List Int} (h : OwnI w B v xs) : ∃ A c, v = .slice A xs.length c := by
  rcases h.2 with ⟨rfl, h2⟩ | ⟨g, cap, cur, e, _⟩
  · exact ⟨none, 0, by rw [h2]⟩
  · exact ⟨_, _, e⟩
theorem OwnI.sl {w : World} {B : Nat} {A : Option Addr} {n c : Nat} {xs : List Int} (h : OwnI w B (.slice A n c) xs) : n = xs.length ∧ SlI w A xs.length xs := by
  rcases h.2 with ⟨e, h2⟩ | ⟨g, cap, cur, e, hg, hh, _⟩
  · injection e with e1 e2 e3
    have : xs = [] := List.eq_nil_of_length_eq_zero h2
    subst this; subst e1
    exact ⟨by omega, SlI.nil w⟩
  · injection e with e1 e2 e3
    subst e1; subst e2; subst e3
    refine ⟨rfl, by simp, fun hn => ⟨g, 0, rfl, ?_, fun j v hj => ?_⟩⟩
    · rcases Nat.lt_or_ge g w.heap.size with h' | h'
      · exact h'
      · rw [Array.getElem?_eq_none h'] at hh; cases hh
    · have := World.ownsRow.cells h (g := g) rfl j v hj
      rw [add_off] at this
      simpa using this

theorem below_grown {B : Nat} {w w' : World} {row : Option Nat} (hg : w.grownBy w' row) (hr : ∀ k, row = some k → B ≤ k) (hB : B ≤ w.heap.size) : Below B w w' :=
  ⟨hg.os, hg.tape, hg.output, hg.size, fun k hk => hg.block k (Nat.lt_of_lt_of_le hk hB) (fun e => by have := hr k e.symm; omega)⟩
theorem bw_from {B : Nat} {w a b : World} (h : Below B w a) (k : Below B a b) : Below B w b := h.trans k

theorem wpAppI {ops : Array Oper} {rest : List Oper} {o : Oper} {a : Act} {w : World} {Q : Exit → Act → World → Prop} (hgd : o.guard = none) (s x : Operand)
    (ho : o.op = .call { callee := .builtin .append, args := #[s, x], argTypes := #[22, 22] })
    (B : Nat) (v : Value) (xs : List Int) (hs : a.eval s = v) (hown : OwnI w B v xs) (g : Nat) (u : Int) (hx : a.eval x = .slice (some ⟨g, 0, none⟩) 1 1)
    (hc : w.cell? ⟨g, 0, none⟩ = some (.int .i64 u)) (hn : xs.length ≤ 1048576) (hB : B ≤ w.heap.size)
    (h : ∀ v' w', OwnI w' B v' (xs ++ [u]) → w.grownBy w' v.ownBlock → Below B w w' → wpList Try.prog ops Q rest (a.put o.dst v') w') : wpList Try.prog ops Q (o :: rest) a w := by
  obtain ⟨i0, hi, hz0, hz1, hz2⟩ := info_parts info64
  refine wpList_append_own w hgd s x _ ho B 2 i0 (.int .i64 0) 1 8 Try.underlying22 hi hz0 hz1 hz2 rfl (by decide) v xs.length _ hs hown ⟨g, 0, none⟩ 1 1 [.int .i64 u] hx rfl ?_ ?_ ?_ ?_ hB ?_
  · intro j y hj
    cases j with
    | zero => simp at hj; subst hj; rw [add_off]; exact hc
    | succ j => simp at hj
  · simp [Value.oneCell']
  · unfold maxLen; omega
  · omega
  · intro v' w' h1 h2 _
    refine h v' w' ?_ h2 (below_grown h2 (fun k hk => (World.ownsRow.lt hown k hk).1) hB)
    unfold OwnI
    simpa using h1
end Go.Proofs.Yticohpimkicphaa
