/-
  Plain law of lists: the first element that answers yes.
-/
import Derived.Test.YticohpimkicphaaPl
namespace Go.Proofs.Yticohpimkicphaa

/-- The first place whose element answers yes; -1 if there is none. -/
def gidx {α : Type} (p : α → Bool) (xs : List α) : Int := if xs.any p then (xs.findIdx p : Int) else -1
theorem gidx_any {α : Type} (p : α → Bool) (xs : List α) : decide (0 ≤ gidx p xs) = xs.any p := by
  unfold gidx; cases xs.any p <;> simp
theorem ggetD_lt {α : Type} {d : α} {xs : List α} {k : Nat} (h : k < xs.length) : xs.getD k d = xs[k] := by simp [List.getD_eq_getElem?_getD, h]
theorem gidx_at {α : Type} {d : α} {p : α → Bool} {xs : List α} {k : Nat} (hk : k < xs.length) (hp : p (xs.getD k d) = true) (hno : ∀ j, j < k → p (xs.getD j d) = false) : gidx p xs = k := by
  rw [ggetD_lt hk] at hp
  have h1 : xs.any p = true := List.any_eq_true.2 ⟨xs[k], List.getElem_mem hk, hp⟩
  unfold gidx
  rw [if_pos h1]
  congr 1
  rw [List.findIdx_eq hk]
  exact ⟨hp, fun j hj => by rw [← ggetD_lt (d := d) (Nat.lt_trans hj hk)]; exact hno j hj⟩
theorem gany_false {α : Type} {d : α} {p : α → Bool} {xs : List α} (hno : ∀ j, j < xs.length → p (xs.getD j d) = false) : xs.any p = false := by
  rw [List.any_eq_false]
  intro x hx
  obtain ⟨j, hj, rfl⟩ := List.getElem_of_mem hx
  have := hno j hj
  rw [ggetD_lt hj] at this
  rw [this]; simp
theorem gidx_none {α : Type} {d : α} {p : α → Bool} {xs : List α} (hno : ∀ j, j < xs.length → p (xs.getD j d) = false) : gidx p xs = -1 := by
  unfold gidx; rw [gany_false hno]; rfl
theorem gany_true {α : Type} {d : α} {p : α → Bool} {xs : List α} {k : Nat} (hk : k < xs.length) (hp : p (xs.getD k d) = true) : xs.any p = true := by
  rw [ggetD_lt hk] at hp
  exact List.any_eq_true.2 ⟨xs[k], List.getElem_mem hk, hp⟩
theorem gany_at {α : Type} {d : α} {p : α → Bool} {xs : List α} {k : Nat} (h : xs.any p = false) (hk : k < xs.length) : p (xs.getD k d) = false := by
  rcases Bool.eq_false_or_eq_true (p (xs.getD k d)) with h1 | h1
  · rw [gany_true hk h1] at h; cases h
  · exact h1
end Go.Proofs.Yticohpimkicphaa
