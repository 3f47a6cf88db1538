/-
  The reference's reader of a drum: the walk.
-/
import Derived.Test.YtjpjmfdadidopaaDoorRj
namespace Go.Proofs.YtjpjmfdadidopaaDoor
open Go.RowKit

theorem OwnT.keep {w w' : World} {B g m c : Nat} {xs : List ByteArray} (h : OwnT w B (.slice (some ⟨g, 0, none⟩) m c) xs) (hb : Below w.heap.size w w') : ∀ j (hj : j < xs.length), w'.cell? ⟨g, j, none⟩ = some (.string xs[j]) :=
  fun j hj => cell_of hb (h.cells j hj)
theorem part_size {b : UInt8} {xs : List ByteArray} {l : List UInt8} (h : xs.map (fun x => x.data.toList) = spl b [] l) (n : Nat) (hl : l.length ≤ n) : ∀ x ∈ xs, x.size ≤ n := by
  have key : ∀ (l cur : List UInt8), ∀ y ∈ spl b cur l, y.length ≤ cur.length + l.length := by
    intro l
    induction l with
    | nil => intro cur y hy; rw [spl, List.mem_singleton] at hy; rw [hy]; simp
    | cons c r ih =>
      intro cur y hy
      unfold spl at hy
      split at hy
      · rcases List.mem_cons.1 hy with rfl | hy
        · simp
        · have := ih [] y hy; simp at this ⊢; omega
      · have := ih _ y hy; simp at this ⊢; omega
  intro x hx
  have h1 : x.data.toList ∈ spl b [] l := by rw [← h]; exact List.mem_map_of_mem hx
  have h2 := key l [] _ h1
  have h3 : x.data.toList.length = x.size := rfl
  simp at h2
  omega
end Go.Proofs.YtjpjmfdadidopaaDoor
