/-
  Marks over a slice of Bar.
-/
import Derived.Test.YticohpimkicphaaSb
import Derived.Test.YticohpimkicphaaMk
namespace Go.Proofs.Yticohpimkicphaa
open Go.RowKit

set_option maxHeartbeats 800000 in
theorem Brmark_any (n c g : Nat) (xs : List BrE) (k0 : Int) (w : World) (H : SlBr w (some ⟨g, 0, none⟩) n xs) (hf : ∀ j, w.frozen? ⟨g, j, none⟩ = false) (hg : g < w.heap.size) (hn : n ≤ 1048576) (hk0 : 0 ≤ k0 ∧ k0 ≤ 1000000000) :
    Calls Try.prog 56 #[.slice (some ⟨g, 0, none⟩) n c, .int .i64 k0] w fun e w' => e = .returned (.int .i64 (k0 + 4 * (n : Int))) ∧ w.grownBy w' (some g) := by
  obtain ⟨hk1, hk2⟩ := hk0
  have HE : Hid (∀ j, j < n * 4 → ∃ v, w.cell? ⟨g, j, none⟩ = some v) := fun j hj => by
    obtain ⟨b, off, e, hb, h0, h1, h2, h3⟩ := H.get (k := j / 4) (by omega)
    injection e with e
    injection e with e1 e2
    subst e1; subst e2
    have hj' : j = 0 + j / 4 * 4 ∨ j = 0 + j / 4 * 4 + 1 ∨ j = 0 + j / 4 * 4 + 2 ∨ j = 0 + j / 4 * 4 + 3 := by omega
    rcases hj' with h | h | h | h
    · rw [h]; exact ⟨_, h0⟩
    · rw [h]; exact ⟨_, h1⟩
    · rw [h]; exact ⟨_, h2⟩
    · rw [h]; exact ⟨_, h3⟩
  clear H
  go_enter Try.func56, Try.ntmps56
  go_wp2_with fail
  go_loopg [1, 5] n (fun gh x y wr => ∃ k : Nat, k ≤ n ∧ gh = n - k ∧ x = .int .i64 (k0 + 4 * (k : Int)) ∧ y = .int .i64 k ∧ Hid (∀ j, j < n * 4 → ∃ v, wr.cell? ⟨g, j, none⟩ = some v) ∧ (∀ j, wr.frozen? ⟨g, j, none⟩ = false) ∧ g < wr.heap.size ∧ w.grownBy wr (some g))
  case atStart => exact ⟨0, by omega, by omega, by simp, rfl, HE.out, hf, hg, only_refl _ _⟩
  case round =>
    obtain ⟨k, hk, rfl, rfl, rfl, hex, hfr, hgw, hgr⟩ := hrel
    clear hf
    by_cases hlt : k < n
    · have h0 := hlt
      obtain ⟨v0, hv0⟩ := hex.out (k * 4) (by omega)
      obtain ⟨v1, hv1⟩ := hex.out (k * 4 + 1) (by omega)
      obtain ⟨v2, hv2⟩ := hex.out (k * 4 + 2) (by omega)
      obtain ⟨v3, hv3⟩ := hex.out (k * 4 + 3) (by omega)
      go_wp2
      go_roundg (n - (k + 1))
      case rel => exact ⟨k + 1, by omega, rfl, by go_num, by go_num, fun j hj => Brex_set (Brex_set (Brex_set (Brex_set (hex.out j hj)))), by simpa using hfr, by simpa using hgw, only_setCell (only_setCell (only_setCell (only_setCell (hgr) (.inl rfl) _) (.inl rfl) _) (.inl rfl) _) (.inl rfl) _⟩
      case measure => omega
    · have hkk : k = n := by omega
      subst hkk
      go_wp2
      go_ret
      exact ⟨rfl, hgr⟩
end Go.Proofs.Yticohpimkicphaa
