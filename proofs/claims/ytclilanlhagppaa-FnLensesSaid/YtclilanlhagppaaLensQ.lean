/-
  Lenses: lengths, checked fractions: in the program and in the reference.
-/
import Derived.Test.YtclilanlhagppaaFracQ
namespace Go.Proofs.Ytclilanlhagppaa
open Go.RowKit

theorem validFraction_is {n d : Int} {b : Bool} (h : vFrac n d = b) (w : World) :
    Calls Try.prog 17 #[.agg #[.int .i64 n, .int .i64 d]] w fun e w' => e = .returned (.bool b) ∧ Below w.heap.size w w' := by
  subst h; exact validFraction_any n d w
theorem mul_bd {a b A B : Int} (h1 : 0 ≤ a) (h2 : a ≤ A) (h3 : 0 ≤ b) (h4 : b ≤ B) : 0 ≤ a * b ∧ a * b ≤ A * B :=
  ⟨Int.mul_nonneg h1 h3, Int.mul_le_mul h2 h4 h3 (by omega)⟩

def isFo (n : Int) : Bool := inB n 1 2000
def isTh (n : Int) : Bool := inB n 1 100000
theorem isFo_true {n : Int} : isFo n = true ↔ 1 ≤ n ∧ n ≤ 2000 := inB_true
theorem isTh_true {n : Int} : isTh n = true ↔ 1 ≤ n ∧ n ≤ 100000 := inB_true

theorem isFocal_is {n : Int} {b : Bool} (h : isFo n = b) (w : World) :
    Calls Try.prog 12 #[.int .i64 n] w fun e w' => e = .returned (.bool b) ∧ w = w' := by
  have h' : inB n 1 2000 = b := h
  go_enter Try.func12, Try.ntmps12
  go_wp2_with (go_at_call 16; refine (within_is (by assumption) _).mono ?_; rintro e w1 ⟨rfl, rfl⟩)
  go_ret
  exact ⟨rfl, rfl⟩
theorem isThrow_is {n : Int} {b : Bool} (h : isTh n = b) (w : World) :
    Calls Try.prog 13 #[.int .i64 n] w fun e w' => e = .returned (.bool b) ∧ w = w' := by
  have h' : inB n 1 100000 = b := h
  go_enter Try.func13, Try.ntmps13
  go_wp2_with (go_at_call 16; refine (within_is (by assumption) _).mono ?_; rintro e w1 ⟨rfl, rfl⟩)
  go_ret
  exact ⟨rfl, rfl⟩
/-- A fraction if it is valid, else 0/0 and a code. -/
def chN (n d : Int) : Int := if vFrac n d then n else 0
def chD (n d : Int) : Int := if vFrac n d then d else 0
def chC (n d : Int) : Int := if vFrac n d then 0 else 5

set_option maxHeartbeats 400000 in
theorem checked_any (n d : Int) (w : World) :
    Calls Try.prog 14 #[.agg #[.int .i64 n, .int .i64 d]] w fun e w' => e = .returned (.tuple #[.agg #[.int .i64 (chN n d), .int .i64 (chD n d)], .int .i64 (chC n d)]) ∧ Below w.heap.size w w' := by
  cases h1 : vFrac n d
  · go_enter Try.func14, Try.ntmps14
    go_wp2_with (first | (go_at_call 17; refine (validFraction_is (by assumption) _).mono ?_; rintro e w1 ⟨rfl, hb1⟩; obtain ⟨hc1, hf1⟩ := bcell hb1; try (have hz1 : w.heap.size < w1.heap.size := by (have h := hb1.size; (try simp at h); omega)); try (have hy1 : w.heap.size + 1 < w1.heap.size := by (have h := hb1.size; (try simp at h); omega)); try (have hx1 : w.heap.size + 1 + 1 < w1.heap.size := by (have h := hb1.size; (try simp at h); omega)); try (have hv1 : w.heap.size + 1 + 1 + 1 < w1.heap.size := by (have h := hb1.size; (try simp at h); omega)); try (have hp1 : w.heap.size ≤ w1.heap.size := by omega)))
    refine bodyPost_ret (v := .tuple #[.agg #[.int .i64 0, .int .i64 0], .int .i64 5]) (by simp [results, Try.results14, go_sem, *]) rfl ⟨by simp [chN, chD, chC, h1], ?_⟩
    repeat (first | exact Below.refl _ _ | refine bw_drew ?_ | refine bw_drewN ?_ _ | refine bw_set ?_ (by simp; try omega) _ | refine bw_alloc ?_ _ | refine bw_trans ?_ (by assumption) | assumption)
  · go_enter Try.func14, Try.ntmps14
    go_wp2_with (first | (go_at_call 17; refine (validFraction_is (by assumption) _).mono ?_; rintro e w1 ⟨rfl, hb1⟩; obtain ⟨hc1, hf1⟩ := bcell hb1; try (have hz1 : w.heap.size < w1.heap.size := by (have h := hb1.size; (try simp at h); omega)); try (have hy1 : w.heap.size + 1 < w1.heap.size := by (have h := hb1.size; (try simp at h); omega)); try (have hx1 : w.heap.size + 1 + 1 < w1.heap.size := by (have h := hb1.size; (try simp at h); omega)); try (have hv1 : w.heap.size + 1 + 1 + 1 < w1.heap.size := by (have h := hb1.size; (try simp at h); omega)); try (have hp1 : w.heap.size ≤ w1.heap.size := by omega)))
    refine bodyPost_ret (v := .tuple #[.agg #[.int .i64 n, .int .i64 d], .int .i64 0]) (by simp [results, Try.results14, go_sem, *]) rfl ⟨by simp [chN, chD, chC, h1], ?_⟩
    repeat (first | exact Below.refl _ _ | refine bw_drew ?_ | refine bw_drewN ?_ _ | refine bw_set ?_ (by simp; try omega) _ | refine bw_alloc ?_ _ | refine bw_trans ?_ (by assumption) | assumption)

end Go.Proofs.Ytclilanlhagppaa
