/-
  Fractions in lowest terms, in the program and in the reference; whether a fraction is valid; the law's own fraction as the program's; two fractions compared.
-/
import Derived.Test.YtclilanlhagppaaGcdQ
import Derived.RegionTactic
import Derived.BigRegion
namespace Go.Proofs.Ytclilanlhagppaa
open Go.RowKit

theorem ret_frac {a b c d : Int} (h : a = c) (k : b = d) : Ending.returned (.agg #[.int .i64 a, .int .i64 b]) = .returned (.agg #[.int .i64 c, .int .i64 d]) := by rw [h, k]

set_option maxHeartbeats 400000 in
theorem lowest_any (n d : Int) (w : World) (hn : -1000000000000000000 ≤ n ∧ n ≤ 1000000000000000000) (hd : 1 ≤ d ∧ d ≤ 1000000000000000000) :
    Calls Try.prog 15 #[.int .i64 n, .int .i64 d] w fun e w' => e = .returned (.agg #[.int .i64 (lowNum n d), .int .i64 (lowDen n d)]) ∧ Below w.heap.size w w' := by
  have hg := gcdI_pos (a := n) (b := d) (by omega)
  obtain ⟨hn1, hn2⟩ := hn
  obtain ⟨hd1, hd2⟩ := hd
  have hq := lowNum_bd (d := d) hn1 hn2
  unfold lowNum at hq
  obtain ⟨hq1, hq2⟩ := hq
  go_enter Try.func15, Try.ntmps15
  go_wp2_with fail
  refine ((gcd_any _ _ _ ⟨by omega, by omega⟩ ⟨by omega, by omega⟩)).mono ?_
  rintro e w1 ⟨rfl, hb1⟩
  obtain ⟨hc1, hf1⟩ := bcell hb1
  try (have hz1 : w.heap.size < w1.heap.size := by (have h := hb1.size; (try simp at h); omega))
  try (have hy1 : w.heap.size + 1 < w1.heap.size := by (have h := hb1.size; (try simp at h); omega))
  try (have hx1 : w.heap.size + 1 + 1 < w1.heap.size := by (have h := hb1.size; (try simp at h); omega))
  try (have hv1 : w.heap.size + 1 + 1 + 1 < w1.heap.size := by (have h := hb1.size; (try simp at h); omega))
  try (have hp1 : w.heap.size ≤ w1.heap.size := by omega)
  go_wp2_with fail
  go_region
  go_wp2
  refine bodyPost_ret (v := .agg #[.int .i64 (n.tdiv (gcdI n d)), .int .i64 (d / gcdI n d)]) (by simp [results, Try.results15, go_sem, hc1]) rfl ⟨ret_frac rfl (by unfold lowDen; rw [Int.tdiv_eq_ediv_of_nonneg (by omega)]), ?_⟩
  repeat (first | exact Below.refl _ _ | refine bw_drew ?_ | refine bw_drewN ?_ _ | refine bw_set ?_ (by simp; try omega) _ | refine bw_alloc ?_ _ | refine bw_trans ?_ (by assumption) | assumption)

set_option maxHeartbeats 400000 in
theorem validFraction_any (n d : Int) (w : World) :
    Calls Try.prog 17 #[.agg #[.int .i64 n, .int .i64 d]] w fun e w' => e = .returned (.bool (vFrac n d)) ∧ Below w.heap.size w w' := by
  rcases vFrac_cases n d with h1 | ⟨h1, h2⟩ | ⟨h1, h2, h3⟩ | ⟨h1, h2, h3⟩
  case inl =>
    go_enter Try.func17, Try.ntmps17
    go_wp2_with (go_at_call 16; refine (within_is (by assumption) _).mono ?_; rintro e w' ⟨rfl, rfl⟩)
    go_ret
    exact ⟨ret_bool (by simp [vFrac, *]), bw_alloc (Below.refl _ _) _⟩
  case inr.inl =>
    go_enter Try.func17, Try.ntmps17
    go_wp2_with (go_at_call 16; refine (within_is (by assumption) _).mono ?_; rintro e w' ⟨rfl, rfl⟩)
    go_ret
    exact ⟨ret_bool (by simp [vFrac, *]), bw_alloc (Below.refl _ _) _⟩
  all_goals
    obtain ⟨a1, a2⟩ := inB_true.1 h1
    obtain ⟨b1, b2⟩ := inB_true.1 h2
    go_enter Try.func17, Try.ntmps17
    go_wp2_with (first | (go_at_call 16; refine (within_is (by assumption) _).mono ?_; rintro e w' ⟨rfl, rfl⟩) | (go_at_call 18; refine (gcd_any _ _ _ ⟨by omega, by omega⟩ ⟨by omega, by omega⟩).mono ?_; rintro e w1 ⟨rfl, hb1⟩))
    go_ret
    exact ⟨ret_bool (by simp [vFrac, *]), bw_trans (bw_alloc (Below.refl _ _) _) hb1⟩

end Go.Proofs.Ytclilanlhagppaa
