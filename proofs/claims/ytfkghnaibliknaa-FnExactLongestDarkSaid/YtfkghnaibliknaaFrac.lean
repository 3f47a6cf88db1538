/-
  Fractions in lowest terms, in the program and in the reference; whether a fraction is valid; the law's own fraction as the program's; two fractions compared.
-/
import Derived.Test.YtfkghnaibliknaaGcd
import Derived.RegionTactic
import Derived.BigRegion
namespace Go.Proofs.Ytfkghnaibliknaa
open Go.RowKit

theorem ret_frac {a b c d : Int} (h : a = c) (k : b = d) : Ending.returned (.agg #[.int .i64 a, .int .i64 b]) = .returned (.agg #[.int .i64 c, .int .i64 d]) := by rw [h, k]

set_option maxHeartbeats 400000 in
theorem lowest_any (n d : Int) (w : World) (hn : -1000000000000000000 ≤ n ∧ n ≤ 1000000000000000000) (hd : 1 ≤ d ∧ d ≤ 1000000000000000000) :
    Calls Try.prog 47 #[.int .i64 n, .int .i64 d] w fun e w' => e = .returned (.agg #[.int .i64 (lowNum n d), .int .i64 (lowDen n d)]) ∧ Below w.heap.size w w' := by
  have hg := gcdI_pos (a := n) (b := d) (by omega)
  obtain ⟨hn1, hn2⟩ := hn
  obtain ⟨hd1, hd2⟩ := hd
  have hq := lowNum_bd (d := d) hn1 hn2
  unfold lowNum at hq
  obtain ⟨hq1, hq2⟩ := hq
  go_enter Try.func47, Try.ntmps47
  go_wp2_with fail
  refine ((gcd_any _ _ _ ⟨by omega, by omega⟩ ⟨by omega, by omega⟩)).mono ?_
  rintro e w1 ⟨rfl, hb1⟩
  obtain ⟨hc1, hf1⟩ := bcell hb1
  try (have hz1 : w.heap.size < w1.heap.size := by (have h := hb1.size; (try simp at h); omega))
  try (have hy1 : w.heap.size + 1 < w1.heap.size := by (have h := hb1.size; (try simp at h); omega))
  try (have hx1 : w.heap.size + 1 + 1 < w1.heap.size := by (have h := hb1.size; (try simp at h); omega))
  try (have hv1 : w.heap.size + 1 + 1 + 1 < w1.heap.size := by (have h := hb1.size; (try simp at h); omega))
  try (have hp1 : w.heap.size ≤ w1.heap.size := by omega)
  go_wp2_with fail
  go_region
  go_wp2
  refine bodyPost_ret (v := .agg #[.int .i64 (n.tdiv (gcdI n d)), .int .i64 (d / gcdI n d)]) (by simp [results, Try.results47, go_sem, hc1]) rfl ⟨ret_frac rfl (by unfold lowDen; rw [Int.tdiv_eq_ediv_of_nonneg (by omega)]), ?_⟩
  repeat (first | exact Below.refl _ _ | refine bw_drew ?_ | refine bw_drewN ?_ _ | refine bw_set ?_ (by simp; try omega) _ | refine bw_alloc ?_ _ | refine bw_trans ?_ (by assumption) | assumption)

theorem l02Make_any (n d : Int) (w : World) (hn : -1000000000000000000 ≤ n ∧ n ≤ 1000000000000000000) (hd : 1 ≤ d ∧ d ≤ 1000000000000000000) :
    Calls Try.prog 46 #[.int .i64 n, .int .i64 d] w fun e w' => e = .returned (.agg #[.int .i64 (lowNum n d), .int .i64 (lowDen n d)]) ∧ Below w.heap.size w w' := by
  have hg := gcdI_pos (a := n) (b := d) (by omega)
  obtain ⟨hn1, hn2⟩ := hn
  obtain ⟨hd1, hd2⟩ := hd
  have hq := lowNum_bd (d := d) hn1 hn2
  unfold lowNum at hq
  obtain ⟨hq1, hq2⟩ := hq
  go_enter Try.func46, Try.ntmps46
  have hna : 0 ≤ (n.natAbs : Int) ∧ (n.natAbs : Int) ≤ 1000000000000000000 := by omega
  have hgn := gcdI_natAbs n d
  have HG := Lib.hid hgn
  clear hgn
  go_wp2_with fail
  refine ((l00Size_any _ _ (by omega) (by omega))).mono ?_
  rintro e w' ⟨rfl, rfl⟩
  go_wp2_with fail
  refine (l00Gcd_any _ _ _ hna ⟨by omega, by omega⟩).mono ?_
  rw [HG.out]
  rintro e w' ⟨rfl, rfl⟩
  go_wp2_with fail
  go_region
  go_wp2
  refine bodyPost_ret (v := .agg #[.int .i64 (n.tdiv (gcdI n d)), .int .i64 (d / gcdI n d)]) (by simp [results, Try.results46, go_sem]) rfl ⟨ret_frac rfl (by unfold lowDen; rw [Int.tdiv_eq_ediv_of_nonneg (by omega)]), ?_⟩
  repeat (first | exact Below.refl _ _ | refine bw_drew ?_ | refine bw_drewN ?_ _ | refine bw_set ?_ (by simp; try omega) _ | refine bw_alloc ?_ _ | refine bw_trans ?_ (by assumption) | assumption)

set_option maxHeartbeats 400000 in
theorem validFraction_any (n d : Int) (w : World) :
    Calls Try.prog 57 #[.agg #[.int .i64 n, .int .i64 d]] w fun e w' => e = .returned (.bool (vFrac n d)) ∧ Below w.heap.size w w' := by
  rcases vFrac_cases n d with h1 | ⟨h1, h2⟩ | ⟨h1, h2, h3⟩ | ⟨h1, h2, h3⟩
  case inl =>
    go_enter Try.func57, Try.ntmps57
    go_wp2_with (go_at_call 40; refine (within_is (by assumption) _).mono ?_; rintro e w' ⟨rfl, rfl⟩)
    go_ret
    exact ⟨ret_bool (by simp [vFrac, *]), bw_alloc (Below.refl _ _) _⟩
  case inr.inl =>
    go_enter Try.func57, Try.ntmps57
    go_wp2_with (go_at_call 40; refine (within_is (by assumption) _).mono ?_; rintro e w' ⟨rfl, rfl⟩)
    go_ret
    exact ⟨ret_bool (by simp [vFrac, *]), bw_alloc (Below.refl _ _) _⟩
  all_goals
    obtain ⟨a1, a2⟩ := inB_true.1 h1
    obtain ⟨b1, b2⟩ := inB_true.1 h2
    go_enter Try.func57, Try.ntmps57
    go_wp2_with (first | (go_at_call 40; refine (within_is (by assumption) _).mono ?_; rintro e w' ⟨rfl, rfl⟩) | (go_at_call 56; refine (gcd_any _ _ _ ⟨by omega, by omega⟩ ⟨by omega, by omega⟩).mono ?_; rintro e w1 ⟨rfl, hb1⟩))
    go_ret
    exact ⟨ret_bool (by simp [vFrac, *]), bw_trans (bw_alloc (Below.refl _ _) _) hb1⟩

set_option maxHeartbeats 400000 in
theorem l02Ok_any (n d : Int) (w : World) :
    Calls Try.prog 48 #[.agg #[.int .i64 n, .int .i64 d]] w fun e w' => e = .returned (.bool (vFrac n d)) ∧ Below w.heap.size w w' := by
  have hc0 := bel_cell (w := w.alloc (.cells #[.int .i64 n, .int .i64 d] 40)) (a := ⟨w.heap.size, 0, none⟩) (v := .int .i64 n) (by go_simp)
  have hc1 := bel_cell (w := w.alloc (.cells #[.int .i64 n, .int .i64 d] 40)) (a := ⟨w.heap.size, 1, none⟩) (v := .int .i64 d) (by go_simp)
  have hgn := gcdI_natAbs n d
  rcases vFrac_cases n d with h1 | ⟨h1, h2⟩ | ⟨h1, h2, h3⟩ | ⟨h1, h2, h3⟩
  case inl =>
    go_enter Try.func48, Try.ntmps48
    go_wp2_with fail
    refine wp_region_bel (by kernel_rfl) (by kernel_rfl) ?_
    repeat (go_big_quiet_step (((go_at_call 41; exact calm_same (l00In_is (by assumption) _)))))
    refine wpQuiet_nil ?_
    intro wq hw'
    obtain ⟨tq, hw''⟩ := hw'
    have hwq := tq.2
    rw [← hw''] at hwq
    clear hw'' tq
    obtain ⟨hcwq, hfwq⟩ := bcell hwq
    try (have hzwq : w.heap.size < wq.heap.size := by (have h := hwq.size; (try simp at h); omega))
    try (have hywq : w.heap.size + 1 < wq.heap.size := by (have h := hwq.size; (try simp at h); omega))
    try (have hxwq : w.heap.size + 1 + 1 < wq.heap.size := by (have h := hwq.size; (try simp at h); omega))
    try (have hvwq : w.heap.size + 1 + 1 + 1 < wq.heap.size := by (have h := hwq.size; (try simp at h); omega))
    go_wp2
    go_ret
    exact ⟨ret_bool (by simp [vFrac, *]), bw_trans (bw_alloc (Below.refl _ _) _) hwq⟩
  case inr.inl =>
    go_enter Try.func48, Try.ntmps48
    go_wp2_with fail
    refine wp_region_bel (by kernel_rfl) (by kernel_rfl) ?_
    repeat (go_big_quiet_step (((go_at_call 41; exact calm_same (l00In_is (by assumption) _)))))
    refine wpQuiet_nil ?_
    intro wq hw'
    obtain ⟨tq, hw''⟩ := hw'
    have hwq := tq.2
    rw [← hw''] at hwq
    clear hw'' tq
    obtain ⟨hcwq, hfwq⟩ := bcell hwq
    try (have hzwq : w.heap.size < wq.heap.size := by (have h := hwq.size; (try simp at h); omega))
    try (have hywq : w.heap.size + 1 < wq.heap.size := by (have h := hwq.size; (try simp at h); omega))
    try (have hxwq : w.heap.size + 1 + 1 < wq.heap.size := by (have h := hwq.size; (try simp at h); omega))
    try (have hvwq : w.heap.size + 1 + 1 + 1 < wq.heap.size := by (have h := hwq.size; (try simp at h); omega))
    go_wp2
    go_ret
    exact ⟨ret_bool (by simp [vFrac, *]), bw_trans (bw_alloc (Below.refl _ _) _) hwq⟩
  all_goals
    obtain ⟨a1, a2⟩ := inB_true.1 h1
    obtain ⟨b1, b2⟩ := inB_true.1 h2
    have hna : 0 ≤ (n.natAbs : Int) ∧ (n.natAbs : Int) ≤ 1000000000000000000 := by omega
    go_enter Try.func48, Try.ntmps48
    go_wp2_with fail
    refine wp_region_bel (by kernel_rfl) (by kernel_rfl) ?_
    repeat (go_big_quiet_step ((first | (go_at_call 41; exact calm_same (l00In_is (by assumption) _)) | (go_at_call 55; exact calm_same (l00Size_any _ _ (by omega) (by omega))) | (go_at_call 54; exact calm_same (l00Gcd_any _ _ _ hna ⟨by omega, by omega⟩)))))
    refine wpQuiet_nil ?_
    intro wq hw'
    obtain ⟨tq, hw''⟩ := hw'
    have hwq := tq.2
    rw [← hw''] at hwq
    clear hw'' tq
    obtain ⟨hcwq, hfwq⟩ := bcell hwq
    try (have hzwq : w.heap.size < wq.heap.size := by (have h := hwq.size; (try simp at h); omega))
    try (have hywq : w.heap.size + 1 < wq.heap.size := by (have h := hwq.size; (try simp at h); omega))
    try (have hxwq : w.heap.size + 1 + 1 < wq.heap.size := by (have h := hwq.size; (try simp at h); omega))
    try (have hvwq : w.heap.size + 1 + 1 + 1 < wq.heap.size := by (have h := hwq.size; (try simp at h); omega))
    go_wp2
    go_ret
    exact ⟨ret_bool (by simp [vFrac, *]), bw_trans (bw_alloc (Below.refl _ _) _) hwq⟩

set_option maxHeartbeats 400000 in
theorem toFraction_any (n d : Int) (w : World) :
    Calls Try.prog 29 #[.agg #[.int .i64 n, .int .i64 d]] w fun e w' => e = .returned (.agg #[.int .i64 n, .int .i64 d]) ∧ Below w.heap.size w w' := by
  go_enter Try.func29, Try.ntmps29
  go_wp2
  refine bodyPost_ret (v := .agg #[.int .i64 n, .int .i64 d]) (by simp [results, Try.results29, go_sem]) rfl ⟨rfl, ?_⟩
  exact bw_alloc (bw_alloc (bw_alloc (Below.refl _ _) _) _) _

set_option maxHeartbeats 400000 in
theorem eqFraction_any (n d : Int) (w : World) :
    Calls Try.prog 27 #[.agg #[.int .i64 n, .int .i64 d], .agg #[.int .i64 n, .int .i64 d]] w fun e w' => e = .returned (.bool true) ∧ Below w.heap.size w w' := by
  go_enter Try.func27, Try.ntmps27
  go_wp2
  go_ret
  exact ⟨rfl, bw_alloc (bw_alloc (Below.refl _ _) _) _⟩
end Go.Proofs.Ytfkghnaibliknaa
