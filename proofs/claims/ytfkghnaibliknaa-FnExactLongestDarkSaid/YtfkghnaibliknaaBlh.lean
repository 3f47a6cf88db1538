/-
  How often a wheel flickers, whether it is steady, the fewest blades, the longest dark: in the program and in the reference.
-/
import Derived.Test.YtfkghnaibliknaaBle
namespace Go.Proofs.Ytfkghnaibliknaa
open Go.RowKit

theorem rc_zero {v : Bool} {n d l : Int} (h1 : (v && vFrac n d) = true) (h2 : (isRt n d && inB l 1 200) = true) : v = true ∧ (1 ≤ n ∧ n ≤ 1000) ∧ (1 ≤ d ∧ d ≤ 1000) ∧ (1 ≤ l ∧ l ≤ 200) := by
  rw [Bool.and_eq_true] at h1 h2
  obtain ⟨a1, a2⟩ := h1
  obtain ⟨b1, b2⟩ := h2
  obtain ⟨c1, c2, _⟩ := vFrac_true.1 a2
  obtain ⟨d1, d2⟩ := isRt_true.1 b1
  exact ⟨a1, d1, ⟨c1.1, d2⟩, inB_true.1 b2⟩

def frT (m o n d : Int) : Int × Int × Int := if rcC (vBl m o) n d 1 = 0 then (lowNum (n * m) d, lowDen (n * m) d, 0) else (0, 0, rcC (vBl m o) n d 1)
def ldT (m o n d : Int) : Int × Int × Int := if rcC (vBl m o) n d 1 = 0 then (lowNum ((1000 - o) / m * d) (1000 * n), lowDen ((1000 - o) / m * d) (1000 * n), 0) else (0, 0, rcC (vBl m o) n d 1)

set_option maxHeartbeats 800000 in
theorem flickerRate_any (m o n d : Int) (w : World) :
    Calls Try.prog 36 #[.agg #[.int .i64 m, .int .i64 o], .agg #[.int .i64 n, .int .i64 d]] w fun e w' => e = .returned (.tuple #[.agg #[.int .i64 (frT m o n d).1, .int .i64 (frT m o n d).2.1], .int .i64 (frT m o n d).2.2]) ∧ Below w.heap.size w w' := by
  rcases rc_three (vBl m o) n d 1 with ⟨h1, _⟩ | ⟨h1, _⟩ | ⟨h1, h2, h3⟩
  case inl =>
    go_enter Try.func36, Try.ntmps36
    go_wp2_with fail
    refine wp_region_bel (by kernel_rfl) (by kernel_rfl) ?_
    repeat (go_big_quiet_step ((first | (go_at_call 16; exact calm_of (validBlades_any _ _ _)) | (go_at_call 51; exact calm_of (rateCode_is h1 _)))))
    refine wpQuiet_nil ?_
    intro w1 hw'
    obtain ⟨tq, hw''⟩ := hw'
    have hw1 := tq.2
    rw [← hw''] at hw1
    clear hw'' tq
    obtain ⟨hcw1, hfw1⟩ := bcell hw1
    try (have hzw1 : w.heap.size < w1.heap.size := by (have h := hw1.size; (try simp at h); omega))
    try (have hyw1 : w.heap.size + 1 < w1.heap.size := by (have h := hw1.size; (try simp at h); omega))
    try (have hxw1 : w.heap.size + 1 + 1 < w1.heap.size := by (have h := hw1.size; (try simp at h); omega))
    try (have hvw1 : w.heap.size + 1 + 1 + 1 < w1.heap.size := by (have h := hw1.size; (try simp at h); omega))
    go_wp2
    refine bodyPost_ret (v := .tuple #[.agg #[.int .i64 0, .int .i64 0], .int .i64 1]) (by simp [results, Try.results36, go_sem, *]) rfl ⟨by simp [frT, h1], ?_⟩
    repeat (first | exact Below.refl _ _ | refine bw_drew ?_ | refine bw_drewN ?_ _ | refine bw_set ?_ (by simp; try omega) _ | refine bw_alloc ?_ _ | refine bw_trans ?_ (by assumption) | assumption)
  case inr.inl =>
    go_enter Try.func36, Try.ntmps36
    go_wp2_with fail
    refine wp_region_bel (by kernel_rfl) (by kernel_rfl) ?_
    repeat (go_big_quiet_step ((first | (go_at_call 16; exact calm_of (validBlades_any _ _ _)) | (go_at_call 51; exact calm_of (rateCode_is h1 _)))))
    refine wpQuiet_nil ?_
    intro w1 hw'
    obtain ⟨tq, hw''⟩ := hw'
    have hw1 := tq.2
    rw [← hw''] at hw1
    clear hw'' tq
    obtain ⟨hcw1, hfw1⟩ := bcell hw1
    try (have hzw1 : w.heap.size < w1.heap.size := by (have h := hw1.size; (try simp at h); omega))
    try (have hyw1 : w.heap.size + 1 < w1.heap.size := by (have h := hw1.size; (try simp at h); omega))
    try (have hxw1 : w.heap.size + 1 + 1 < w1.heap.size := by (have h := hw1.size; (try simp at h); omega))
    try (have hvw1 : w.heap.size + 1 + 1 + 1 < w1.heap.size := by (have h := hw1.size; (try simp at h); omega))
    go_wp2
    refine bodyPost_ret (v := .tuple #[.agg #[.int .i64 0, .int .i64 0], .int .i64 2]) (by simp [results, Try.results36, go_sem, *]) rfl ⟨by simp [frT, h1], ?_⟩
    repeat (first | exact Below.refl _ _ | refine bw_drew ?_ | refine bw_drewN ?_ _ | refine bw_set ?_ (by simp; try omega) _ | refine bw_alloc ?_ _ | refine bw_trans ?_ (by assumption) | assumption)
  case inr.inr =>
    obtain ⟨hv, ⟨n1, n2⟩, ⟨d1, d2⟩, _⟩ := rc_zero h2 h3
    obtain ⟨⟨m1, m2⟩, _⟩ := vBl_true.1 hv
    obtain ⟨p1, p2⟩ := mul_bd (a := n) (b := m) (A := 1000) (B := 12) (by omega) (by omega) (by omega) (by omega)
    clear h2 h3 hv
    go_enter Try.func36, Try.ntmps36
    go_wp2_with fail
    refine wp_region_bel (by kernel_rfl) (by kernel_rfl) ?_
    repeat (go_big_quiet_step ((first | (go_at_call 16; exact calm_of (validBlades_any _ _ _)) | (go_at_call 51; exact calm_of (rateCode_is h1 _)))))
    refine wpQuiet_nil ?_
    intro w1 hw'
    obtain ⟨tq, hw''⟩ := hw'
    have hw1 := tq.2
    rw [← hw''] at hw1
    clear hw'' tq
    obtain ⟨hcw1, hfw1⟩ := bcell hw1
    try (have hzw1 : w.heap.size < w1.heap.size := by (have h := hw1.size; (try simp at h); omega))
    try (have hyw1 : w.heap.size + 1 < w1.heap.size := by (have h := hw1.size; (try simp at h); omega))
    try (have hxw1 : w.heap.size + 1 + 1 < w1.heap.size := by (have h := hw1.size; (try simp at h); omega))
    try (have hvw1 : w.heap.size + 1 + 1 + 1 < w1.heap.size := by (have h := hw1.size; (try simp at h); omega))
    go_wp2_with (first | (go_at_call 47; refine (lowest_any _ _ _ ⟨by omega, by omega⟩ ⟨by omega, by omega⟩).mono ?_; rintro e w1 ⟨rfl, hb1⟩; obtain ⟨hc1, hf1⟩ := bcell hb1; try (have hz1 : w.heap.size < w1.heap.size := by (have h := hb1.size; (try simp at h); omega)); try (have hy1 : w.heap.size + 1 < w1.heap.size := by (have h := hb1.size; (try simp at h); omega)); try (have hx1 : w.heap.size + 1 + 1 < w1.heap.size := by (have h := hb1.size; (try simp at h); omega)); try (have hv1 : w.heap.size + 1 + 1 + 1 < w1.heap.size := by (have h := hb1.size; (try simp at h); omega)); try (have hp1 : w.heap.size ≤ w1.heap.size := by omega)))
    refine bodyPost_ret (v := .tuple #[.agg #[.int .i64 (lowNum (n * m) d), .int .i64 (lowDen (n * m) d)], .int .i64 0]) (by simp [results, Try.results36, go_sem, *]) rfl ⟨by simp [frT, h1], ?_⟩
    repeat (first | exact Below.refl _ _ | refine bw_drew ?_ | refine bw_drewN ?_ _ | refine bw_set ?_ (by simp; try omega) _ | refine bw_alloc ?_ _ | refine bw_trans ?_ (by assumption) | assumption)

set_option maxHeartbeats 800000 in
theorem sFlickerRate_any (m o n d : Int) (w : World) :
    Calls Try.prog 35 #[.agg #[.int .i64 m, .int .i64 o], .agg #[.int .i64 n, .int .i64 d]] w fun e w' => e = .returned (.tuple #[.agg #[.int .i64 (frT m o n d).1, .int .i64 (frT m o n d).2.1], .int .i64 (frT m o n d).2.2]) ∧ Below w.heap.size w w' := by
  rcases rc_three (vBl m o) n d 1 with ⟨h1, _⟩ | ⟨h1, _⟩ | ⟨h1, h2, h3⟩
  case inl =>
    go_enter Try.func35, Try.ntmps35
    go_wp2_with (first | (go_at_call 53; refine (l09Code_is h1 _ _ _ (by go_simp) (by go_simp)).mono ?_; rintro e w1 ⟨rfl, hb1⟩; obtain ⟨hc1, hf1⟩ := bcell hb1; try (have hz1 : w.heap.size < w1.heap.size := by (have h := hb1.size; (try simp at h); omega)); try (have hy1 : w.heap.size + 1 < w1.heap.size := by (have h := hb1.size; (try simp at h); omega)); try (have hx1 : w.heap.size + 1 + 1 < w1.heap.size := by (have h := hb1.size; (try simp at h); omega)); try (have hv1 : w.heap.size + 1 + 1 + 1 < w1.heap.size := by (have h := hb1.size; (try simp at h); omega)); try (have hp1 : w.heap.size ≤ w1.heap.size := by omega)))
    refine bodyPost_ret (v := .tuple #[.agg #[.int .i64 0, .int .i64 0], .int .i64 1]) (by simp [results, Try.results35, go_sem, *]) rfl ⟨by simp [frT, h1], ?_⟩
    repeat (first | exact Below.refl _ _ | refine bw_drew ?_ | refine bw_drewN ?_ _ | refine bw_set ?_ (by simp; try omega) _ | refine bw_alloc ?_ _ | refine bw_trans ?_ (by assumption) | assumption)
  case inr.inl =>
    go_enter Try.func35, Try.ntmps35
    go_wp2_with (first | (go_at_call 53; refine (l09Code_is h1 _ _ _ (by go_simp) (by go_simp)).mono ?_; rintro e w1 ⟨rfl, hb1⟩; obtain ⟨hc1, hf1⟩ := bcell hb1; try (have hz1 : w.heap.size < w1.heap.size := by (have h := hb1.size; (try simp at h); omega)); try (have hy1 : w.heap.size + 1 < w1.heap.size := by (have h := hb1.size; (try simp at h); omega)); try (have hx1 : w.heap.size + 1 + 1 < w1.heap.size := by (have h := hb1.size; (try simp at h); omega)); try (have hv1 : w.heap.size + 1 + 1 + 1 < w1.heap.size := by (have h := hb1.size; (try simp at h); omega)); try (have hp1 : w.heap.size ≤ w1.heap.size := by omega)))
    refine bodyPost_ret (v := .tuple #[.agg #[.int .i64 0, .int .i64 0], .int .i64 2]) (by simp [results, Try.results35, go_sem, *]) rfl ⟨by simp [frT, h1], ?_⟩
    repeat (first | exact Below.refl _ _ | refine bw_drew ?_ | refine bw_drewN ?_ _ | refine bw_set ?_ (by simp; try omega) _ | refine bw_alloc ?_ _ | refine bw_trans ?_ (by assumption) | assumption)
  case inr.inr =>
    obtain ⟨hv, ⟨n1, n2⟩, ⟨d1, d2⟩, _⟩ := rc_zero h2 h3
    obtain ⟨⟨m1, m2⟩, _⟩ := vBl_true.1 hv
    obtain ⟨p1, p2⟩ := mul_bd (a := n) (b := m) (A := 1000) (B := 12) (by omega) (by omega) (by omega) (by omega)
    clear h2 h3 hv
    go_enter Try.func35, Try.ntmps35
    go_wp2_with (first | (go_at_call 53; refine (l09Code_is h1 _ _ _ (by go_simp) (by go_simp)).mono ?_; rintro e w1 ⟨rfl, hb1⟩; obtain ⟨hc1, hf1⟩ := bcell hb1; try (have hz1 : w.heap.size < w1.heap.size := by (have h := hb1.size; (try simp at h); omega)); try (have hy1 : w.heap.size + 1 < w1.heap.size := by (have h := hb1.size; (try simp at h); omega)); try (have hx1 : w.heap.size + 1 + 1 < w1.heap.size := by (have h := hb1.size; (try simp at h); omega)); try (have hv1 : w.heap.size + 1 + 1 + 1 < w1.heap.size := by (have h := hb1.size; (try simp at h); omega)); try (have hp1 : w.heap.size ≤ w1.heap.size := by omega)) | (go_at_call 46; refine (l02Make_any _ _ _ ⟨by omega, by omega⟩ ⟨by omega, by omega⟩).mono ?_; rintro e w1 ⟨rfl, hb1⟩; obtain ⟨hc1, hf1⟩ := bcell hb1; try (have hz1 : w.heap.size < w1.heap.size := by (have h := hb1.size; (try simp at h); omega)); try (have hy1 : w.heap.size + 1 < w1.heap.size := by (have h := hb1.size; (try simp at h); omega)); try (have hx1 : w.heap.size + 1 + 1 < w1.heap.size := by (have h := hb1.size; (try simp at h); omega)); try (have hv1 : w.heap.size + 1 + 1 + 1 < w1.heap.size := by (have h := hb1.size; (try simp at h); omega)); try (have hp1 : w.heap.size ≤ w1.heap.size := by omega)))
    refine bodyPost_ret (v := .tuple #[.agg #[.int .i64 (lowNum (n * m) d), .int .i64 (lowDen (n * m) d)], .int .i64 0]) (by simp [results, Try.results35, go_sem, *]) rfl ⟨by simp [frT, h1], ?_⟩
    repeat (first | exact Below.refl _ _ | refine bw_drew ?_ | refine bw_drewN ?_ _ | refine bw_set ?_ (by simp; try omega) _ | refine bw_alloc ?_ _ | refine bw_trans ?_ (by assumption) | assumption)

/-! ### IsSteady -/
def stB (m n d l : Int) : Bool := decide (l * d ≤ n * m)
def isB (m o n d l : Int) : Bool := decide (rcC (vBl m o) n d l = 0) && stB m n d l

set_option maxHeartbeats 400000 in
theorem steady_any (m n d l : Int) (w : World) (hm : 1 ≤ m ∧ m ≤ 12) (hn : 1 ≤ n ∧ n ≤ 1000) (hd : 1 ≤ d ∧ d ≤ 1000) (hl : 1 ≤ l ∧ l ≤ 200) :
    Calls Try.prog 52 #[.int .i64 m, .agg #[.int .i64 n, .int .i64 d], .int .i64 l] w fun e w' => e = .returned (.bool (stB m n d l)) ∧ Below w.heap.size w w' := by
  obtain ⟨p1, p2⟩ := mul_bd (a := n) (b := m) (A := 1000) (B := 12) (by omega) (by omega) (by omega) (by omega)
  obtain ⟨q1, q2⟩ := mul_bd (a := l) (b := d) (A := 200) (B := 1000) (by omega) (by omega) (by omega) (by omega)
  go_enter Try.func52, Try.ntmps52
  go_wp2
  go_ret
  refine ⟨rfl, ?_⟩
  repeat (first | exact Below.refl _ _ | refine bw_drew ?_ | refine bw_drewN ?_ _ | refine bw_set ?_ (by simp; try omega) _ | refine bw_alloc ?_ _ | refine bw_trans ?_ (by assumption) | assumption)

set_option maxHeartbeats 800000 in
theorem isSteady_any (m o n d l : Int) (w : World) :
    Calls Try.prog 34 #[.agg #[.int .i64 m, .int .i64 o], .agg #[.int .i64 n, .int .i64 d], .int .i64 l] w fun e w' => e = .returned (.tuple #[.bool (isB m o n d l), .int .i64 (rcC (vBl m o) n d l)]) ∧ Below w.heap.size w w' := by
  rcases rc_three (vBl m o) n d l with ⟨h1, _⟩ | ⟨h1, _⟩ | ⟨h1, h2, h3⟩
  case inl =>
    go_enter Try.func34, Try.ntmps34
    go_wp2_with fail
    refine wp_region_bel (by kernel_rfl) (by kernel_rfl) ?_
    repeat (go_big_quiet_step ((first | (go_at_call 16; exact calm_of (validBlades_any _ _ _)) | (go_at_call 51; exact calm_of (rateCode_is h1 _)))))
    refine wpQuiet_nil ?_
    intro w1 hw'
    obtain ⟨tq, hw''⟩ := hw'
    have hw1 := tq.2
    rw [← hw''] at hw1
    clear hw'' tq
    obtain ⟨hcw1, hfw1⟩ := bcell hw1
    try (have hzw1 : w.heap.size < w1.heap.size := by (have h := hw1.size; (try simp at h); omega))
    try (have hyw1 : w.heap.size + 1 < w1.heap.size := by (have h := hw1.size; (try simp at h); omega))
    try (have hxw1 : w.heap.size + 1 + 1 < w1.heap.size := by (have h := hw1.size; (try simp at h); omega))
    try (have hvw1 : w.heap.size + 1 + 1 + 1 < w1.heap.size := by (have h := hw1.size; (try simp at h); omega))
    go_wp2
    go_ret2
    refine ⟨by simp [isB, h1], ?_⟩
    repeat (first | exact Below.refl _ _ | refine bw_drew ?_ | refine bw_drewN ?_ _ | refine bw_set ?_ (by simp; try omega) _ | refine bw_alloc ?_ _ | refine bw_trans ?_ (by assumption) | assumption)
  case inr.inl =>
    go_enter Try.func34, Try.ntmps34
    go_wp2_with fail
    refine wp_region_bel (by kernel_rfl) (by kernel_rfl) ?_
    repeat (go_big_quiet_step ((first | (go_at_call 16; exact calm_of (validBlades_any _ _ _)) | (go_at_call 51; exact calm_of (rateCode_is h1 _)))))
    refine wpQuiet_nil ?_
    intro w1 hw'
    obtain ⟨tq, hw''⟩ := hw'
    have hw1 := tq.2
    rw [← hw''] at hw1
    clear hw'' tq
    obtain ⟨hcw1, hfw1⟩ := bcell hw1
    try (have hzw1 : w.heap.size < w1.heap.size := by (have h := hw1.size; (try simp at h); omega))
    try (have hyw1 : w.heap.size + 1 < w1.heap.size := by (have h := hw1.size; (try simp at h); omega))
    try (have hxw1 : w.heap.size + 1 + 1 < w1.heap.size := by (have h := hw1.size; (try simp at h); omega))
    try (have hvw1 : w.heap.size + 1 + 1 + 1 < w1.heap.size := by (have h := hw1.size; (try simp at h); omega))
    go_wp2
    go_ret2
    refine ⟨by simp [isB, h1], ?_⟩
    repeat (first | exact Below.refl _ _ | refine bw_drew ?_ | refine bw_drewN ?_ _ | refine bw_set ?_ (by simp; try omega) _ | refine bw_alloc ?_ _ | refine bw_trans ?_ (by assumption) | assumption)
  case inr.inr =>
    obtain ⟨hv, hn, hd, hl⟩ := rc_zero h2 h3
    obtain ⟨hm, _⟩ := vBl_true.1 hv
    clear h2 h3 hv
    go_enter Try.func34, Try.ntmps34
    go_wp2_with fail
    refine wp_region_bel (by kernel_rfl) (by kernel_rfl) ?_
    repeat (go_big_quiet_step ((first | (go_at_call 16; exact calm_of (validBlades_any _ _ _)) | (go_at_call 51; exact calm_of (rateCode_is h1 _)))))
    refine wpQuiet_nil ?_
    intro w1 hw'
    obtain ⟨tq, hw''⟩ := hw'
    have hw1 := tq.2
    rw [← hw''] at hw1
    clear hw'' tq
    obtain ⟨hcw1, hfw1⟩ := bcell hw1
    try (have hzw1 : w.heap.size < w1.heap.size := by (have h := hw1.size; (try simp at h); omega))
    try (have hyw1 : w.heap.size + 1 < w1.heap.size := by (have h := hw1.size; (try simp at h); omega))
    try (have hxw1 : w.heap.size + 1 + 1 < w1.heap.size := by (have h := hw1.size; (try simp at h); omega))
    try (have hvw1 : w.heap.size + 1 + 1 + 1 < w1.heap.size := by (have h := hw1.size; (try simp at h); omega))
    go_wp2_with (first | (go_at_call 52; refine (steady_any _ _ _ _ _ hm hn hd hl).mono ?_; rintro e w1 ⟨rfl, hb1⟩; obtain ⟨hc1, hf1⟩ := bcell hb1; try (have hz1 : w.heap.size < w1.heap.size := by (have h := hb1.size; (try simp at h); omega)); try (have hy1 : w.heap.size + 1 < w1.heap.size := by (have h := hb1.size; (try simp at h); omega)); try (have hx1 : w.heap.size + 1 + 1 < w1.heap.size := by (have h := hb1.size; (try simp at h); omega)); try (have hv1 : w.heap.size + 1 + 1 + 1 < w1.heap.size := by (have h := hb1.size; (try simp at h); omega)); try (have hp1 : w.heap.size ≤ w1.heap.size := by omega)))
    go_ret2
    refine ⟨by simp [isB, h1], ?_⟩
    repeat (first | exact Below.refl _ _ | refine bw_drew ?_ | refine bw_drewN ?_ _ | refine bw_set ?_ (by simp; try omega) _ | refine bw_alloc ?_ _ | refine bw_trans ?_ (by assumption) | assumption)

theorem l09Least_any (n : Int) (w : World) :
    Calls Try.prog 50 #[.int .i64 n] w fun e w' => e = .returned (.bool (inB n 1 200)) ∧ w = w' := l09Least_is rfl w
theorem rc_one (v : Bool) (n d l : Int) : (rcC v n d 1 = 1 ∧ rcC v n d l = 1) ∨ (rcC v n d 1 = 2 ∧ rcC v n d l = 2) ∨ (rcC v n d 1 = 0 ∧ inB l 1 200 = false ∧ rcC v n d l = 2) ∨ (rcC v n d 1 = 0 ∧ inB l 1 200 = true ∧ rcC v n d l = 0 ∧ (v && vFrac n d) = true ∧ (isRt n d && inB l 1 200) = true) := by
  unfold rcC; rw [one_ok]; cases (v && vFrac n d) <;> cases isRt n d <;> cases inB l 1 200 <;> simp

set_option maxHeartbeats 800000 in
theorem sIsSteady_any (m o n d l : Int) (w : World) :
    Calls Try.prog 33 #[.agg #[.int .i64 m, .int .i64 o], .agg #[.int .i64 n, .int .i64 d], .int .i64 l] w fun e w' => e = .returned (.tuple #[.bool (isB m o n d l), .int .i64 (rcC (vBl m o) n d l)]) ∧ Below w.heap.size w w' := by
  rcases rc_one (vBl m o) n d l with ⟨h1, h1'⟩ | ⟨h1, h1'⟩ | ⟨h1, h2, h1'⟩ | ⟨h1, h2, h1', h3, h4⟩
  case inl =>
    have H := Lib.hid h1'
    clear h1'
    go_enter Try.func33, Try.ntmps33
    go_wp2_with (first | (go_at_call 53; refine (l09Code_is h1 _ _ _ (by go_simp) (by go_simp)).mono ?_; rintro e w1 ⟨rfl, hb1⟩; obtain ⟨hc1, hf1⟩ := bcell hb1; try (have hz1 : w.heap.size < w1.heap.size := by (have h := hb1.size; (try simp at h); omega)); try (have hy1 : w.heap.size + 1 < w1.heap.size := by (have h := hb1.size; (try simp at h); omega)); try (have hx1 : w.heap.size + 1 + 1 < w1.heap.size := by (have h := hb1.size; (try simp at h); omega)); try (have hv1 : w.heap.size + 1 + 1 + 1 < w1.heap.size := by (have h := hb1.size; (try simp at h); omega)); try (have hp1 : w.heap.size ≤ w1.heap.size := by omega)) | (go_at_call 50; refine (l09Least_is (by assumption) _).mono ?_; rintro e w1 ⟨rfl, rfl⟩))
    go_ret2
    refine ⟨by simp [isB, H.out], ?_⟩
    repeat (first | exact Below.refl _ _ | refine bw_drew ?_ | refine bw_drewN ?_ _ | refine bw_set ?_ (by simp; try omega) _ | refine bw_alloc ?_ _ | refine bw_trans ?_ (by assumption) | assumption)
  case inr.inl =>
    have H := Lib.hid h1'
    clear h1'
    go_enter Try.func33, Try.ntmps33
    go_wp2_with (first | (go_at_call 53; refine (l09Code_is h1 _ _ _ (by go_simp) (by go_simp)).mono ?_; rintro e w1 ⟨rfl, hb1⟩; obtain ⟨hc1, hf1⟩ := bcell hb1; try (have hz1 : w.heap.size < w1.heap.size := by (have h := hb1.size; (try simp at h); omega)); try (have hy1 : w.heap.size + 1 < w1.heap.size := by (have h := hb1.size; (try simp at h); omega)); try (have hx1 : w.heap.size + 1 + 1 < w1.heap.size := by (have h := hb1.size; (try simp at h); omega)); try (have hv1 : w.heap.size + 1 + 1 + 1 < w1.heap.size := by (have h := hb1.size; (try simp at h); omega)); try (have hp1 : w.heap.size ≤ w1.heap.size := by omega)) | (go_at_call 50; refine (l09Least_is (by assumption) _).mono ?_; rintro e w1 ⟨rfl, rfl⟩))
    go_ret2
    refine ⟨by simp [isB, H.out], ?_⟩
    repeat (first | exact Below.refl _ _ | refine bw_drew ?_ | refine bw_drewN ?_ _ | refine bw_set ?_ (by simp; try omega) _ | refine bw_alloc ?_ _ | refine bw_trans ?_ (by assumption) | assumption)
  case inr.inr.inl =>
    have H := Lib.hid h1'
    clear h1'
    go_enter Try.func33, Try.ntmps33
    go_wp2_with (first | (go_at_call 53; refine (l09Code_is h1 _ _ _ (by go_simp) (by go_simp)).mono ?_; rintro e w1 ⟨rfl, hb1⟩; obtain ⟨hc1, hf1⟩ := bcell hb1; try (have hz1 : w.heap.size < w1.heap.size := by (have h := hb1.size; (try simp at h); omega)); try (have hy1 : w.heap.size + 1 < w1.heap.size := by (have h := hb1.size; (try simp at h); omega)); try (have hx1 : w.heap.size + 1 + 1 < w1.heap.size := by (have h := hb1.size; (try simp at h); omega)); try (have hv1 : w.heap.size + 1 + 1 + 1 < w1.heap.size := by (have h := hb1.size; (try simp at h); omega)); try (have hp1 : w.heap.size ≤ w1.heap.size := by omega)) | (go_at_call 50; refine (l09Least_is (by assumption) _).mono ?_; rintro e w1 ⟨rfl, rfl⟩))
    go_ret2
    refine ⟨by simp [isB, H.out], ?_⟩
    repeat (first | exact Below.refl _ _ | refine bw_drew ?_ | refine bw_drewN ?_ _ | refine bw_set ?_ (by simp; try omega) _ | refine bw_alloc ?_ _ | refine bw_trans ?_ (by assumption) | assumption)
  case inr.inr.inr =>
    obtain ⟨hv, ⟨n1, n2⟩, ⟨d1, d2⟩, ⟨l1, l2⟩⟩ := rc_zero h3 h4
    obtain ⟨⟨m1, m2⟩, _⟩ := vBl_true.1 hv
    obtain ⟨p1, p2⟩ := mul_bd (a := n) (b := m) (A := 1000) (B := 12) (by omega) (by omega) (by omega) (by omega)
    obtain ⟨q1, q2⟩ := mul_bd (a := l) (b := d) (A := 200) (B := 1000) (by omega) (by omega) (by omega) (by omega)
    have H := Lib.hid h1'
    clear h1' h3 h4 hv
    go_enter Try.func33, Try.ntmps33
    go_wp2_with (first | (go_at_call 53; refine (l09Code_is h1 _ _ _ (by go_simp) (by go_simp)).mono ?_; rintro e w1 ⟨rfl, hb1⟩; obtain ⟨hc1, hf1⟩ := bcell hb1; try (have hz1 : w.heap.size < w1.heap.size := by (have h := hb1.size; (try simp at h); omega)); try (have hy1 : w.heap.size + 1 < w1.heap.size := by (have h := hb1.size; (try simp at h); omega)); try (have hx1 : w.heap.size + 1 + 1 < w1.heap.size := by (have h := hb1.size; (try simp at h); omega)); try (have hv1 : w.heap.size + 1 + 1 + 1 < w1.heap.size := by (have h := hb1.size; (try simp at h); omega)); try (have hp1 : w.heap.size ≤ w1.heap.size := by omega)) | (go_at_call 50; refine (l09Least_is (by assumption) _).mono ?_; rintro e w1 ⟨rfl, rfl⟩))
    go_ret2
    refine ⟨by simp [isB, H.out, stB], ?_⟩
    repeat (first | exact Below.refl _ _ | refine bw_drew ?_ | refine bw_drewN ?_ _ | refine bw_set ?_ (by simp; try omega) _ | refine bw_alloc ?_ _ | refine bw_trans ?_ (by assumption) | assumption)

set_option maxHeartbeats 400000 in
theorem law_IsSteady (m o n d l : Int) (w : World) :
    Calls Try.prog 11 #[.agg #[.int .i64 m, .int .i64 o], .agg #[.int .i64 n, .int .i64 d], .int .i64 l] w fun e w' => e = .returned (.bool true) ∧ Below w.heap.size w w' := by
  go_enter Try.func11, Try.ntmps11
  go_wp2_with fail
  refine wp_region_bel (by kernel_rfl) (by kernel_rfl) ?_
  repeat (go_big_quiet_step ((first | (go_at_call 15; exact calm_of (toBlades_any _ _ _)) | (go_at_call 29; exact calm_of (toFraction_any _ _ _)) | (go_at_call 33; exact calm_of (sIsSteady_any _ _ _ _ _ _)))))
  refine wpQuiet_nil ?_
  intro w1 hw'
  obtain ⟨tq, hw''⟩ := hw'
  have hw1 := tq.2
  rw [← hw''] at hw1
  clear hw'' tq
  obtain ⟨hcw1, hfw1⟩ := bcell hw1
  try (have hzw1 : w.heap.size < w1.heap.size := by (have h := hw1.size; (try simp at h); omega))
  try (have hyw1 : w.heap.size + 1 < w1.heap.size := by (have h := hw1.size; (try simp at h); omega))
  try (have hxw1 : w.heap.size + 1 + 1 < w1.heap.size := by (have h := hw1.size; (try simp at h); omega))
  try (have hvw1 : w.heap.size + 1 + 1 + 1 < w1.heap.size := by (have h := hw1.size; (try simp at h); omega))
  go_wp2_with fail
  refine wp_region_bel (by kernel_rfl) (by kernel_rfl) ?_
  repeat (go_big_quiet_step ((first | (go_at_call 15; exact calm_of (toBlades_any _ _ _)) | (go_at_call 29; exact calm_of (toFraction_any _ _ _)) | (go_at_call 34; exact calm_of (isSteady_any _ _ _ _ _ _)))))
  refine wpQuiet_nil ?_
  intro w2 hw'
  obtain ⟨tq, hw''⟩ := hw'
  have hw2 := tq.2
  rw [← hw''] at hw2
  clear hw'' tq
  obtain ⟨hcw2, hfw2⟩ := bcell hw2
  try (have hzw2 : w.heap.size < w2.heap.size := by (have h := hw2.size; (try simp at h); omega))
  try (have hyw2 : w.heap.size + 1 < w2.heap.size := by (have h := hw2.size; (try simp at h); omega))
  try (have hxw2 : w.heap.size + 1 + 1 < w2.heap.size := by (have h := hw2.size; (try simp at h); omega))
  try (have hvw2 : w.heap.size + 1 + 1 + 1 < w2.heap.size := by (have h := hw2.size; (try simp at h); omega))
  go_wp2
  go_ret
  refine ⟨rfl, ?_⟩
  repeat (first | exact Below.refl _ _ | refine bw_drew ?_ | refine bw_drewN ?_ _ | refine bw_set ?_ (by simp; try omega) _ | refine bw_alloc ?_ _ | refine bw_trans ?_ (by assumption) | assumption)
end Go.Proofs.Ytfkghnaibliknaa
