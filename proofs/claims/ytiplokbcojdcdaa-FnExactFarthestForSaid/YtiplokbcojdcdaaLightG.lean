/-
  Brightness at another distance, the farthest distance: in the program and in the reference; the laws of light.
-/
import Derived.Test.YtiplokbcojdcdaaLight
namespace Go.Proofs.Ytiplokbcojdcdaa
open Go.RowKit

set_option maxHeartbeats 400000 in
theorem isBrightness_any (n d : Int) (w : World) :
    Calls Try.prog 62 #[.agg #[.int .i64 n, .int .i64 d]] w fun e w' => e = .returned (.bool (isBr n d)) ∧ Below w.heap.size w w' := by
  rcases isBr_cases n d with h1 | ⟨h1, h2⟩ | ⟨h1, h2⟩
  all_goals
    go_enter Try.func62, Try.ntmps62
    go_wp2_with (go_at_call 48; refine (within_is (by assumption) _).mono ?_; rintro e w1 ⟨rfl, rfl⟩)
    go_ret
    refine ⟨ret_bool (by simp only [isBr, h1]; simp_all), ?_⟩
    repeat (first | exact Below.refl _ _ | refine bw_drew ?_ | refine bw_drewN ?_ _ | refine bw_set ?_ (by simp; try omega) _ | refine bw_alloc ?_ _ | refine bw_trans ?_ (by assumption) | assumption)
theorem isBrightness_is {n d : Int} {b : Bool} (h : isBr n d = b) (w : World) :
    Calls Try.prog 62 #[.agg #[.int .i64 n, .int .i64 d]] w fun e w' => e = .returned (.bool b) ∧ Below w.heap.size w w' := by
  subst h; exact isBrightness_any n d w

set_option maxHeartbeats 400000 in
theorem l12Bright_any (n d : Int) (w : World) :
    Calls Try.prog 60 #[.agg #[.int .i64 n, .int .i64 d]] w fun e w' => e = .returned (.bool (vFrac n d && isBr n d)) ∧ Below w.heap.size w w' := by
  cases hv : vFrac n d
  · go_enter Try.func60, Try.ntmps60
    go_wp2_with (first | (go_at_call 46; refine (l00In_is (by assumption) _).mono ?_; rintro e w1 ⟨rfl, rfl⟩) | (go_at_call 59; refine (l02Ok_is (by assumption) _).mono ?_; rintro e w1 ⟨rfl, hb1⟩; obtain ⟨hc1, hf1⟩ := bcell hb1; try (have hz1 : w.heap.size < w1.heap.size := by (have h := hb1.size; (try simp at h); omega)); try (have hy1 : w.heap.size + 1 < w1.heap.size := by (have h := hb1.size; (try simp at h); omega)); try (have hx1 : w.heap.size + 1 + 1 < w1.heap.size := by (have h := hb1.size; (try simp at h); omega)); try (have hv1 : w.heap.size + 1 + 1 + 1 < w1.heap.size := by (have h := hb1.size; (try simp at h); omega)); try (have hp1 : w.heap.size ≤ w1.heap.size := by omega)))
    go_ret
    refine ⟨ret_bool (by simp), ?_⟩
    repeat (first | exact Below.refl _ _ | refine bw_drew ?_ | refine bw_drewN ?_ _ | refine bw_set ?_ (by simp; try omega) _ | refine bw_alloc ?_ _ | refine bw_trans ?_ (by assumption) | assumption)
  rcases isBr_cases n d with h1 | ⟨h1, h2⟩ | ⟨h1, h2⟩
  all_goals
    go_enter Try.func60, Try.ntmps60
    go_wp2_with (first | (go_at_call 46; refine (l00In_is (by assumption) _).mono ?_; rintro e w1 ⟨rfl, rfl⟩) | (go_at_call 59; refine (l02Ok_is (by assumption) _).mono ?_; rintro e w1 ⟨rfl, hb1⟩; obtain ⟨hc1, hf1⟩ := bcell hb1; try (have hz1 : w.heap.size < w1.heap.size := by (have h := hb1.size; (try simp at h); omega)); try (have hy1 : w.heap.size + 1 < w1.heap.size := by (have h := hb1.size; (try simp at h); omega)); try (have hx1 : w.heap.size + 1 + 1 < w1.heap.size := by (have h := hb1.size; (try simp at h); omega)); try (have hv1 : w.heap.size + 1 + 1 + 1 < w1.heap.size := by (have h := hb1.size; (try simp at h); omega)); try (have hp1 : w.heap.size ≤ w1.heap.size := by omega)))
    go_ret
    refine ⟨ret_bool (by simp only [isBr, h1]; simp_all), ?_⟩
    repeat (first | exact Below.refl _ _ | refine bw_drew ?_ | refine bw_drewN ?_ _ | refine bw_set ?_ (by simp; try omega) _ | refine bw_alloc ?_ _ | refine bw_trans ?_ (by assumption) | assumption)
theorem l12Bright_is {n d : Int} {b : Bool} (hv : vFrac n d = true) (h : isBr n d = b) (w : World) :
    Calls Try.prog 60 #[.agg #[.int .i64 n, .int .i64 d]] w fun e w' => e = .returned (.bool b) ∧ Below w.heap.size w w' := by
  have := l12Bright_any n d w
  rw [hv, h] at this
  exact this

set_option maxHeartbeats 400000 in
theorem brAt_any (n d p q : Int) (w : World) (hn : 0 ≤ n ∧ n ≤ 100000) (hd : 1 ≤ d ∧ d ≤ 100000) (hp : 1 ≤ p ∧ p ≤ 1000) (hq : 1 ≤ q ∧ q ≤ 1000) :
    Calls Try.prog 63 #[.agg #[.int .i64 n, .int .i64 d], .int .i64 p, .int .i64 q] w fun e w' => e = .returned (.agg #[.int .i64 (lowNum (n * p * p) (d * q * q)), .int .i64 (lowDen (n * p * p) (d * q * q))]) ∧ Below w.heap.size w w' := by
  obtain ⟨n1, n2⟩ := hn
  obtain ⟨d1, d2⟩ := hd
  obtain ⟨p1, p2⟩ := hp
  obtain ⟨q1, q2⟩ := hq
  obtain ⟨a1, a2⟩ := mul_bd n1 n2 (by omega : 0 ≤ p) p2
  obtain ⟨b1, b2⟩ := mul_bd a1 a2 (by omega : 0 ≤ p) p2
  obtain ⟨c1, c2⟩ := mul_bd1 d1 d2 q1 q2
  obtain ⟨e1, e2⟩ := mul_bd1 c1 c2 q1 q2
  go_enter Try.func63, Try.ntmps63
  go_wp2_with (first | (go_at_call 49; refine (lowest_any _ _ _ ⟨by omega, by omega⟩ ⟨by omega, by omega⟩).mono ?_; rintro e w1 ⟨rfl, hb1⟩; obtain ⟨hc1, hf1⟩ := bcell hb1; try (have hz1 : w.heap.size < w1.heap.size := by (have h := hb1.size; (try simp at h); omega)); try (have hy1 : w.heap.size + 1 < w1.heap.size := by (have h := hb1.size; (try simp at h); omega)); try (have hx1 : w.heap.size + 1 + 1 < w1.heap.size := by (have h := hb1.size; (try simp at h); omega)); try (have hv1 : w.heap.size + 1 + 1 + 1 < w1.heap.size := by (have h := hb1.size; (try simp at h); omega)); try (have hp1 : w.heap.size ≤ w1.heap.size := by omega)))
  refine bodyPost_ret (v := .agg #[.int .i64 (lowNum (n * p * p) (d * q * q)), .int .i64 (lowDen (n * p * p) (d * q * q))]) (by simp [results, Try.results63, go_sem, *]) rfl ⟨rfl, ?_⟩
  repeat (first | exact Below.refl _ _ | refine bw_drew ?_ | refine bw_drewN ?_ _ | refine bw_set ?_ (by simp; try omega) _ | refine bw_alloc ?_ _ | refine bw_trans ?_ (by assumption) | assumption)

set_option maxHeartbeats 400000 in
theorem brightnessAt_any (n d p q : Int) (w : World) :
    Calls Try.prog 38 #[.agg #[.int .i64 n, .int .i64 d], .int .i64 p, .int .i64 q] w fun e w' => e = .returned (.tuple #[.agg #[.int .i64 (baT n d p q).1, .int .i64 (baT n d p q).2.1], .int .i64 (baT n d p q).2.2]) ∧ Below w.heap.size w w' := by
  cases h1 : vFrac n d
  · go_enter Try.func38, Try.ntmps38
    go_wp2_with (first | (go_at_call 45; refine (isSide_is (by assumption) _).mono ?_; rintro e w1 ⟨rfl, rfl⟩) | (go_at_call 61; refine (validFraction_is (by assumption) _).mono ?_; rintro e w1 ⟨rfl, hb1⟩; obtain ⟨hc1, hf1⟩ := bcell hb1; try (have hz1 : w.heap.size < w1.heap.size := by (have h := hb1.size; (try simp at h); omega)); try (have hy1 : w.heap.size + 1 < w1.heap.size := by (have h := hb1.size; (try simp at h); omega)); try (have hx1 : w.heap.size + 1 + 1 < w1.heap.size := by (have h := hb1.size; (try simp at h); omega)); try (have hv1 : w.heap.size + 1 + 1 + 1 < w1.heap.size := by (have h := hb1.size; (try simp at h); omega)); try (have hp1 : w.heap.size ≤ w1.heap.size := by omega)) | (go_at_call 62; refine (isBrightness_is (by assumption) _).mono ?_; rintro e w1 ⟨rfl, hb1⟩; obtain ⟨hc1, hf1⟩ := bcell hb1; try (have hz1 : w.heap.size < w1.heap.size := by (have h := hb1.size; (try simp at h); omega)); try (have hy1 : w.heap.size + 1 < w1.heap.size := by (have h := hb1.size; (try simp at h); omega)); try (have hx1 : w.heap.size + 1 + 1 < w1.heap.size := by (have h := hb1.size; (try simp at h); omega)); try (have hv1 : w.heap.size + 1 + 1 + 1 < w1.heap.size := by (have h := hb1.size; (try simp at h); omega)); try (have hp1 : w.heap.size ≤ w1.heap.size := by omega)) | (go_at_call 63; refine (brAt_any _ _ _ _ _ ⟨n1, n2⟩ ⟨d1, d2⟩ ⟨p1, p2⟩ ⟨q1, q2⟩).mono ?_; rintro e w1 ⟨rfl, hb1⟩; obtain ⟨hc1, hf1⟩ := bcell hb1; try (have hz1 : w.heap.size < w1.heap.size := by (have h := hb1.size; (try simp at h); omega)); try (have hy1 : w.heap.size + 1 < w1.heap.size := by (have h := hb1.size; (try simp at h); omega)); try (have hx1 : w.heap.size + 1 + 1 < w1.heap.size := by (have h := hb1.size; (try simp at h); omega)); try (have hv1 : w.heap.size + 1 + 1 + 1 < w1.heap.size := by (have h := hb1.size; (try simp at h); omega)); try (have hp1 : w.heap.size ≤ w1.heap.size := by omega)))
    refine bodyPost_ret (v := .tuple #[.agg #[.int .i64 (0), .int .i64 (0)], .int .i64 (1)]) (by simp [results, Try.results38, go_sem, *]) rfl ⟨by simp [baT, h1], ?_⟩
    repeat (first | exact Below.refl _ _ | refine bw_drew ?_ | refine bw_drewN ?_ _ | refine bw_set ?_ (by simp; try omega) _ | refine bw_alloc ?_ _ | refine bw_trans ?_ (by assumption) | assumption)
  cases h2 : isBr n d
  · go_enter Try.func38, Try.ntmps38
    go_wp2_with (first | (go_at_call 45; refine (isSide_is (by assumption) _).mono ?_; rintro e w1 ⟨rfl, rfl⟩) | (go_at_call 61; refine (validFraction_is (by assumption) _).mono ?_; rintro e w1 ⟨rfl, hb1⟩; obtain ⟨hc1, hf1⟩ := bcell hb1; try (have hz1 : w.heap.size < w1.heap.size := by (have h := hb1.size; (try simp at h); omega)); try (have hy1 : w.heap.size + 1 < w1.heap.size := by (have h := hb1.size; (try simp at h); omega)); try (have hx1 : w.heap.size + 1 + 1 < w1.heap.size := by (have h := hb1.size; (try simp at h); omega)); try (have hv1 : w.heap.size + 1 + 1 + 1 < w1.heap.size := by (have h := hb1.size; (try simp at h); omega)); try (have hp1 : w.heap.size ≤ w1.heap.size := by omega)) | (go_at_call 62; refine (isBrightness_is (by assumption) _).mono ?_; rintro e w1 ⟨rfl, hb1⟩; obtain ⟨hc1, hf1⟩ := bcell hb1; try (have hz1 : w.heap.size < w1.heap.size := by (have h := hb1.size; (try simp at h); omega)); try (have hy1 : w.heap.size + 1 < w1.heap.size := by (have h := hb1.size; (try simp at h); omega)); try (have hx1 : w.heap.size + 1 + 1 < w1.heap.size := by (have h := hb1.size; (try simp at h); omega)); try (have hv1 : w.heap.size + 1 + 1 + 1 < w1.heap.size := by (have h := hb1.size; (try simp at h); omega)); try (have hp1 : w.heap.size ≤ w1.heap.size := by omega)) | (go_at_call 63; refine (brAt_any _ _ _ _ _ ⟨n1, n2⟩ ⟨d1, d2⟩ ⟨p1, p2⟩ ⟨q1, q2⟩).mono ?_; rintro e w1 ⟨rfl, hb1⟩; obtain ⟨hc1, hf1⟩ := bcell hb1; try (have hz1 : w.heap.size < w1.heap.size := by (have h := hb1.size; (try simp at h); omega)); try (have hy1 : w.heap.size + 1 < w1.heap.size := by (have h := hb1.size; (try simp at h); omega)); try (have hx1 : w.heap.size + 1 + 1 < w1.heap.size := by (have h := hb1.size; (try simp at h); omega)); try (have hv1 : w.heap.size + 1 + 1 + 1 < w1.heap.size := by (have h := hb1.size; (try simp at h); omega)); try (have hp1 : w.heap.size ≤ w1.heap.size := by omega)))
    refine bodyPost_ret (v := .tuple #[.agg #[.int .i64 (0), .int .i64 (0)], .int .i64 (2)]) (by simp [results, Try.results38, go_sem, *]) rfl ⟨by simp [baT, h1, h2], ?_⟩
    repeat (first | exact Below.refl _ _ | refine bw_drew ?_ | refine bw_drewN ?_ _ | refine bw_set ?_ (by simp; try omega) _ | refine bw_alloc ?_ _ | refine bw_trans ?_ (by assumption) | assumption)
  cases h3 : isSi p
  · go_enter Try.func38, Try.ntmps38
    go_wp2_with (first | (go_at_call 45; refine (isSide_is (by assumption) _).mono ?_; rintro e w1 ⟨rfl, rfl⟩) | (go_at_call 61; refine (validFraction_is (by assumption) _).mono ?_; rintro e w1 ⟨rfl, hb1⟩; obtain ⟨hc1, hf1⟩ := bcell hb1; try (have hz1 : w.heap.size < w1.heap.size := by (have h := hb1.size; (try simp at h); omega)); try (have hy1 : w.heap.size + 1 < w1.heap.size := by (have h := hb1.size; (try simp at h); omega)); try (have hx1 : w.heap.size + 1 + 1 < w1.heap.size := by (have h := hb1.size; (try simp at h); omega)); try (have hv1 : w.heap.size + 1 + 1 + 1 < w1.heap.size := by (have h := hb1.size; (try simp at h); omega)); try (have hp1 : w.heap.size ≤ w1.heap.size := by omega)) | (go_at_call 62; refine (isBrightness_is (by assumption) _).mono ?_; rintro e w1 ⟨rfl, hb1⟩; obtain ⟨hc1, hf1⟩ := bcell hb1; try (have hz1 : w.heap.size < w1.heap.size := by (have h := hb1.size; (try simp at h); omega)); try (have hy1 : w.heap.size + 1 < w1.heap.size := by (have h := hb1.size; (try simp at h); omega)); try (have hx1 : w.heap.size + 1 + 1 < w1.heap.size := by (have h := hb1.size; (try simp at h); omega)); try (have hv1 : w.heap.size + 1 + 1 + 1 < w1.heap.size := by (have h := hb1.size; (try simp at h); omega)); try (have hp1 : w.heap.size ≤ w1.heap.size := by omega)) | (go_at_call 63; refine (brAt_any _ _ _ _ _ ⟨n1, n2⟩ ⟨d1, d2⟩ ⟨p1, p2⟩ ⟨q1, q2⟩).mono ?_; rintro e w1 ⟨rfl, hb1⟩; obtain ⟨hc1, hf1⟩ := bcell hb1; try (have hz1 : w.heap.size < w1.heap.size := by (have h := hb1.size; (try simp at h); omega)); try (have hy1 : w.heap.size + 1 < w1.heap.size := by (have h := hb1.size; (try simp at h); omega)); try (have hx1 : w.heap.size + 1 + 1 < w1.heap.size := by (have h := hb1.size; (try simp at h); omega)); try (have hv1 : w.heap.size + 1 + 1 + 1 < w1.heap.size := by (have h := hb1.size; (try simp at h); omega)); try (have hp1 : w.heap.size ≤ w1.heap.size := by omega)))
    refine bodyPost_ret (v := .tuple #[.agg #[.int .i64 (0), .int .i64 (0)], .int .i64 (2)]) (by simp [results, Try.results38, go_sem, *]) rfl ⟨by simp [baT, h1, h2, h3], ?_⟩
    repeat (first | exact Below.refl _ _ | refine bw_drew ?_ | refine bw_drewN ?_ _ | refine bw_set ?_ (by simp; try omega) _ | refine bw_alloc ?_ _ | refine bw_trans ?_ (by assumption) | assumption)
  obtain ⟨p1, p2⟩ := isSi_true.1 h3
  cases h4 : isSi q
  · go_enter Try.func38, Try.ntmps38
    go_wp2_with (first | (go_at_call 45; refine (isSide_is (by assumption) _).mono ?_; rintro e w1 ⟨rfl, rfl⟩) | (go_at_call 61; refine (validFraction_is (by assumption) _).mono ?_; rintro e w1 ⟨rfl, hb1⟩; obtain ⟨hc1, hf1⟩ := bcell hb1; try (have hz1 : w.heap.size < w1.heap.size := by (have h := hb1.size; (try simp at h); omega)); try (have hy1 : w.heap.size + 1 < w1.heap.size := by (have h := hb1.size; (try simp at h); omega)); try (have hx1 : w.heap.size + 1 + 1 < w1.heap.size := by (have h := hb1.size; (try simp at h); omega)); try (have hv1 : w.heap.size + 1 + 1 + 1 < w1.heap.size := by (have h := hb1.size; (try simp at h); omega)); try (have hp1 : w.heap.size ≤ w1.heap.size := by omega)) | (go_at_call 62; refine (isBrightness_is (by assumption) _).mono ?_; rintro e w1 ⟨rfl, hb1⟩; obtain ⟨hc1, hf1⟩ := bcell hb1; try (have hz1 : w.heap.size < w1.heap.size := by (have h := hb1.size; (try simp at h); omega)); try (have hy1 : w.heap.size + 1 < w1.heap.size := by (have h := hb1.size; (try simp at h); omega)); try (have hx1 : w.heap.size + 1 + 1 < w1.heap.size := by (have h := hb1.size; (try simp at h); omega)); try (have hv1 : w.heap.size + 1 + 1 + 1 < w1.heap.size := by (have h := hb1.size; (try simp at h); omega)); try (have hp1 : w.heap.size ≤ w1.heap.size := by omega)) | (go_at_call 63; refine (brAt_any _ _ _ _ _ ⟨n1, n2⟩ ⟨d1, d2⟩ ⟨p1, p2⟩ ⟨q1, q2⟩).mono ?_; rintro e w1 ⟨rfl, hb1⟩; obtain ⟨hc1, hf1⟩ := bcell hb1; try (have hz1 : w.heap.size < w1.heap.size := by (have h := hb1.size; (try simp at h); omega)); try (have hy1 : w.heap.size + 1 < w1.heap.size := by (have h := hb1.size; (try simp at h); omega)); try (have hx1 : w.heap.size + 1 + 1 < w1.heap.size := by (have h := hb1.size; (try simp at h); omega)); try (have hv1 : w.heap.size + 1 + 1 + 1 < w1.heap.size := by (have h := hb1.size; (try simp at h); omega)); try (have hp1 : w.heap.size ≤ w1.heap.size := by omega)))
    refine bodyPost_ret (v := .tuple #[.agg #[.int .i64 (0), .int .i64 (0)], .int .i64 (2)]) (by simp [results, Try.results38, go_sem, *]) rfl ⟨by simp [baT, h1, h2, h3, h4], ?_⟩
    repeat (first | exact Below.refl _ _ | refine bw_drew ?_ | refine bw_drewN ?_ _ | refine bw_set ?_ (by simp; try omega) _ | refine bw_alloc ?_ _ | refine bw_trans ?_ (by assumption) | assumption)
  obtain ⟨q1, q2⟩ := isSi_true.1 h4
  obtain ⟨⟨d1, d3⟩, ⟨n3, n4⟩, hg⟩ := vFrac_true.1 h1
  obtain ⟨⟨n1, n2⟩, d2⟩ := isBr_true.1 h2
  clear hg
  go_enter Try.func38, Try.ntmps38
  go_wp2_with (first | (go_at_call 45; refine (isSide_is (by assumption) _).mono ?_; rintro e w1 ⟨rfl, rfl⟩) | (go_at_call 61; refine (validFraction_is (by assumption) _).mono ?_; rintro e w1 ⟨rfl, hb1⟩; obtain ⟨hc1, hf1⟩ := bcell hb1; try (have hz1 : w.heap.size < w1.heap.size := by (have h := hb1.size; (try simp at h); omega)); try (have hy1 : w.heap.size + 1 < w1.heap.size := by (have h := hb1.size; (try simp at h); omega)); try (have hx1 : w.heap.size + 1 + 1 < w1.heap.size := by (have h := hb1.size; (try simp at h); omega)); try (have hv1 : w.heap.size + 1 + 1 + 1 < w1.heap.size := by (have h := hb1.size; (try simp at h); omega)); try (have hp1 : w.heap.size ≤ w1.heap.size := by omega)) | (go_at_call 62; refine (isBrightness_is (by assumption) _).mono ?_; rintro e w1 ⟨rfl, hb1⟩; obtain ⟨hc1, hf1⟩ := bcell hb1; try (have hz1 : w.heap.size < w1.heap.size := by (have h := hb1.size; (try simp at h); omega)); try (have hy1 : w.heap.size + 1 < w1.heap.size := by (have h := hb1.size; (try simp at h); omega)); try (have hx1 : w.heap.size + 1 + 1 < w1.heap.size := by (have h := hb1.size; (try simp at h); omega)); try (have hv1 : w.heap.size + 1 + 1 + 1 < w1.heap.size := by (have h := hb1.size; (try simp at h); omega)); try (have hp1 : w.heap.size ≤ w1.heap.size := by omega)) | (go_at_call 63; refine (brAt_any _ _ _ _ _ ⟨n1, n2⟩ ⟨d1, d2⟩ ⟨p1, p2⟩ ⟨q1, q2⟩).mono ?_; rintro e w1 ⟨rfl, hb1⟩; obtain ⟨hc1, hf1⟩ := bcell hb1; try (have hz1 : w.heap.size < w1.heap.size := by (have h := hb1.size; (try simp at h); omega)); try (have hy1 : w.heap.size + 1 < w1.heap.size := by (have h := hb1.size; (try simp at h); omega)); try (have hx1 : w.heap.size + 1 + 1 < w1.heap.size := by (have h := hb1.size; (try simp at h); omega)); try (have hv1 : w.heap.size + 1 + 1 + 1 < w1.heap.size := by (have h := hb1.size; (try simp at h); omega)); try (have hp1 : w.heap.size ≤ w1.heap.size := by omega)))
  refine bodyPost_ret (v := .tuple #[.agg #[.int .i64 (lowNum (n * p * p) (d * q * q)), .int .i64 (lowDen (n * p * p) (d * q * q))], .int .i64 (0)]) (by simp [results, Try.results38, go_sem, *]) rfl ⟨by simp [baT, h1, h2, h3, h4], ?_⟩
  repeat (first | exact Below.refl _ _ | refine bw_drew ?_ | refine bw_drewN ?_ _ | refine bw_set ?_ (by simp; try omega) _ | refine bw_alloc ?_ _ | refine bw_trans ?_ (by assumption) | assumption)

set_option maxHeartbeats 400000 in
theorem sBrightnessAt_any (n d p q : Int) (w : World) :
    Calls Try.prog 36 #[.agg #[.int .i64 n, .int .i64 d], .int .i64 p, .int .i64 q] w fun e w' => e = .returned (.tuple #[.agg #[.int .i64 (baT n d p q).1, .int .i64 (baT n d p q).2.1], .int .i64 (baT n d p q).2.2]) ∧ Below w.heap.size w w' := by
  cases h1 : vFrac n d
  · go_enter Try.func36, Try.ntmps36
    go_wp2_with (first | (go_at_call 50; refine (l12Far_is (by assumption) _).mono ?_; rintro e w1 ⟨rfl, rfl⟩) | (go_at_call 59; refine (l02Ok_is (by assumption) _).mono ?_; rintro e w1 ⟨rfl, hb1⟩; obtain ⟨hc1, hf1⟩ := bcell hb1; try (have hz1 : w.heap.size < w1.heap.size := by (have h := hb1.size; (try simp at h); omega)); try (have hy1 : w.heap.size + 1 < w1.heap.size := by (have h := hb1.size; (try simp at h); omega)); try (have hx1 : w.heap.size + 1 + 1 < w1.heap.size := by (have h := hb1.size; (try simp at h); omega)); try (have hv1 : w.heap.size + 1 + 1 + 1 < w1.heap.size := by (have h := hb1.size; (try simp at h); omega)); try (have hp1 : w.heap.size ≤ w1.heap.size := by omega)) | (go_at_call 60; refine (l12Bright_is (by assumption) (by assumption) _).mono ?_; rintro e w1 ⟨rfl, hb1⟩; obtain ⟨hc1, hf1⟩ := bcell hb1; try (have hz1 : w.heap.size < w1.heap.size := by (have h := hb1.size; (try simp at h); omega)); try (have hy1 : w.heap.size + 1 < w1.heap.size := by (have h := hb1.size; (try simp at h); omega)); try (have hx1 : w.heap.size + 1 + 1 < w1.heap.size := by (have h := hb1.size; (try simp at h); omega)); try (have hv1 : w.heap.size + 1 + 1 + 1 < w1.heap.size := by (have h := hb1.size; (try simp at h); omega)); try (have hp1 : w.heap.size ≤ w1.heap.size := by omega)) | (go_at_call 47; refine (l02Make_any _ _ _ ⟨by omega, by omega⟩ ⟨by omega, by omega⟩).mono ?_; rintro e w1 ⟨rfl, hb1⟩; obtain ⟨hc1, hf1⟩ := bcell hb1; try (have hz1 : w.heap.size < w1.heap.size := by (have h := hb1.size; (try simp at h); omega)); try (have hy1 : w.heap.size + 1 < w1.heap.size := by (have h := hb1.size; (try simp at h); omega)); try (have hx1 : w.heap.size + 1 + 1 < w1.heap.size := by (have h := hb1.size; (try simp at h); omega)); try (have hv1 : w.heap.size + 1 + 1 + 1 < w1.heap.size := by (have h := hb1.size; (try simp at h); omega)); try (have hp1 : w.heap.size ≤ w1.heap.size := by omega)))
    refine bodyPost_ret (v := .tuple #[.agg #[.int .i64 (0), .int .i64 (0)], .int .i64 (1)]) (by simp [results, Try.results36, go_sem, *]) rfl ⟨by simp [baT, h1], ?_⟩
    repeat (first | exact Below.refl _ _ | refine bw_drew ?_ | refine bw_drewN ?_ _ | refine bw_set ?_ (by simp; try omega) _ | refine bw_alloc ?_ _ | refine bw_trans ?_ (by assumption) | assumption)
  cases h2 : isBr n d
  · go_enter Try.func36, Try.ntmps36
    go_wp2_with (first | (go_at_call 50; refine (l12Far_is (by assumption) _).mono ?_; rintro e w1 ⟨rfl, rfl⟩) | (go_at_call 59; refine (l02Ok_is (by assumption) _).mono ?_; rintro e w1 ⟨rfl, hb1⟩; obtain ⟨hc1, hf1⟩ := bcell hb1; try (have hz1 : w.heap.size < w1.heap.size := by (have h := hb1.size; (try simp at h); omega)); try (have hy1 : w.heap.size + 1 < w1.heap.size := by (have h := hb1.size; (try simp at h); omega)); try (have hx1 : w.heap.size + 1 + 1 < w1.heap.size := by (have h := hb1.size; (try simp at h); omega)); try (have hv1 : w.heap.size + 1 + 1 + 1 < w1.heap.size := by (have h := hb1.size; (try simp at h); omega)); try (have hp1 : w.heap.size ≤ w1.heap.size := by omega)) | (go_at_call 60; refine (l12Bright_is (by assumption) (by assumption) _).mono ?_; rintro e w1 ⟨rfl, hb1⟩; obtain ⟨hc1, hf1⟩ := bcell hb1; try (have hz1 : w.heap.size < w1.heap.size := by (have h := hb1.size; (try simp at h); omega)); try (have hy1 : w.heap.size + 1 < w1.heap.size := by (have h := hb1.size; (try simp at h); omega)); try (have hx1 : w.heap.size + 1 + 1 < w1.heap.size := by (have h := hb1.size; (try simp at h); omega)); try (have hv1 : w.heap.size + 1 + 1 + 1 < w1.heap.size := by (have h := hb1.size; (try simp at h); omega)); try (have hp1 : w.heap.size ≤ w1.heap.size := by omega)) | (go_at_call 47; refine (l02Make_any _ _ _ ⟨by omega, by omega⟩ ⟨by omega, by omega⟩).mono ?_; rintro e w1 ⟨rfl, hb1⟩; obtain ⟨hc1, hf1⟩ := bcell hb1; try (have hz1 : w.heap.size < w1.heap.size := by (have h := hb1.size; (try simp at h); omega)); try (have hy1 : w.heap.size + 1 < w1.heap.size := by (have h := hb1.size; (try simp at h); omega)); try (have hx1 : w.heap.size + 1 + 1 < w1.heap.size := by (have h := hb1.size; (try simp at h); omega)); try (have hv1 : w.heap.size + 1 + 1 + 1 < w1.heap.size := by (have h := hb1.size; (try simp at h); omega)); try (have hp1 : w.heap.size ≤ w1.heap.size := by omega)))
    refine bodyPost_ret (v := .tuple #[.agg #[.int .i64 (0), .int .i64 (0)], .int .i64 (2)]) (by simp [results, Try.results36, go_sem, *]) rfl ⟨by simp [baT, h1, h2], ?_⟩
    repeat (first | exact Below.refl _ _ | refine bw_drew ?_ | refine bw_drewN ?_ _ | refine bw_set ?_ (by simp; try omega) _ | refine bw_alloc ?_ _ | refine bw_trans ?_ (by assumption) | assumption)
  cases h3 : isSi p
  · go_enter Try.func36, Try.ntmps36
    go_wp2_with (first | (go_at_call 50; refine (l12Far_is (by assumption) _).mono ?_; rintro e w1 ⟨rfl, rfl⟩) | (go_at_call 59; refine (l02Ok_is (by assumption) _).mono ?_; rintro e w1 ⟨rfl, hb1⟩; obtain ⟨hc1, hf1⟩ := bcell hb1; try (have hz1 : w.heap.size < w1.heap.size := by (have h := hb1.size; (try simp at h); omega)); try (have hy1 : w.heap.size + 1 < w1.heap.size := by (have h := hb1.size; (try simp at h); omega)); try (have hx1 : w.heap.size + 1 + 1 < w1.heap.size := by (have h := hb1.size; (try simp at h); omega)); try (have hv1 : w.heap.size + 1 + 1 + 1 < w1.heap.size := by (have h := hb1.size; (try simp at h); omega)); try (have hp1 : w.heap.size ≤ w1.heap.size := by omega)) | (go_at_call 60; refine (l12Bright_is (by assumption) (by assumption) _).mono ?_; rintro e w1 ⟨rfl, hb1⟩; obtain ⟨hc1, hf1⟩ := bcell hb1; try (have hz1 : w.heap.size < w1.heap.size := by (have h := hb1.size; (try simp at h); omega)); try (have hy1 : w.heap.size + 1 < w1.heap.size := by (have h := hb1.size; (try simp at h); omega)); try (have hx1 : w.heap.size + 1 + 1 < w1.heap.size := by (have h := hb1.size; (try simp at h); omega)); try (have hv1 : w.heap.size + 1 + 1 + 1 < w1.heap.size := by (have h := hb1.size; (try simp at h); omega)); try (have hp1 : w.heap.size ≤ w1.heap.size := by omega)) | (go_at_call 47; refine (l02Make_any _ _ _ ⟨by omega, by omega⟩ ⟨by omega, by omega⟩).mono ?_; rintro e w1 ⟨rfl, hb1⟩; obtain ⟨hc1, hf1⟩ := bcell hb1; try (have hz1 : w.heap.size < w1.heap.size := by (have h := hb1.size; (try simp at h); omega)); try (have hy1 : w.heap.size + 1 < w1.heap.size := by (have h := hb1.size; (try simp at h); omega)); try (have hx1 : w.heap.size + 1 + 1 < w1.heap.size := by (have h := hb1.size; (try simp at h); omega)); try (have hv1 : w.heap.size + 1 + 1 + 1 < w1.heap.size := by (have h := hb1.size; (try simp at h); omega)); try (have hp1 : w.heap.size ≤ w1.heap.size := by omega)))
    refine bodyPost_ret (v := .tuple #[.agg #[.int .i64 (0), .int .i64 (0)], .int .i64 (2)]) (by simp [results, Try.results36, go_sem, *]) rfl ⟨by simp [baT, h1, h2, h3], ?_⟩
    repeat (first | exact Below.refl _ _ | refine bw_drew ?_ | refine bw_drewN ?_ _ | refine bw_set ?_ (by simp; try omega) _ | refine bw_alloc ?_ _ | refine bw_trans ?_ (by assumption) | assumption)
  obtain ⟨p1, p2⟩ := isSi_true.1 h3
  cases h4 : isSi q
  · go_enter Try.func36, Try.ntmps36
    go_wp2_with (first | (go_at_call 50; refine (l12Far_is (by assumption) _).mono ?_; rintro e w1 ⟨rfl, rfl⟩) | (go_at_call 59; refine (l02Ok_is (by assumption) _).mono ?_; rintro e w1 ⟨rfl, hb1⟩; obtain ⟨hc1, hf1⟩ := bcell hb1; try (have hz1 : w.heap.size < w1.heap.size := by (have h := hb1.size; (try simp at h); omega)); try (have hy1 : w.heap.size + 1 < w1.heap.size := by (have h := hb1.size; (try simp at h); omega)); try (have hx1 : w.heap.size + 1 + 1 < w1.heap.size := by (have h := hb1.size; (try simp at h); omega)); try (have hv1 : w.heap.size + 1 + 1 + 1 < w1.heap.size := by (have h := hb1.size; (try simp at h); omega)); try (have hp1 : w.heap.size ≤ w1.heap.size := by omega)) | (go_at_call 60; refine (l12Bright_is (by assumption) (by assumption) _).mono ?_; rintro e w1 ⟨rfl, hb1⟩; obtain ⟨hc1, hf1⟩ := bcell hb1; try (have hz1 : w.heap.size < w1.heap.size := by (have h := hb1.size; (try simp at h); omega)); try (have hy1 : w.heap.size + 1 < w1.heap.size := by (have h := hb1.size; (try simp at h); omega)); try (have hx1 : w.heap.size + 1 + 1 < w1.heap.size := by (have h := hb1.size; (try simp at h); omega)); try (have hv1 : w.heap.size + 1 + 1 + 1 < w1.heap.size := by (have h := hb1.size; (try simp at h); omega)); try (have hp1 : w.heap.size ≤ w1.heap.size := by omega)) | (go_at_call 47; refine (l02Make_any _ _ _ ⟨by omega, by omega⟩ ⟨by omega, by omega⟩).mono ?_; rintro e w1 ⟨rfl, hb1⟩; obtain ⟨hc1, hf1⟩ := bcell hb1; try (have hz1 : w.heap.size < w1.heap.size := by (have h := hb1.size; (try simp at h); omega)); try (have hy1 : w.heap.size + 1 < w1.heap.size := by (have h := hb1.size; (try simp at h); omega)); try (have hx1 : w.heap.size + 1 + 1 < w1.heap.size := by (have h := hb1.size; (try simp at h); omega)); try (have hv1 : w.heap.size + 1 + 1 + 1 < w1.heap.size := by (have h := hb1.size; (try simp at h); omega)); try (have hp1 : w.heap.size ≤ w1.heap.size := by omega)))
    refine bodyPost_ret (v := .tuple #[.agg #[.int .i64 (0), .int .i64 (0)], .int .i64 (2)]) (by simp [results, Try.results36, go_sem, *]) rfl ⟨by simp [baT, h1, h2, h3, h4], ?_⟩
    repeat (first | exact Below.refl _ _ | refine bw_drew ?_ | refine bw_drewN ?_ _ | refine bw_set ?_ (by simp; try omega) _ | refine bw_alloc ?_ _ | refine bw_trans ?_ (by assumption) | assumption)
  obtain ⟨q1, q2⟩ := isSi_true.1 h4
  obtain ⟨⟨d1, d3⟩, ⟨n3, n4⟩, hg⟩ := vFrac_true.1 h1
  obtain ⟨⟨n1, n2⟩, d2⟩ := isBr_true.1 h2
  clear hg
  obtain ⟨a1, a2⟩ := mul_bd n1 n2 (by omega : 0 ≤ p) p2
  obtain ⟨b1, b2⟩ := mul_bd a1 a2 (by omega : 0 ≤ p) p2
  obtain ⟨c1, c2⟩ := mul_bd1 d1 d2 q1 q2
  obtain ⟨e1, e2⟩ := mul_bd1 c1 c2 q1 q2
  go_enter Try.func36, Try.ntmps36
  go_wp2_with (first | (go_at_call 50; refine (l12Far_is (by assumption) _).mono ?_; rintro e w1 ⟨rfl, rfl⟩) | (go_at_call 59; refine (l02Ok_is (by assumption) _).mono ?_; rintro e w1 ⟨rfl, hb1⟩; obtain ⟨hc1, hf1⟩ := bcell hb1; try (have hz1 : w.heap.size < w1.heap.size := by (have h := hb1.size; (try simp at h); omega)); try (have hy1 : w.heap.size + 1 < w1.heap.size := by (have h := hb1.size; (try simp at h); omega)); try (have hx1 : w.heap.size + 1 + 1 < w1.heap.size := by (have h := hb1.size; (try simp at h); omega)); try (have hv1 : w.heap.size + 1 + 1 + 1 < w1.heap.size := by (have h := hb1.size; (try simp at h); omega)); try (have hp1 : w.heap.size ≤ w1.heap.size := by omega)) | (go_at_call 60; refine (l12Bright_is (by assumption) (by assumption) _).mono ?_; rintro e w1 ⟨rfl, hb1⟩; obtain ⟨hc1, hf1⟩ := bcell hb1; try (have hz1 : w.heap.size < w1.heap.size := by (have h := hb1.size; (try simp at h); omega)); try (have hy1 : w.heap.size + 1 < w1.heap.size := by (have h := hb1.size; (try simp at h); omega)); try (have hx1 : w.heap.size + 1 + 1 < w1.heap.size := by (have h := hb1.size; (try simp at h); omega)); try (have hv1 : w.heap.size + 1 + 1 + 1 < w1.heap.size := by (have h := hb1.size; (try simp at h); omega)); try (have hp1 : w.heap.size ≤ w1.heap.size := by omega)) | (go_at_call 47; refine (l02Make_any _ _ _ ⟨by omega, by omega⟩ ⟨by omega, by omega⟩).mono ?_; rintro e w1 ⟨rfl, hb1⟩; obtain ⟨hc1, hf1⟩ := bcell hb1; try (have hz1 : w.heap.size < w1.heap.size := by (have h := hb1.size; (try simp at h); omega)); try (have hy1 : w.heap.size + 1 < w1.heap.size := by (have h := hb1.size; (try simp at h); omega)); try (have hx1 : w.heap.size + 1 + 1 < w1.heap.size := by (have h := hb1.size; (try simp at h); omega)); try (have hv1 : w.heap.size + 1 + 1 + 1 < w1.heap.size := by (have h := hb1.size; (try simp at h); omega)); try (have hp1 : w.heap.size ≤ w1.heap.size := by omega)))
  refine bodyPost_ret (v := .tuple #[.agg #[.int .i64 (lowNum (n * p * p) (d * q * q)), .int .i64 (lowDen (n * p * p) (d * q * q))], .int .i64 (0)]) (by simp [results, Try.results36, go_sem, *]) rfl ⟨by simp [baT, h1, h2, h3, h4], ?_⟩
  repeat (first | exact Below.refl _ _ | refine bw_drew ?_ | refine bw_drewN ?_ _ | refine bw_set ?_ (by simp; try omega) _ | refine bw_alloc ?_ _ | refine bw_trans ?_ (by assumption) | assumption)

set_option maxHeartbeats 400000 in
theorem law_BrightnessOf (l x y : Int) (w : World) :
    Calls Try.prog 4 #[.int .i64 l, .int .i64 x, .int .i64 y] w fun e w' => e = .returned (.bool true) ∧ Below w.heap.size w w' := by
  go_enter Try.func4, Try.ntmps4
  go_wp2_with fail
  refine ((sBrightnessOf_any _ _ _ _)).mono ?_
  rintro e w1 ⟨rfl, hb1⟩
  obtain ⟨hc1, hf1⟩ := bcell hb1
  try (have hz1 : w.heap.size < w1.heap.size := by (have h := hb1.size; (try simp at h); omega))
  try (have hy1 : w.heap.size + 1 < w1.heap.size := by (have h := hb1.size; (try simp at h); omega))
  try (have hx1 : w.heap.size + 1 + 1 < w1.heap.size := by (have h := hb1.size; (try simp at h); omega))
  try (have hv1 : w.heap.size + 1 + 1 + 1 < w1.heap.size := by (have h := hb1.size; (try simp at h); omega))
  try (have hp1 : w.heap.size ≤ w1.heap.size := by omega)
  go_wp2_with fail
  refine ((brightnessOf_any _ _ _ _)).mono ?_
  rintro e w2 ⟨rfl, hb2⟩
  obtain ⟨hc2, hf2⟩ := bcell hb2
  try (have hz2 : w.heap.size < w2.heap.size := by (have h := hb2.size; (try simp at h); omega))
  try (have hy2 : w.heap.size + 1 < w2.heap.size := by (have h := hb2.size; (try simp at h); omega))
  try (have hx2 : w.heap.size + 1 + 1 < w2.heap.size := by (have h := hb2.size; (try simp at h); omega))
  try (have hv2 : w.heap.size + 1 + 1 + 1 < w2.heap.size := by (have h := hb2.size; (try simp at h); omega))
  try (have hp2 : w.heap.size ≤ w2.heap.size := by omega)
  have hq2 : w1.heap.size < w2.heap.size := by (have h := hb2.size; simp at h; omega)
  go_wp2_with fail
  refine ((eqFraction_any _ _ _)).mono ?_
  rintro e w3 ⟨rfl, hb3⟩
  obtain ⟨hc3, hf3⟩ := bcell hb3
  try (have hz3 : w.heap.size < w3.heap.size := by (have h := hb3.size; (try simp at h); omega))
  try (have hy3 : w.heap.size + 1 < w3.heap.size := by (have h := hb3.size; (try simp at h); omega))
  try (have hx3 : w.heap.size + 1 + 1 < w3.heap.size := by (have h := hb3.size; (try simp at h); omega))
  try (have hv3 : w.heap.size + 1 + 1 + 1 < w3.heap.size := by (have h := hb3.size; (try simp at h); omega))
  try (have hp3 : w.heap.size ≤ w3.heap.size := by omega)
  go_wp2
  go_ret
  refine ⟨rfl, ?_⟩
  repeat (first | exact Below.refl _ _ | refine bw_drew ?_ | refine bw_drewN ?_ _ | refine bw_set ?_ (by simp; try omega) _ | refine bw_alloc ?_ _ | refine bw_trans ?_ (by assumption) | assumption)

set_option maxHeartbeats 400000 in
theorem law_CornerLight (t h : Int) (w : World) :
    Calls Try.prog 5 #[.int .i64 t, .int .i64 h] w fun e w' => e = .returned (.bool true) ∧ Below w.heap.size w w' := by
  go_enter Try.func5, Try.ntmps5
  go_wp2_with fail
  refine ((sCornerLight_any _ _ _)).mono ?_
  rintro e w1 ⟨rfl, hb1⟩
  obtain ⟨hc1, hf1⟩ := bcell hb1
  try (have hz1 : w.heap.size < w1.heap.size := by (have h := hb1.size; (try simp at h); omega))
  try (have hy1 : w.heap.size + 1 < w1.heap.size := by (have h := hb1.size; (try simp at h); omega))
  try (have hx1 : w.heap.size + 1 + 1 < w1.heap.size := by (have h := hb1.size; (try simp at h); omega))
  try (have hv1 : w.heap.size + 1 + 1 + 1 < w1.heap.size := by (have h := hb1.size; (try simp at h); omega))
  try (have hp1 : w.heap.size ≤ w1.heap.size := by omega)
  go_wp2_with fail
  refine ((cornerLight_any _ _ _)).mono ?_
  rintro e w2 ⟨rfl, hb2⟩
  obtain ⟨hc2, hf2⟩ := bcell hb2
  try (have hz2 : w.heap.size < w2.heap.size := by (have h := hb2.size; (try simp at h); omega))
  try (have hy2 : w.heap.size + 1 < w2.heap.size := by (have h := hb2.size; (try simp at h); omega))
  try (have hx2 : w.heap.size + 1 + 1 < w2.heap.size := by (have h := hb2.size; (try simp at h); omega))
  try (have hv2 : w.heap.size + 1 + 1 + 1 < w2.heap.size := by (have h := hb2.size; (try simp at h); omega))
  try (have hp2 : w.heap.size ≤ w2.heap.size := by omega)
  have hq2 : w1.heap.size < w2.heap.size := by (have h := hb2.size; simp at h; omega)
  go_wp2_with fail
  refine ((eqFraction_any _ _ _)).mono ?_
  rintro e w3 ⟨rfl, hb3⟩
  obtain ⟨hc3, hf3⟩ := bcell hb3
  try (have hz3 : w.heap.size < w3.heap.size := by (have h := hb3.size; (try simp at h); omega))
  try (have hy3 : w.heap.size + 1 < w3.heap.size := by (have h := hb3.size; (try simp at h); omega))
  try (have hx3 : w.heap.size + 1 + 1 < w3.heap.size := by (have h := hb3.size; (try simp at h); omega))
  try (have hv3 : w.heap.size + 1 + 1 + 1 < w3.heap.size := by (have h := hb3.size; (try simp at h); omega))
  try (have hp3 : w.heap.size ≤ w3.heap.size := by omega)
  go_wp2
  go_ret
  refine ⟨rfl, ?_⟩
  repeat (first | exact Below.refl _ _ | refine bw_drew ?_ | refine bw_drewN ?_ _ | refine bw_set ?_ (by simp; try omega) _ | refine bw_alloc ?_ _ | refine bw_trans ?_ (by assumption) | assumption)

set_option maxHeartbeats 400000 in
theorem law_BrightnessAt (n d p q : Int) (w : World) :
    Calls Try.prog 11 #[.agg #[.int .i64 n, .int .i64 d], .int .i64 p, .int .i64 q] w fun e w' => e = .returned (.bool true) ∧ Below w.heap.size w w' := by
  go_enter Try.func11, Try.ntmps11
  go_wp2_with fail
  refine ((toFraction_any _ _ _)).mono ?_
  rintro e w1 ⟨rfl, hb1⟩
  obtain ⟨hc1, hf1⟩ := bcell hb1
  try (have hz1 : w.heap.size < w1.heap.size := by (have h := hb1.size; (try simp at h); omega))
  try (have hy1 : w.heap.size + 1 < w1.heap.size := by (have h := hb1.size; (try simp at h); omega))
  try (have hx1 : w.heap.size + 1 + 1 < w1.heap.size := by (have h := hb1.size; (try simp at h); omega))
  try (have hv1 : w.heap.size + 1 + 1 + 1 < w1.heap.size := by (have h := hb1.size; (try simp at h); omega))
  try (have hp1 : w.heap.size ≤ w1.heap.size := by omega)
  go_wp2_with fail
  refine ((sBrightnessAt_any _ _ _ _ _)).mono ?_
  rintro e w2 ⟨rfl, hb2⟩
  obtain ⟨hc2, hf2⟩ := bcell hb2
  try (have hz2 : w.heap.size < w2.heap.size := by (have h := hb2.size; (try simp at h); omega))
  try (have hy2 : w.heap.size + 1 < w2.heap.size := by (have h := hb2.size; (try simp at h); omega))
  try (have hx2 : w.heap.size + 1 + 1 < w2.heap.size := by (have h := hb2.size; (try simp at h); omega))
  try (have hv2 : w.heap.size + 1 + 1 + 1 < w2.heap.size := by (have h := hb2.size; (try simp at h); omega))
  try (have hp2 : w.heap.size ≤ w2.heap.size := by omega)
  go_wp2_with fail
  refine ((toFraction_any _ _ _)).mono ?_
  rintro e w3 ⟨rfl, hb3⟩
  obtain ⟨hc3, hf3⟩ := bcell hb3
  try (have hz3 : w.heap.size < w3.heap.size := by (have h := hb3.size; (try simp at h); omega))
  try (have hy3 : w.heap.size + 1 < w3.heap.size := by (have h := hb3.size; (try simp at h); omega))
  try (have hx3 : w.heap.size + 1 + 1 < w3.heap.size := by (have h := hb3.size; (try simp at h); omega))
  try (have hv3 : w.heap.size + 1 + 1 + 1 < w3.heap.size := by (have h := hb3.size; (try simp at h); omega))
  try (have hp3 : w.heap.size ≤ w3.heap.size := by omega)
  have hq3 : w2.heap.size < w3.heap.size := by (have h := hb3.size; simp at h; omega)
  go_wp2_with fail
  refine ((brightnessAt_any _ _ _ _ _)).mono ?_
  rintro e w4 ⟨rfl, hb4⟩
  obtain ⟨hc4, hf4⟩ := bcell hb4
  try (have hz4 : w.heap.size < w4.heap.size := by (have h := hb4.size; (try simp at h); omega))
  try (have hy4 : w.heap.size + 1 < w4.heap.size := by (have h := hb4.size; (try simp at h); omega))
  try (have hx4 : w.heap.size + 1 + 1 < w4.heap.size := by (have h := hb4.size; (try simp at h); omega))
  try (have hv4 : w.heap.size + 1 + 1 + 1 < w4.heap.size := by (have h := hb4.size; (try simp at h); omega))
  try (have hp4 : w.heap.size ≤ w4.heap.size := by omega)
  have hq4 : w2.heap.size < w4.heap.size := by (have h := hb4.size; omega)
  go_wp2_with fail
  refine ((eqFraction_any _ _ _)).mono ?_
  rintro e w5 ⟨rfl, hb5⟩
  obtain ⟨hc5, hf5⟩ := bcell hb5
  try (have hz5 : w.heap.size < w5.heap.size := by (have h := hb5.size; (try simp at h); omega))
  try (have hy5 : w.heap.size + 1 < w5.heap.size := by (have h := hb5.size; (try simp at h); omega))
  try (have hx5 : w.heap.size + 1 + 1 < w5.heap.size := by (have h := hb5.size; (try simp at h); omega))
  try (have hv5 : w.heap.size + 1 + 1 + 1 < w5.heap.size := by (have h := hb5.size; (try simp at h); omega))
  try (have hp5 : w.heap.size ≤ w5.heap.size := by omega)
  go_wp2
  go_ret
  refine ⟨rfl, ?_⟩
  repeat (first | exact Below.refl _ _ | refine bw_drew ?_ | refine bw_drewN ?_ _ | refine bw_set ?_ (by simp; try omega) _ | refine bw_alloc ?_ _ | refine bw_trans ?_ (by assumption) | assumption)

/-! ### FarthestFor -/
/-- The greatest number from 1 to k that answers yes; 0 if there is none. -/
def farTo (f : Int → Bool) : Nat → Int
  | 0 => 0
  | k + 1 => if f ((k + 1 : Nat) : Int) then ((k + 1 : Nat) : Int) else farTo f k
theorem farTo_yes {f : Int → Bool} {k : Nat} (h : f (k : Int) = true) (hk : 0 < k) : farTo f k = k := by
  cases k with
  | zero => omega
  | succ k => unfold farTo; rw [if_pos h]
theorem farTo_no {f : Int → Bool} {k : Nat} (h : f (k : Int) = false) (hk : 0 < k) : farTo f k = farTo f (k - 1) := by
  cases k with
  | zero => omega
  | succ k => conv => lhs; unfold farTo
              rw [if_neg (by rw [h]; simp)]; rfl
def fhit (n d p a b t : Int) : Bool := decide (a * d * t * t ≤ n * p * p * b)
def ffOk (n d p a b : Int) : Bool := isBr n d && isSi p && isBr a b
def ffN (n d p a b : Int) : Int := if vFrac n d && vFrac a b && ffOk n d p a b then farTo (fhit n d p a b) 1000 else 0
def ffC (n d p a b : Int) : Int := if vFrac n d && vFrac a b then (if ffOk n d p a b then (if farTo (fhit n d p a b) 1000 = 0 then 3 else 0) else 2) else 1
theorem fhit_scale {n d p a b t g x y : Int} (hg : 0 < g) (hx : n * b = x * g) (hy : a * d = y * g) : fhit n d p a b t = decide (y * (t * t) ≤ x * (p * p)) := by
  unfold fhit
  have e1 : a * d * t * t = y * (t * t) * g := by rw [hy]; simp only [Int.mul_comm, Int.mul_left_comm]
  have e2 : n * p * p * b = x * (p * p) * g := by
    rw [show n * p * p * b = n * b * (p * p) by simp only [Int.mul_comm, Int.mul_left_comm], hx]; simp only [Int.mul_comm, Int.mul_left_comm]
  rw [e1, e2, decide_eq_decide]
  exact ⟨fun h => Int.le_of_mul_le_mul_right h hg, fun h => Int.mul_le_mul_of_nonneg_right h (by omega)⟩

set_option maxRecDepth 100000 in
set_option maxHeartbeats 800000 in
theorem farthestFor_any (n d p a b : Int) (w : World) :
    Calls Try.prog 40 #[.agg #[.int .i64 n, .int .i64 d], .int .i64 p, .agg #[.int .i64 a, .int .i64 b]] w fun e w' => e = .returned (.tuple #[.int .i64 (ffN n d p a b), .int .i64 (ffC n d p a b)]) ∧ Below w.heap.size w w' := by
  cases h1 : vFrac n d
  · go_enter Try.func40, Try.ntmps40
    go_wp2_with (first | (go_at_call 61; refine (validFraction_is (by assumption) _).mono ?_; rintro e w1 ⟨rfl, hb1⟩; obtain ⟨hc1, hf1⟩ := bcell hb1; try (have hz1 : w.heap.size < w1.heap.size := by (have h := hb1.size; (try simp at h); omega)); try (have hy1 : w.heap.size + 1 < w1.heap.size := by (have h := hb1.size; (try simp at h); omega)); try (have hx1 : w.heap.size + 1 + 1 < w1.heap.size := by (have h := hb1.size; (try simp at h); omega)); try (have hv1 : w.heap.size + 1 + 1 + 1 < w1.heap.size := by (have h := hb1.size; (try simp at h); omega)); try (have hp1 : w.heap.size ≤ w1.heap.size := by omega)))
    go_ret2
    refine ⟨by simp [ffN, ffC, h1], ?_⟩
    repeat (first | exact Below.refl _ _ | refine bw_drew ?_ | refine bw_drewN ?_ _ | refine bw_set ?_ (by simp; try omega) _ | refine bw_alloc ?_ _ | refine bw_trans ?_ (by assumption) | assumption)
  cases h2 : vFrac a b
  · go_enter Try.func40, Try.ntmps40
    go_wp2_with (first | (go_at_call 61; refine (validFraction_is (by assumption) _).mono ?_; rintro e w1 ⟨rfl, hb1⟩; obtain ⟨hc1, hf1⟩ := bcell hb1; try (have hz1 : w.heap.size < w1.heap.size := by (have h := hb1.size; (try simp at h); omega)); try (have hy1 : w.heap.size + 1 < w1.heap.size := by (have h := hb1.size; (try simp at h); omega)); try (have hx1 : w.heap.size + 1 + 1 < w1.heap.size := by (have h := hb1.size; (try simp at h); omega)); try (have hv1 : w.heap.size + 1 + 1 + 1 < w1.heap.size := by (have h := hb1.size; (try simp at h); omega)); try (have hp1 : w.heap.size ≤ w1.heap.size := by omega)))
    go_ret2
    refine ⟨by simp [ffN, ffC, h1, h2], ?_⟩
    repeat (first | exact Below.refl _ _ | refine bw_drew ?_ | refine bw_drewN ?_ _ | refine bw_set ?_ (by simp; try omega) _ | refine bw_alloc ?_ _ | refine bw_trans ?_ (by assumption) | assumption)
  cases h3 : isBr n d
  · go_enter Try.func40, Try.ntmps40
    go_wp2_with (first | (go_at_call 61; refine (validFraction_is (by assumption) _).mono ?_; rintro e w1 ⟨rfl, hb1⟩; obtain ⟨hc1, hf1⟩ := bcell hb1; try (have hz1 : w.heap.size < w1.heap.size := by (have h := hb1.size; (try simp at h); omega)); try (have hy1 : w.heap.size + 1 < w1.heap.size := by (have h := hb1.size; (try simp at h); omega)); try (have hx1 : w.heap.size + 1 + 1 < w1.heap.size := by (have h := hb1.size; (try simp at h); omega)); try (have hv1 : w.heap.size + 1 + 1 + 1 < w1.heap.size := by (have h := hb1.size; (try simp at h); omega)); try (have hp1 : w.heap.size ≤ w1.heap.size := by omega)) | (go_at_call 62; refine (isBrightness_is (by assumption) _).mono ?_; rintro e w1 ⟨rfl, hb1⟩; obtain ⟨hc1, hf1⟩ := bcell hb1; try (have hz1 : w.heap.size < w1.heap.size := by (have h := hb1.size; (try simp at h); omega)); try (have hy1 : w.heap.size + 1 < w1.heap.size := by (have h := hb1.size; (try simp at h); omega)); try (have hx1 : w.heap.size + 1 + 1 < w1.heap.size := by (have h := hb1.size; (try simp at h); omega)); try (have hv1 : w.heap.size + 1 + 1 + 1 < w1.heap.size := by (have h := hb1.size; (try simp at h); omega)); try (have hp1 : w.heap.size ≤ w1.heap.size := by omega)))
    go_ret2
    refine ⟨by simp [ffN, ffC, ffOk, h1, h2, h3], ?_⟩
    repeat (first | exact Below.refl _ _ | refine bw_drew ?_ | refine bw_drewN ?_ _ | refine bw_set ?_ (by simp; try omega) _ | refine bw_alloc ?_ _ | refine bw_trans ?_ (by assumption) | assumption)
  cases h4 : isSi p
  · go_enter Try.func40, Try.ntmps40
    go_wp2_with (first | (go_at_call 61; refine (validFraction_is (by assumption) _).mono ?_; rintro e w1 ⟨rfl, hb1⟩; obtain ⟨hc1, hf1⟩ := bcell hb1; try (have hz1 : w.heap.size < w1.heap.size := by (have h := hb1.size; (try simp at h); omega)); try (have hy1 : w.heap.size + 1 < w1.heap.size := by (have h := hb1.size; (try simp at h); omega)); try (have hx1 : w.heap.size + 1 + 1 < w1.heap.size := by (have h := hb1.size; (try simp at h); omega)); try (have hv1 : w.heap.size + 1 + 1 + 1 < w1.heap.size := by (have h := hb1.size; (try simp at h); omega)); try (have hp1 : w.heap.size ≤ w1.heap.size := by omega)) | (go_at_call 62; refine (isBrightness_is (by assumption) _).mono ?_; rintro e w1 ⟨rfl, hb1⟩; obtain ⟨hc1, hf1⟩ := bcell hb1; try (have hz1 : w.heap.size < w1.heap.size := by (have h := hb1.size; (try simp at h); omega)); try (have hy1 : w.heap.size + 1 < w1.heap.size := by (have h := hb1.size; (try simp at h); omega)); try (have hx1 : w.heap.size + 1 + 1 < w1.heap.size := by (have h := hb1.size; (try simp at h); omega)); try (have hv1 : w.heap.size + 1 + 1 + 1 < w1.heap.size := by (have h := hb1.size; (try simp at h); omega)); try (have hp1 : w.heap.size ≤ w1.heap.size := by omega)) | (go_at_call 45; refine (isSide_is (by assumption) _).mono ?_; rintro e w1 ⟨rfl, rfl⟩))
    go_ret2
    refine ⟨by simp [ffN, ffC, ffOk, h1, h2, h4], ?_⟩
    repeat (first | exact Below.refl _ _ | refine bw_drew ?_ | refine bw_drewN ?_ _ | refine bw_set ?_ (by simp; try omega) _ | refine bw_alloc ?_ _ | refine bw_trans ?_ (by assumption) | assumption)
  cases h5 : isBr a b
  · go_enter Try.func40, Try.ntmps40
    go_wp2_with (first | (go_at_call 61; refine (validFraction_is (by assumption) _).mono ?_; rintro e w1 ⟨rfl, hb1⟩; obtain ⟨hc1, hf1⟩ := bcell hb1; try (have hz1 : w.heap.size < w1.heap.size := by (have h := hb1.size; (try simp at h); omega)); try (have hy1 : w.heap.size + 1 < w1.heap.size := by (have h := hb1.size; (try simp at h); omega)); try (have hx1 : w.heap.size + 1 + 1 < w1.heap.size := by (have h := hb1.size; (try simp at h); omega)); try (have hv1 : w.heap.size + 1 + 1 + 1 < w1.heap.size := by (have h := hb1.size; (try simp at h); omega)); try (have hp1 : w.heap.size ≤ w1.heap.size := by omega)) | (go_at_call 62; refine (isBrightness_is (by assumption) _).mono ?_; rintro e w1 ⟨rfl, hb1⟩; obtain ⟨hc1, hf1⟩ := bcell hb1; try (have hz1 : w.heap.size < w1.heap.size := by (have h := hb1.size; (try simp at h); omega)); try (have hy1 : w.heap.size + 1 < w1.heap.size := by (have h := hb1.size; (try simp at h); omega)); try (have hx1 : w.heap.size + 1 + 1 < w1.heap.size := by (have h := hb1.size; (try simp at h); omega)); try (have hv1 : w.heap.size + 1 + 1 + 1 < w1.heap.size := by (have h := hb1.size; (try simp at h); omega)); try (have hp1 : w.heap.size ≤ w1.heap.size := by omega)) | (go_at_call 45; refine (isSide_is (by assumption) _).mono ?_; rintro e w1 ⟨rfl, rfl⟩))
    go_ret2
    refine ⟨by simp [ffN, ffC, ffOk, h1, h2, h5], ?_⟩
    repeat (first | exact Below.refl _ _ | refine bw_drew ?_ | refine bw_drewN ?_ _ | refine bw_set ?_ (by simp; try omega) _ | refine bw_alloc ?_ _ | refine bw_trans ?_ (by assumption) | assumption)
  have hN : ffN n d p a b = farTo (fhit n d p a b) 1000 := by simp [ffN, ffOk, h1, h2, h3, h4, h5]
  have hC : ffC n d p a b = if farTo (fhit n d p a b) 1000 = 0 then 3 else 0 := by simp [ffC, ffOk, h1, h2, h3, h4, h5]
  have HN := Lib.hid hN
  have HC := Lib.hid hC
  clear hN hC
  obtain ⟨⟨d1, _⟩, _, hg⟩ := vFrac_true.1 h1
  obtain ⟨⟨b1, _⟩, _, hg'⟩ := vFrac_true.1 h2
  obtain ⟨⟨n1, n2⟩, d2⟩ := isBr_true.1 h3
  obtain ⟨p1, p2⟩ := isSi_true.1 h4
  obtain ⟨⟨a1, a2⟩, b2⟩ := isBr_true.1 h5
  clear hg hg'
  obtain ⟨x1, x2⟩ := mul_bd n1 n2 (by omega : 0 ≤ p) p2
  obtain ⟨y1, y2⟩ := mul_bd x1 x2 (by omega : 0 ≤ p) p2
  obtain ⟨z1, z2⟩ := mul_bd y1 y2 (by omega : 0 ≤ b) b2
  obtain ⟨u1, u2⟩ := mul_bd a1 a2 (by omega : 0 ≤ d) d2
  go_enter Try.func40, Try.ntmps40
  go_wp2_with (first | (go_at_call 61; refine (validFraction_is (by assumption) _).mono ?_; rintro e w1 ⟨rfl, hb1⟩; obtain ⟨hc1, hf1⟩ := bcell hb1; try (have hz1 : w.heap.size < w1.heap.size := by (have h := hb1.size; (try simp at h); omega)); try (have hy1 : w.heap.size + 1 < w1.heap.size := by (have h := hb1.size; (try simp at h); omega)); try (have hx1 : w.heap.size + 1 + 1 < w1.heap.size := by (have h := hb1.size; (try simp at h); omega)); try (have hv1 : w.heap.size + 1 + 1 + 1 < w1.heap.size := by (have h := hb1.size; (try simp at h); omega)); try (have hp1 : w.heap.size ≤ w1.heap.size := by omega)) | (go_at_call 62; refine (isBrightness_is (by assumption) _).mono ?_; rintro e w1 ⟨rfl, hb1⟩; obtain ⟨hc1, hf1⟩ := bcell hb1; try (have hz1 : w.heap.size < w1.heap.size := by (have h := hb1.size; (try simp at h); omega)); try (have hy1 : w.heap.size + 1 < w1.heap.size := by (have h := hb1.size; (try simp at h); omega)); try (have hx1 : w.heap.size + 1 + 1 < w1.heap.size := by (have h := hb1.size; (try simp at h); omega)); try (have hv1 : w.heap.size + 1 + 1 + 1 < w1.heap.size := by (have h := hb1.size; (try simp at h); omega)); try (have hp1 : w.heap.size ≤ w1.heap.size := by omega)) | (go_at_call 45; refine (isSide_is (by assumption) _).mono ?_; rintro e w1 ⟨rfl, rfl⟩))
  have hB : Below ((w.alloc (.cells #[.int .i64 n, .int .i64 d] 26)).alloc (.cells #[.int .i64 a, .int .i64 b] 26)).heap.size ((w.alloc (.cells #[.int .i64 n, .int .i64 d] 26)).alloc (.cells #[.int .i64 a, .int .i64 b] 26)) w1 := by
    repeat (first | exact Below.refl _ _ | refine bw_drew ?_ | refine bw_drewN ?_ _ | refine bw_set ?_ (by simp; try omega) _ | refine bw_alloc ?_ _ | refine bw_trans ?_ (by assumption) | assumption)
  have c0 : w1.cell? ⟨w.heap.size, 0, none⟩ = some (.int .i64 n) := cell_of hB (by go_simp)
  have c1 : w1.cell? ⟨w.heap.size, 1, none⟩ = some (.int .i64 d) := cell_of hB (by go_simp)
  have c2 : w1.cell? ⟨w.heap.size + 1, 0, none⟩ = some (.int .i64 a) := cell_of hB (by go_simp)
  have c3 : w1.cell? ⟨w.heap.size + 1, 1, none⟩ = some (.int .i64 b) := cell_of hB (by go_simp)
  have H1 := Lib.hid h1
  have H2 := Lib.hid h2
  clear h1 h2 h3 h4 h5 hb1 hc1 hf1
  go_loop [8] (fun x => ∃ k : Nat, k ≤ 1000 ∧ x = .int .i64 k ∧ Hid (farTo (fhit n d p a b) 1000 = farTo (fhit n d p a b) k)) (fun x => (intOf x).toNat)
  case atStart => exact ⟨1000, by omega, rfl, rfl⟩
  case round =>
    obtain ⟨k, hk, rfl, hf⟩ := hrel
    by_cases hk0 : k = 0
    · subst hk0
      go_wp2
      go_ret2
      refine ⟨by rw [HN.out, HC.out, hf.out]; simp [farTo], ?_⟩
      exact bw_trans (bw_alloc (bw_alloc (Below.refl _ _) _) _) hB
    · obtain ⟨v1, v2⟩ := mul_bd u1 u2 (by omega : 0 ≤ (k : Int)) (by omega : (k : Int) ≤ 1000)
      obtain ⟨s1, s2⟩ := mul_bd v1 v2 (by omega : 0 ≤ (k : Int)) (by omega : (k : Int) ≤ 1000)
      by_cases hle : a * d * k * k ≤ n * p * p * b
      · have hh : fhit n d p a b k = true := by simp [fhit, hle]
        have HY := Lib.hid (farTo_yes hh (by omega))
        clear hh
        go_wp2
        go_ret2
        refine ⟨by rw [HN.out, HC.out, hf.out, HY.out, if_neg (by omega)]; rfl, ?_⟩
        exact bw_trans (bw_alloc (bw_alloc (Below.refl _ _) _) _) hB
      · have hh : fhit n d p a b k = false := by simp [fhit]; omega
        have HY := Lib.hid (farTo_no hh (by omega))
        clear hh
        go_wp2
        go_round
        case rel => exact ⟨k - 1, by omega, by congr 1; omega, (hf.out.trans HY.out : farTo (fhit n d p a b) 1000 = farTo (fhit n d p a b) (k - 1))⟩
        case measure => simp [intOf]; omega

theorem l00Max_any (a b : Int) (w : World) :
    Calls Try.prog 64 #[.int .i64 a, .int .i64 b] w fun e w' => e = .returned (.int .i64 (max a b)) ∧ w = w' := by
  by_cases h : b < a
  · go_enter Try.func64, Try.ntmps64
    go_wp2
    go_ret
    exact ⟨ret_int (by omega), rfl⟩
  · go_enter Try.func64, Try.ntmps64
    go_wp2
    go_ret
    exact ⟨ret_int (by omega), rfl⟩

set_option maxHeartbeats 400000 in
theorem l12Enough_any (x y p t : Int) (w : World) (hx : 0 ≤ x ∧ x ≤ 10000000000) (hy : 0 ≤ y ∧ y ≤ 10000000000) (hp : 1 ≤ p ∧ p ≤ 1000) (ht : 1 ≤ t ∧ t ≤ 1000) :
    Calls Try.prog 66 #[.int .i64 x, .int .i64 y, .int .i64 p, .int .i64 t] w fun e w' => e = .returned (.bool (decide (y * (t * t) ≤ x * (p * p)))) ∧ w = w' := by
  obtain ⟨x1, x2⟩ := hx
  obtain ⟨y1, y2⟩ := hy
  obtain ⟨p1, p2⟩ := hp
  obtain ⟨t1, t2⟩ := ht
  obtain ⟨a1, a2⟩ := mul_bd1 p1 p2 p1 p2
  obtain ⟨b1, b2⟩ := mul_bd1 t1 t2 t1 t2
  obtain ⟨c1, c2⟩ := mul_bd x1 x2 (by omega : 0 ≤ p * p) a2
  obtain ⟨d1, d2⟩ := mul_bd y1 y2 (by omega : 0 ≤ t * t) b2
  go_enter Try.func66, Try.ntmps66
  go_wp2
  go_ret
  exact ⟨rfl, rfl⟩

set_option maxRecDepth 100000 in
set_option maxHeartbeats 800000 in
theorem sFarthestFor_any (n d p a b : Int) (w : World) :
    Calls Try.prog 39 #[.agg #[.int .i64 n, .int .i64 d], .int .i64 p, .agg #[.int .i64 a, .int .i64 b]] w fun e w' => e = .returned (.tuple #[.int .i64 (ffN n d p a b), .int .i64 (ffC n d p a b)]) ∧ Below w.heap.size w w' := by
  cases h1 : vFrac n d
  · go_enter Try.func39, Try.ntmps39
    go_wp2_with (first | (go_at_call 59; refine (l02Ok_is (by assumption) _).mono ?_; rintro e w1 ⟨rfl, hb1⟩; obtain ⟨hc1, hf1⟩ := bcell hb1; try (have hz1 : w.heap.size < w1.heap.size := by (have h := hb1.size; (try simp at h); omega)); try (have hy1 : w.heap.size + 1 < w1.heap.size := by (have h := hb1.size; (try simp at h); omega)); try (have hx1 : w.heap.size + 1 + 1 < w1.heap.size := by (have h := hb1.size; (try simp at h); omega)); try (have hv1 : w.heap.size + 1 + 1 + 1 < w1.heap.size := by (have h := hb1.size; (try simp at h); omega)); try (have hp1 : w.heap.size ≤ w1.heap.size := by omega)))
    go_ret2
    refine ⟨by simp [ffN, ffC, h1], ?_⟩
    repeat (first | exact Below.refl _ _ | refine bw_drew ?_ | refine bw_drewN ?_ _ | refine bw_set ?_ (by simp; try omega) _ | refine bw_alloc ?_ _ | refine bw_trans ?_ (by assumption) | assumption)
  cases h2 : vFrac a b
  · go_enter Try.func39, Try.ntmps39
    go_wp2_with (first | (go_at_call 59; refine (l02Ok_is (by assumption) _).mono ?_; rintro e w1 ⟨rfl, hb1⟩; obtain ⟨hc1, hf1⟩ := bcell hb1; try (have hz1 : w.heap.size < w1.heap.size := by (have h := hb1.size; (try simp at h); omega)); try (have hy1 : w.heap.size + 1 < w1.heap.size := by (have h := hb1.size; (try simp at h); omega)); try (have hx1 : w.heap.size + 1 + 1 < w1.heap.size := by (have h := hb1.size; (try simp at h); omega)); try (have hv1 : w.heap.size + 1 + 1 + 1 < w1.heap.size := by (have h := hb1.size; (try simp at h); omega)); try (have hp1 : w.heap.size ≤ w1.heap.size := by omega)))
    go_ret2
    refine ⟨by simp [ffN, ffC, h1, h2], ?_⟩
    repeat (first | exact Below.refl _ _ | refine bw_drew ?_ | refine bw_drewN ?_ _ | refine bw_set ?_ (by simp; try omega) _ | refine bw_alloc ?_ _ | refine bw_trans ?_ (by assumption) | assumption)
  cases h3 : isBr n d
  · go_enter Try.func39, Try.ntmps39
    go_wp2_with (first | (go_at_call 59; refine (l02Ok_is (by assumption) _).mono ?_; rintro e w1 ⟨rfl, hb1⟩; obtain ⟨hc1, hf1⟩ := bcell hb1; try (have hz1 : w.heap.size < w1.heap.size := by (have h := hb1.size; (try simp at h); omega)); try (have hy1 : w.heap.size + 1 < w1.heap.size := by (have h := hb1.size; (try simp at h); omega)); try (have hx1 : w.heap.size + 1 + 1 < w1.heap.size := by (have h := hb1.size; (try simp at h); omega)); try (have hv1 : w.heap.size + 1 + 1 + 1 < w1.heap.size := by (have h := hb1.size; (try simp at h); omega)); try (have hp1 : w.heap.size ≤ w1.heap.size := by omega)) | (go_at_call 60; refine (l12Bright_is (by assumption) (by assumption) _).mono ?_; rintro e w1 ⟨rfl, hb1⟩; obtain ⟨hc1, hf1⟩ := bcell hb1; try (have hz1 : w.heap.size < w1.heap.size := by (have h := hb1.size; (try simp at h); omega)); try (have hy1 : w.heap.size + 1 < w1.heap.size := by (have h := hb1.size; (try simp at h); omega)); try (have hx1 : w.heap.size + 1 + 1 < w1.heap.size := by (have h := hb1.size; (try simp at h); omega)); try (have hv1 : w.heap.size + 1 + 1 + 1 < w1.heap.size := by (have h := hb1.size; (try simp at h); omega)); try (have hp1 : w.heap.size ≤ w1.heap.size := by omega)))
    go_ret2
    refine ⟨by simp [ffN, ffC, ffOk, h1, h2, h3], ?_⟩
    repeat (first | exact Below.refl _ _ | refine bw_drew ?_ | refine bw_drewN ?_ _ | refine bw_set ?_ (by simp; try omega) _ | refine bw_alloc ?_ _ | refine bw_trans ?_ (by assumption) | assumption)
  cases h5 : isBr a b
  · go_enter Try.func39, Try.ntmps39
    go_wp2_with (first | (go_at_call 59; refine (l02Ok_is (by assumption) _).mono ?_; rintro e w1 ⟨rfl, hb1⟩; obtain ⟨hc1, hf1⟩ := bcell hb1; try (have hz1 : w.heap.size < w1.heap.size := by (have h := hb1.size; (try simp at h); omega)); try (have hy1 : w.heap.size + 1 < w1.heap.size := by (have h := hb1.size; (try simp at h); omega)); try (have hx1 : w.heap.size + 1 + 1 < w1.heap.size := by (have h := hb1.size; (try simp at h); omega)); try (have hv1 : w.heap.size + 1 + 1 + 1 < w1.heap.size := by (have h := hb1.size; (try simp at h); omega)); try (have hp1 : w.heap.size ≤ w1.heap.size := by omega)) | (go_at_call 60; refine (l12Bright_is (by assumption) (by assumption) _).mono ?_; rintro e w1 ⟨rfl, hb1⟩; obtain ⟨hc1, hf1⟩ := bcell hb1; try (have hz1 : w.heap.size < w1.heap.size := by (have h := hb1.size; (try simp at h); omega)); try (have hy1 : w.heap.size + 1 < w1.heap.size := by (have h := hb1.size; (try simp at h); omega)); try (have hx1 : w.heap.size + 1 + 1 < w1.heap.size := by (have h := hb1.size; (try simp at h); omega)); try (have hv1 : w.heap.size + 1 + 1 + 1 < w1.heap.size := by (have h := hb1.size; (try simp at h); omega)); try (have hp1 : w.heap.size ≤ w1.heap.size := by omega)) | (go_at_call 50; refine (l12Far_is (by assumption) _).mono ?_; rintro e w1 ⟨rfl, rfl⟩))
    go_ret2
    refine ⟨by simp [ffN, ffC, ffOk, h1, h2, h5], ?_⟩
    repeat (first | exact Below.refl _ _ | refine bw_drew ?_ | refine bw_drewN ?_ _ | refine bw_set ?_ (by simp; try omega) _ | refine bw_alloc ?_ _ | refine bw_trans ?_ (by assumption) | assumption)
  cases h4 : isSi p
  · go_enter Try.func39, Try.ntmps39
    go_wp2_with (first | (go_at_call 59; refine (l02Ok_is (by assumption) _).mono ?_; rintro e w1 ⟨rfl, hb1⟩; obtain ⟨hc1, hf1⟩ := bcell hb1; try (have hz1 : w.heap.size < w1.heap.size := by (have h := hb1.size; (try simp at h); omega)); try (have hy1 : w.heap.size + 1 < w1.heap.size := by (have h := hb1.size; (try simp at h); omega)); try (have hx1 : w.heap.size + 1 + 1 < w1.heap.size := by (have h := hb1.size; (try simp at h); omega)); try (have hv1 : w.heap.size + 1 + 1 + 1 < w1.heap.size := by (have h := hb1.size; (try simp at h); omega)); try (have hp1 : w.heap.size ≤ w1.heap.size := by omega)) | (go_at_call 60; refine (l12Bright_is (by assumption) (by assumption) _).mono ?_; rintro e w1 ⟨rfl, hb1⟩; obtain ⟨hc1, hf1⟩ := bcell hb1; try (have hz1 : w.heap.size < w1.heap.size := by (have h := hb1.size; (try simp at h); omega)); try (have hy1 : w.heap.size + 1 < w1.heap.size := by (have h := hb1.size; (try simp at h); omega)); try (have hx1 : w.heap.size + 1 + 1 < w1.heap.size := by (have h := hb1.size; (try simp at h); omega)); try (have hv1 : w.heap.size + 1 + 1 + 1 < w1.heap.size := by (have h := hb1.size; (try simp at h); omega)); try (have hp1 : w.heap.size ≤ w1.heap.size := by omega)) | (go_at_call 50; refine (l12Far_is (by assumption) _).mono ?_; rintro e w1 ⟨rfl, rfl⟩))
    go_ret2
    refine ⟨by simp [ffN, ffC, ffOk, h1, h2, h4], ?_⟩
    repeat (first | exact Below.refl _ _ | refine bw_drew ?_ | refine bw_drewN ?_ _ | refine bw_set ?_ (by simp; try omega) _ | refine bw_alloc ?_ _ | refine bw_trans ?_ (by assumption) | assumption)
  have hN : ffN n d p a b = farTo (fhit n d p a b) 1000 := by simp [ffN, ffOk, h1, h2, h3, h4, h5]
  have hC : ffC n d p a b = if farTo (fhit n d p a b) 1000 = 0 then 3 else 0 := by simp [ffC, ffOk, h1, h2, h3, h4, h5]
  have HN := Lib.hid hN
  have HC := Lib.hid hC
  clear hN hC
  obtain ⟨⟨d1, _⟩, _, hg⟩ := vFrac_true.1 h1
  obtain ⟨⟨b1, _⟩, _, hg'⟩ := vFrac_true.1 h2
  obtain ⟨⟨n1, n2⟩, d2⟩ := isBr_true.1 h3
  obtain ⟨p1, p2⟩ := isSi_true.1 h4
  obtain ⟨⟨a1, a2⟩, b2⟩ := isBr_true.1 h5
  clear hg hg'
  obtain ⟨x1, x2⟩ := mul_bd n1 n2 (by omega : 0 ≤ b) b2
  obtain ⟨u1, u2⟩ := mul_bd a1 a2 (by omega : 0 ≤ d) d2
  obtain ⟨g, hgd⟩ : ∃ g : Int, g = max 1 (gcdI (n * b) (a * d)) := ⟨_, rfl⟩
  have hg0 := gcdI_nonneg (n * b) (a * d)
  have hg1 : 1 ≤ g := by omega
  have hdv : (n * b) / g * g = n * b ∧ (a * d) / g * g = a * d := by
    by_cases hz : gcdI (n * b) (a * d) = 0
    · have hz' : Int.gcd (n * b) (a * d) = 0 := by unfold gcdI at hz; omega
      have hnb := (Int.gcd_eq_zero_iff.1 hz').1
      have had := (Int.gcd_eq_zero_iff.1 hz').2
      rw [hnb, had]; simp
    · have hge : g = gcdI (n * b) (a * d) := by omega
      rw [hge]
      exact ⟨Int.ediv_mul_cancel (gcdI_dvd_left _ _), Int.ediv_mul_cancel (gcdI_dvd_right _ _)⟩
  have hX1 : 0 ≤ (n * b) / g := Int.ediv_nonneg x1 (by omega)
  have hX2 : (n * b) / g ≤ n * b := Int.ediv_le_self _ x1
  have hY1 : 0 ≤ (a * d) / g := Int.ediv_nonneg u1 (by omega)
  have hY2 : (a * d) / g ≤ a * d := Int.ediv_le_self _ u1
  have HD := Lib.hid hdv
  have HG := Lib.hid hgd
  clear hdv hgd
  go_enter Try.func39, Try.ntmps39
  go_wp2_with (first | (go_at_call 59; refine (l02Ok_is (by assumption) _).mono ?_; rintro e w1 ⟨rfl, hb1⟩; obtain ⟨hc1, hf1⟩ := bcell hb1; try (have hz1 : w.heap.size < w1.heap.size := by (have h := hb1.size; (try simp at h); omega)); try (have hy1 : w.heap.size + 1 < w1.heap.size := by (have h := hb1.size; (try simp at h); omega)); try (have hx1 : w.heap.size + 1 + 1 < w1.heap.size := by (have h := hb1.size; (try simp at h); omega)); try (have hv1 : w.heap.size + 1 + 1 + 1 < w1.heap.size := by (have h := hb1.size; (try simp at h); omega)); try (have hp1 : w.heap.size ≤ w1.heap.size := by omega)) | (go_at_call 60; refine (l12Bright_is (by assumption) (by assumption) _).mono ?_; rintro e w1 ⟨rfl, hb1⟩; obtain ⟨hc1, hf1⟩ := bcell hb1; try (have hz1 : w.heap.size < w1.heap.size := by (have h := hb1.size; (try simp at h); omega)); try (have hy1 : w.heap.size + 1 < w1.heap.size := by (have h := hb1.size; (try simp at h); omega)); try (have hx1 : w.heap.size + 1 + 1 < w1.heap.size := by (have h := hb1.size; (try simp at h); omega)); try (have hv1 : w.heap.size + 1 + 1 + 1 < w1.heap.size := by (have h := hb1.size; (try simp at h); omega)); try (have hp1 : w.heap.size ≤ w1.heap.size := by omega)) | (go_at_call 50; refine (l12Far_is (by assumption) _).mono ?_; rintro e w1 ⟨rfl, rfl⟩) | (go_at_call 65; refine (l00Gcd_any _ _ _ ⟨by omega, by omega⟩ ⟨by omega, by omega⟩).mono ?_; rintro e w1 ⟨rfl, rfl⟩) | (go_at_call 64; refine (l00Max_any _ _ _).mono ?_; rw [← HG.out]; rintro e w' ⟨rfl, rfl⟩))
  have hB : Below ((w.alloc (.cells #[.int .i64 n, .int .i64 d] 26)).alloc (.cells #[.int .i64 a, .int .i64 b] 26)).heap.size ((w.alloc (.cells #[.int .i64 n, .int .i64 d] 26)).alloc (.cells #[.int .i64 a, .int .i64 b] 26)) w1 := by
    repeat (first | exact Below.refl _ _ | refine bw_drew ?_ | refine bw_drewN ?_ _ | refine bw_set ?_ (by simp; try omega) _ | refine bw_alloc ?_ _ | refine bw_trans ?_ (by assumption) | assumption)
  have H1 := Lib.hid h1
  have H2 := Lib.hid h2
  clear h1 h2 h3 h4 h5 hb1 hc1 hf1
  go_loop [11] (fun x => ∃ k : Nat, k ≤ 1000 ∧ x = .int .i64 k ∧ Hid (farTo (fhit n d p a b) 1000 = farTo (fhit n d p a b) k)) (fun x => (intOf x).toNat)
  case atStart => exact ⟨1000, by omega, rfl, rfl⟩
  case round =>
    obtain ⟨k, hk, rfl, hf⟩ := hrel
    by_cases hk0 : k = 0
    · subst hk0
      go_wp2
      go_ret2
      refine ⟨by rw [HN.out, HC.out, hf.out]; simp [farTo], ?_⟩
      exact bw_trans (bw_alloc (bw_alloc (Below.refl _ _) _) _) hB
    · have hsc : ∀ t : Int, fhit n d p a b t = decide ((a * d) / g * (t * t) ≤ (n * b) / g * (p * p)) := fun t => fhit_scale (g := g) (by omega) HD.out.1.symm HD.out.2.symm
      have HS := Lib.hid hsc
      clear hsc
      cases hle : decide ((a * d) / g * ((k : Int) * k) ≤ (n * b) / g * (p * p))
      · have HY := Lib.hid (farTo_no ((HS.out k).trans hle) (by omega))
        go_wp2_with (first | (go_at_call 66; refine (l12Enough_any _ _ _ _ _ ⟨by omega, by omega⟩ ⟨by omega, by omega⟩ ⟨by omega, by omega⟩ ⟨by omega, by omega⟩).mono ?_; rintro e w1 ⟨rfl, rfl⟩))
        go_round
        case rel => exact ⟨k - 1, by omega, by congr 1; omega, (hf.out.trans HY.out : farTo (fhit n d p a b) 1000 = farTo (fhit n d p a b) (k - 1))⟩
        case measure => simp [intOf]; omega
      · have HY := Lib.hid (farTo_yes ((HS.out k).trans hle) (by omega))
        go_wp2_with (first | (go_at_call 66; refine (l12Enough_any _ _ _ _ _ ⟨by omega, by omega⟩ ⟨by omega, by omega⟩ ⟨by omega, by omega⟩ ⟨by omega, by omega⟩).mono ?_; rintro e w1 ⟨rfl, rfl⟩))
        go_ret2
        refine ⟨by rw [HN.out, HC.out, hf.out, HY.out, if_neg (by omega)]; rfl, ?_⟩
        exact bw_trans (bw_alloc (bw_alloc (Below.refl _ _) _) _) hB

set_option maxHeartbeats 400000 in
theorem law_FarthestFor (n d p a b : Int) (w : World) :
    Calls Try.prog 12 #[.agg #[.int .i64 n, .int .i64 d], .int .i64 p, .agg #[.int .i64 a, .int .i64 b]] w fun e w' => e = .returned (.bool true) ∧ Below w.heap.size w w' := by
  go_enter Try.func12, Try.ntmps12
  go_wp2_with fail
  refine wp_region_bel (by kernel_rfl) (by kernel_rfl) ?_
  repeat (go_big_quiet_step ((first | (go_at_call 37; exact calm_of (toFraction_any _ _ _)) | (go_at_call 39; exact calm_of (sFarthestFor_any _ _ _ _ _ _)))))
  refine wpQuiet_nil ?_
  intro w1 hw'
  obtain ⟨tq, hw''⟩ := hw'
  have hw1 := tq.2
  rw [← hw''] at hw1
  clear hw'' tq
  obtain ⟨hcw1, hfw1⟩ := bcell hw1
  try (have hzw1 : w.heap.size < w1.heap.size := by (have h := hw1.size; (try simp at h); omega))
  try (have hyw1 : w.heap.size + 1 < w1.heap.size := by (have h := hw1.size; (try simp at h); omega))
  try (have hxw1 : w.heap.size + 1 + 1 < w1.heap.size := by (have h := hw1.size; (try simp at h); omega))
  try (have hvw1 : w.heap.size + 1 + 1 + 1 < w1.heap.size := by (have h := hw1.size; (try simp at h); omega))
  go_wp2_with fail
  refine wp_region_bel (by kernel_rfl) (by kernel_rfl) ?_
  repeat (go_big_quiet_step ((first | (go_at_call 37; exact calm_of (toFraction_any _ _ _)) | (go_at_call 40; exact calm_of (farthestFor_any _ _ _ _ _ _)))))
  refine wpQuiet_nil ?_
  intro w2 hw'
  obtain ⟨tq, hw''⟩ := hw'
  have hw2 := tq.2
  rw [← hw''] at hw2
  clear hw'' tq
  obtain ⟨hcw2, hfw2⟩ := bcell hw2
  try (have hzw2 : w.heap.size < w2.heap.size := by (have h := hw2.size; (try simp at h); omega))
  try (have hyw2 : w.heap.size + 1 < w2.heap.size := by (have h := hw2.size; (try simp at h); omega))
  try (have hxw2 : w.heap.size + 1 + 1 < w2.heap.size := by (have h := hw2.size; (try simp at h); omega))
  try (have hvw2 : w.heap.size + 1 + 1 + 1 < w2.heap.size := by (have h := hw2.size; (try simp at h); omega))
  go_wp2
  go_ret
  refine ⟨rfl, ?_⟩
  repeat (first | exact Below.refl _ _ | refine bw_drew ?_ | refine bw_drewN ?_ _ | refine bw_set ?_ (by simp; try omega) _ | refine bw_alloc ?_ _ | refine bw_trans ?_ (by assumption) | assumption)
end Go.Proofs.Ytiplokbcojdcdaa
