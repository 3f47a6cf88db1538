/-
  Lenses: images, objects, screens, focal lengths, throws: in the program and in the reference.
-/
import Derived.Test.YtiplokbcojdcdaaLens
namespace Go.Proofs.Ytiplokbcojdcdaa
open Go.RowKit

def chT (n d : Int) : Int × Int × Int := (chN n d, chD n d, chC n d)
def fullT (n d : Int) : Int × Int × Int := chT (lowNum n d) (lowDen n d)
def imT (f o : Int) : Int × Int × Int := if isFo f && isTh o then (if o ≤ f then (0, 0, 6) else fullT (f * o) (o - f)) else (0, 0, 2)
def enT (f t : Int) : Int × Int × Int := if isFo f && isTh t then (if t ≤ f then (0, 0, 6) else (lowNum (t - f) f, lowDen (t - f) f, 0)) else (0, 0, 2)
def scT (f t s : Int) : Int × Int × Int := if isFo f && isTh t && isTh s then (if t ≤ f then (0, 0, 6) else fullT (s * (t - f)) f) else (0, 0, 2)
def ffT (t s c : Int) : Int × Int × Int := if isTh t && isTh s && isTh c then fullT (t * s) (s + c) else (0, 0, 2)
def jlT (a b : Int) : Int × Int × Int := if isFo a && isFo b then fullT (a * b) (a + b) else (0, 0, 2)
def tfT (f s c : Int) : Int × Int × Int := if isFo f && isTh s && isTh c then fullT (f * (s + c)) s else (0, 0, 2)

set_option maxHeartbeats 400000 in
theorem imageAt_any (f o : Int) (w : World) :
    Calls Try.prog 27 #[.int .i64 f, .int .i64 o] w fun e w' => e = .returned (.tuple #[.agg #[.int .i64 (imT f o).1, .int .i64 (imT f o).2.1], .int .i64 (imT f o).2.2]) ∧ Below w.heap.size w w' := by
  cases h1 : isFo f
  · go_enter Try.func27, Try.ntmps27
    go_wp2_with (first | (go_at_call 54; refine (isFocal_is (by assumption) _).mono ?_; rintro e w1 ⟨rfl, rfl⟩) | (go_at_call 55; refine (isThrow_is (by assumption) _).mono ?_; rintro e w1 ⟨rfl, rfl⟩) | (go_at_call 49; refine (lowest_any _ _ _ ⟨by omega, by omega⟩ ⟨by omega, by omega⟩).mono ?_; rintro e w1 ⟨rfl, hb1⟩; obtain ⟨hc1, hf1⟩ := bcell hb1; try (have hz1 : w.heap.size < w1.heap.size := by (have h := hb1.size; (try simp at h); omega)); try (have hy1 : w.heap.size + 1 < w1.heap.size := by (have h := hb1.size; (try simp at h); omega)); try (have hx1 : w.heap.size + 1 + 1 < w1.heap.size := by (have h := hb1.size; (try simp at h); omega)); try (have hv1 : w.heap.size + 1 + 1 + 1 < w1.heap.size := by (have h := hb1.size; (try simp at h); omega)); try (have hp1 : w.heap.size < w1.heap.size + 1 := by omega)) | (go_at_call 56; refine (checked_any _ _ _).mono ?_; rintro e w1 ⟨rfl, hb1⟩; obtain ⟨hc1, hf1⟩ := bcell hb1; try (have hz1 : w.heap.size < w1.heap.size := by (have h := hb1.size; (try simp at h); omega)); try (have hy1 : w.heap.size + 1 < w1.heap.size := by (have h := hb1.size; (try simp at h); omega)); try (have hx1 : w.heap.size + 1 + 1 < w1.heap.size := by (have h := hb1.size; (try simp at h); omega)); try (have hv1 : w.heap.size + 1 + 1 + 1 < w1.heap.size := by (have h := hb1.size; (try simp at h); omega)); try (have hp1 : w.heap.size < w1.heap.size + 1 := by omega)))
    refine bodyPost_ret (v := .tuple #[.agg #[.int .i64 (0), .int .i64 (0)], .int .i64 (2)]) (by simp [results, Try.results27, go_sem, *]) rfl ⟨by simp [imT, h1], ?_⟩
    repeat (first | exact Below.refl _ _ | refine bw_drew ?_ | refine bw_drewN ?_ _ | refine bw_set ?_ (by simp; try omega) _ | refine bw_alloc ?_ _ | refine bw_trans ?_ (by assumption) | assumption)
  obtain ⟨f1, f2⟩ := isFo_true.1 h1
  cases h2 : isTh o
  · go_enter Try.func27, Try.ntmps27
    go_wp2_with (first | (go_at_call 54; refine (isFocal_is (by assumption) _).mono ?_; rintro e w1 ⟨rfl, rfl⟩) | (go_at_call 55; refine (isThrow_is (by assumption) _).mono ?_; rintro e w1 ⟨rfl, rfl⟩) | (go_at_call 49; refine (lowest_any _ _ _ ⟨by omega, by omega⟩ ⟨by omega, by omega⟩).mono ?_; rintro e w1 ⟨rfl, hb1⟩; obtain ⟨hc1, hf1⟩ := bcell hb1; try (have hz1 : w.heap.size < w1.heap.size := by (have h := hb1.size; (try simp at h); omega)); try (have hy1 : w.heap.size + 1 < w1.heap.size := by (have h := hb1.size; (try simp at h); omega)); try (have hx1 : w.heap.size + 1 + 1 < w1.heap.size := by (have h := hb1.size; (try simp at h); omega)); try (have hv1 : w.heap.size + 1 + 1 + 1 < w1.heap.size := by (have h := hb1.size; (try simp at h); omega)); try (have hp1 : w.heap.size < w1.heap.size + 1 := by omega)) | (go_at_call 56; refine (checked_any _ _ _).mono ?_; rintro e w1 ⟨rfl, hb1⟩; obtain ⟨hc1, hf1⟩ := bcell hb1; try (have hz1 : w.heap.size < w1.heap.size := by (have h := hb1.size; (try simp at h); omega)); try (have hy1 : w.heap.size + 1 < w1.heap.size := by (have h := hb1.size; (try simp at h); omega)); try (have hx1 : w.heap.size + 1 + 1 < w1.heap.size := by (have h := hb1.size; (try simp at h); omega)); try (have hv1 : w.heap.size + 1 + 1 + 1 < w1.heap.size := by (have h := hb1.size; (try simp at h); omega)); try (have hp1 : w.heap.size < w1.heap.size + 1 := by omega)))
    refine bodyPost_ret (v := .tuple #[.agg #[.int .i64 (0), .int .i64 (0)], .int .i64 (2)]) (by simp [results, Try.results27, go_sem, *]) rfl ⟨by simp [imT, h1, h2], ?_⟩
    repeat (first | exact Below.refl _ _ | refine bw_drew ?_ | refine bw_drewN ?_ _ | refine bw_set ?_ (by simp; try omega) _ | refine bw_alloc ?_ _ | refine bw_trans ?_ (by assumption) | assumption)
  obtain ⟨o1, o2⟩ := isTh_true.1 h2
  by_cases hs : o ≤ f
  · go_enter Try.func27, Try.ntmps27
    go_wp2_with (first | (go_at_call 54; refine (isFocal_is (by assumption) _).mono ?_; rintro e w1 ⟨rfl, rfl⟩) | (go_at_call 55; refine (isThrow_is (by assumption) _).mono ?_; rintro e w1 ⟨rfl, rfl⟩) | (go_at_call 49; refine (lowest_any _ _ _ ⟨by omega, by omega⟩ ⟨by omega, by omega⟩).mono ?_; rintro e w1 ⟨rfl, hb1⟩; obtain ⟨hc1, hf1⟩ := bcell hb1; try (have hz1 : w.heap.size < w1.heap.size := by (have h := hb1.size; (try simp at h); omega)); try (have hy1 : w.heap.size + 1 < w1.heap.size := by (have h := hb1.size; (try simp at h); omega)); try (have hx1 : w.heap.size + 1 + 1 < w1.heap.size := by (have h := hb1.size; (try simp at h); omega)); try (have hv1 : w.heap.size + 1 + 1 + 1 < w1.heap.size := by (have h := hb1.size; (try simp at h); omega)); try (have hp1 : w.heap.size < w1.heap.size + 1 := by omega)) | (go_at_call 56; refine (checked_any _ _ _).mono ?_; rintro e w1 ⟨rfl, hb1⟩; obtain ⟨hc1, hf1⟩ := bcell hb1; try (have hz1 : w.heap.size < w1.heap.size := by (have h := hb1.size; (try simp at h); omega)); try (have hy1 : w.heap.size + 1 < w1.heap.size := by (have h := hb1.size; (try simp at h); omega)); try (have hx1 : w.heap.size + 1 + 1 < w1.heap.size := by (have h := hb1.size; (try simp at h); omega)); try (have hv1 : w.heap.size + 1 + 1 + 1 < w1.heap.size := by (have h := hb1.size; (try simp at h); omega)); try (have hp1 : w.heap.size < w1.heap.size + 1 := by omega)))
    refine bodyPost_ret (v := .tuple #[.agg #[.int .i64 (0), .int .i64 (0)], .int .i64 (6)]) (by simp [results, Try.results27, go_sem, *]) rfl ⟨by simp [imT, h1, h2, hs], ?_⟩
    repeat (first | exact Below.refl _ _ | refine bw_drew ?_ | refine bw_drewN ?_ _ | refine bw_set ?_ (by simp; try omega) _ | refine bw_alloc ?_ _ | refine bw_trans ?_ (by assumption) | assumption)
  obtain ⟨pm1, pm2⟩ := mul_bd (a := f) (b := o) (A := 2000) (B := 100000) (by omega) (by omega) (by omega) (by omega)
  go_enter Try.func27, Try.ntmps27
  go_wp2_with (first | (go_at_call 54; refine (isFocal_is (by assumption) _).mono ?_; rintro e w1 ⟨rfl, rfl⟩) | (go_at_call 55; refine (isThrow_is (by assumption) _).mono ?_; rintro e w1 ⟨rfl, rfl⟩) | (go_at_call 49; refine (lowest_any _ _ _ ⟨by omega, by omega⟩ ⟨by omega, by omega⟩).mono ?_; rintro e w1 ⟨rfl, hb1⟩; obtain ⟨hc1, hf1⟩ := bcell hb1; try (have hz1 : w.heap.size < w1.heap.size := by (have h := hb1.size; (try simp at h); omega)); try (have hy1 : w.heap.size + 1 < w1.heap.size := by (have h := hb1.size; (try simp at h); omega)); try (have hx1 : w.heap.size + 1 + 1 < w1.heap.size := by (have h := hb1.size; (try simp at h); omega)); try (have hv1 : w.heap.size + 1 + 1 + 1 < w1.heap.size := by (have h := hb1.size; (try simp at h); omega)); try (have hp1 : w.heap.size < w1.heap.size + 1 := by omega)) | (go_at_call 56; refine (checked_any _ _ _).mono ?_; rintro e w1 ⟨rfl, hb1⟩; obtain ⟨hc1, hf1⟩ := bcell hb1; try (have hz1 : w.heap.size < w1.heap.size := by (have h := hb1.size; (try simp at h); omega)); try (have hy1 : w.heap.size + 1 < w1.heap.size := by (have h := hb1.size; (try simp at h); omega)); try (have hx1 : w.heap.size + 1 + 1 < w1.heap.size := by (have h := hb1.size; (try simp at h); omega)); try (have hv1 : w.heap.size + 1 + 1 + 1 < w1.heap.size := by (have h := hb1.size; (try simp at h); omega)); try (have hp1 : w.heap.size < w1.heap.size + 1 := by omega)))
  refine bodyPost_ret (v := .tuple #[.agg #[.int .i64 (chN (lowNum (f * o) (o - f)) (lowDen (f * o) (o - f))), .int .i64 (chD (lowNum (f * o) (o - f)) (lowDen (f * o) (o - f)))], .int .i64 (chC (lowNum (f * o) (o - f)) (lowDen (f * o) (o - f)))]) (by simp [results, Try.results27, go_sem, *]) rfl ⟨by simp [imT, fullT, chT, h1, h2, show ¬ (o ≤ f) by omega], ?_⟩
  repeat (first | exact Below.refl _ _ | refine bw_drew ?_ | refine bw_drewN ?_ _ | refine bw_set ?_ (by simp; try omega) _ | refine bw_alloc ?_ _ | refine bw_trans ?_ (by assumption) | assumption)

set_option maxHeartbeats 400000 in
theorem enlargementOf_any (f t : Int) (w : World) :
    Calls Try.prog 24 #[.int .i64 f, .int .i64 t] w fun e w' => e = .returned (.tuple #[.agg #[.int .i64 (enT f t).1, .int .i64 (enT f t).2.1], .int .i64 (enT f t).2.2]) ∧ Below w.heap.size w w' := by
  cases h1 : isFo f
  · go_enter Try.func24, Try.ntmps24
    go_wp2_with (first | (go_at_call 54; refine (isFocal_is (by assumption) _).mono ?_; rintro e w1 ⟨rfl, rfl⟩) | (go_at_call 55; refine (isThrow_is (by assumption) _).mono ?_; rintro e w1 ⟨rfl, rfl⟩) | (go_at_call 49; refine (lowest_any _ _ _ ⟨by omega, by omega⟩ ⟨by omega, by omega⟩).mono ?_; rintro e w1 ⟨rfl, hb1⟩; obtain ⟨hc1, hf1⟩ := bcell hb1; try (have hz1 : w.heap.size < w1.heap.size := by (have h := hb1.size; (try simp at h); omega)); try (have hy1 : w.heap.size + 1 < w1.heap.size := by (have h := hb1.size; (try simp at h); omega)); try (have hx1 : w.heap.size + 1 + 1 < w1.heap.size := by (have h := hb1.size; (try simp at h); omega)); try (have hv1 : w.heap.size + 1 + 1 + 1 < w1.heap.size := by (have h := hb1.size; (try simp at h); omega)); try (have hp1 : w.heap.size < w1.heap.size + 1 := by omega)))
    refine bodyPost_ret (v := .tuple #[.agg #[.int .i64 (0), .int .i64 (0)], .int .i64 (2)]) (by simp [results, Try.results24, go_sem, *]) rfl ⟨by simp [enT, h1], ?_⟩
    repeat (first | exact Below.refl _ _ | refine bw_drew ?_ | refine bw_drewN ?_ _ | refine bw_set ?_ (by simp; try omega) _ | refine bw_alloc ?_ _ | refine bw_trans ?_ (by assumption) | assumption)
  obtain ⟨f1, f2⟩ := isFo_true.1 h1
  cases h2 : isTh t
  · go_enter Try.func24, Try.ntmps24
    go_wp2_with (first | (go_at_call 54; refine (isFocal_is (by assumption) _).mono ?_; rintro e w1 ⟨rfl, rfl⟩) | (go_at_call 55; refine (isThrow_is (by assumption) _).mono ?_; rintro e w1 ⟨rfl, rfl⟩) | (go_at_call 49; refine (lowest_any _ _ _ ⟨by omega, by omega⟩ ⟨by omega, by omega⟩).mono ?_; rintro e w1 ⟨rfl, hb1⟩; obtain ⟨hc1, hf1⟩ := bcell hb1; try (have hz1 : w.heap.size < w1.heap.size := by (have h := hb1.size; (try simp at h); omega)); try (have hy1 : w.heap.size + 1 < w1.heap.size := by (have h := hb1.size; (try simp at h); omega)); try (have hx1 : w.heap.size + 1 + 1 < w1.heap.size := by (have h := hb1.size; (try simp at h); omega)); try (have hv1 : w.heap.size + 1 + 1 + 1 < w1.heap.size := by (have h := hb1.size; (try simp at h); omega)); try (have hp1 : w.heap.size < w1.heap.size + 1 := by omega)))
    refine bodyPost_ret (v := .tuple #[.agg #[.int .i64 (0), .int .i64 (0)], .int .i64 (2)]) (by simp [results, Try.results24, go_sem, *]) rfl ⟨by simp [enT, h1, h2], ?_⟩
    repeat (first | exact Below.refl _ _ | refine bw_drew ?_ | refine bw_drewN ?_ _ | refine bw_set ?_ (by simp; try omega) _ | refine bw_alloc ?_ _ | refine bw_trans ?_ (by assumption) | assumption)
  obtain ⟨t1, t2⟩ := isTh_true.1 h2
  by_cases hs : t ≤ f
  · go_enter Try.func24, Try.ntmps24
    go_wp2_with (first | (go_at_call 54; refine (isFocal_is (by assumption) _).mono ?_; rintro e w1 ⟨rfl, rfl⟩) | (go_at_call 55; refine (isThrow_is (by assumption) _).mono ?_; rintro e w1 ⟨rfl, rfl⟩) | (go_at_call 49; refine (lowest_any _ _ _ ⟨by omega, by omega⟩ ⟨by omega, by omega⟩).mono ?_; rintro e w1 ⟨rfl, hb1⟩; obtain ⟨hc1, hf1⟩ := bcell hb1; try (have hz1 : w.heap.size < w1.heap.size := by (have h := hb1.size; (try simp at h); omega)); try (have hy1 : w.heap.size + 1 < w1.heap.size := by (have h := hb1.size; (try simp at h); omega)); try (have hx1 : w.heap.size + 1 + 1 < w1.heap.size := by (have h := hb1.size; (try simp at h); omega)); try (have hv1 : w.heap.size + 1 + 1 + 1 < w1.heap.size := by (have h := hb1.size; (try simp at h); omega)); try (have hp1 : w.heap.size < w1.heap.size + 1 := by omega)))
    refine bodyPost_ret (v := .tuple #[.agg #[.int .i64 (0), .int .i64 (0)], .int .i64 (6)]) (by simp [results, Try.results24, go_sem, *]) rfl ⟨by simp [enT, h1, h2, hs], ?_⟩
    repeat (first | exact Below.refl _ _ | refine bw_drew ?_ | refine bw_drewN ?_ _ | refine bw_set ?_ (by simp; try omega) _ | refine bw_alloc ?_ _ | refine bw_trans ?_ (by assumption) | assumption)
  go_enter Try.func24, Try.ntmps24
  go_wp2_with (first | (go_at_call 54; refine (isFocal_is (by assumption) _).mono ?_; rintro e w1 ⟨rfl, rfl⟩) | (go_at_call 55; refine (isThrow_is (by assumption) _).mono ?_; rintro e w1 ⟨rfl, rfl⟩) | (go_at_call 49; refine (lowest_any _ _ _ ⟨by omega, by omega⟩ ⟨by omega, by omega⟩).mono ?_; rintro e w1 ⟨rfl, hb1⟩; obtain ⟨hc1, hf1⟩ := bcell hb1; try (have hz1 : w.heap.size < w1.heap.size := by (have h := hb1.size; (try simp at h); omega)); try (have hy1 : w.heap.size + 1 < w1.heap.size := by (have h := hb1.size; (try simp at h); omega)); try (have hx1 : w.heap.size + 1 + 1 < w1.heap.size := by (have h := hb1.size; (try simp at h); omega)); try (have hv1 : w.heap.size + 1 + 1 + 1 < w1.heap.size := by (have h := hb1.size; (try simp at h); omega)); try (have hp1 : w.heap.size < w1.heap.size + 1 := by omega)))
  refine bodyPost_ret (v := .tuple #[.agg #[.int .i64 (lowNum (t - f) f), .int .i64 (lowDen (t - f) f)], .int .i64 (0)]) (by simp [results, Try.results24, go_sem, *]) rfl ⟨by simp [enT, h1, h2, show ¬ (t ≤ f) by omega], ?_⟩
  repeat (first | exact Below.refl _ _ | refine bw_drew ?_ | refine bw_drewN ?_ _ | refine bw_set ?_ (by simp; try omega) _ | refine bw_alloc ?_ _ | refine bw_trans ?_ (by assumption) | assumption)

set_option maxHeartbeats 400000 in
theorem screenSize_any (f t s : Int) (w : World) :
    Calls Try.prog 29 #[.int .i64 f, .int .i64 t, .int .i64 s] w fun e w' => e = .returned (.tuple #[.agg #[.int .i64 (scT f t s).1, .int .i64 (scT f t s).2.1], .int .i64 (scT f t s).2.2]) ∧ Below w.heap.size w w' := by
  cases h1 : isFo f
  · go_enter Try.func29, Try.ntmps29
    go_wp2_with (first | (go_at_call 54; refine (isFocal_is (by assumption) _).mono ?_; rintro e w1 ⟨rfl, rfl⟩) | (go_at_call 55; refine (isThrow_is (by assumption) _).mono ?_; rintro e w1 ⟨rfl, rfl⟩) | (go_at_call 49; refine (lowest_any _ _ _ ⟨by omega, by omega⟩ ⟨by omega, by omega⟩).mono ?_; rintro e w1 ⟨rfl, hb1⟩; obtain ⟨hc1, hf1⟩ := bcell hb1; try (have hz1 : w.heap.size < w1.heap.size := by (have h := hb1.size; (try simp at h); omega)); try (have hy1 : w.heap.size + 1 < w1.heap.size := by (have h := hb1.size; (try simp at h); omega)); try (have hx1 : w.heap.size + 1 + 1 < w1.heap.size := by (have h := hb1.size; (try simp at h); omega)); try (have hv1 : w.heap.size + 1 + 1 + 1 < w1.heap.size := by (have h := hb1.size; (try simp at h); omega)); try (have hp1 : w.heap.size < w1.heap.size + 1 := by omega)) | (go_at_call 56; refine (checked_any _ _ _).mono ?_; rintro e w1 ⟨rfl, hb1⟩; obtain ⟨hc1, hf1⟩ := bcell hb1; try (have hz1 : w.heap.size < w1.heap.size := by (have h := hb1.size; (try simp at h); omega)); try (have hy1 : w.heap.size + 1 < w1.heap.size := by (have h := hb1.size; (try simp at h); omega)); try (have hx1 : w.heap.size + 1 + 1 < w1.heap.size := by (have h := hb1.size; (try simp at h); omega)); try (have hv1 : w.heap.size + 1 + 1 + 1 < w1.heap.size := by (have h := hb1.size; (try simp at h); omega)); try (have hp1 : w.heap.size < w1.heap.size + 1 := by omega)))
    refine bodyPost_ret (v := .tuple #[.agg #[.int .i64 (0), .int .i64 (0)], .int .i64 (2)]) (by simp [results, Try.results29, go_sem, *]) rfl ⟨by simp [scT, h1], ?_⟩
    repeat (first | exact Below.refl _ _ | refine bw_drew ?_ | refine bw_drewN ?_ _ | refine bw_set ?_ (by simp; try omega) _ | refine bw_alloc ?_ _ | refine bw_trans ?_ (by assumption) | assumption)
  obtain ⟨f1, f2⟩ := isFo_true.1 h1
  cases h2 : isTh t
  · go_enter Try.func29, Try.ntmps29
    go_wp2_with (first | (go_at_call 54; refine (isFocal_is (by assumption) _).mono ?_; rintro e w1 ⟨rfl, rfl⟩) | (go_at_call 55; refine (isThrow_is (by assumption) _).mono ?_; rintro e w1 ⟨rfl, rfl⟩) | (go_at_call 49; refine (lowest_any _ _ _ ⟨by omega, by omega⟩ ⟨by omega, by omega⟩).mono ?_; rintro e w1 ⟨rfl, hb1⟩; obtain ⟨hc1, hf1⟩ := bcell hb1; try (have hz1 : w.heap.size < w1.heap.size := by (have h := hb1.size; (try simp at h); omega)); try (have hy1 : w.heap.size + 1 < w1.heap.size := by (have h := hb1.size; (try simp at h); omega)); try (have hx1 : w.heap.size + 1 + 1 < w1.heap.size := by (have h := hb1.size; (try simp at h); omega)); try (have hv1 : w.heap.size + 1 + 1 + 1 < w1.heap.size := by (have h := hb1.size; (try simp at h); omega)); try (have hp1 : w.heap.size < w1.heap.size + 1 := by omega)) | (go_at_call 56; refine (checked_any _ _ _).mono ?_; rintro e w1 ⟨rfl, hb1⟩; obtain ⟨hc1, hf1⟩ := bcell hb1; try (have hz1 : w.heap.size < w1.heap.size := by (have h := hb1.size; (try simp at h); omega)); try (have hy1 : w.heap.size + 1 < w1.heap.size := by (have h := hb1.size; (try simp at h); omega)); try (have hx1 : w.heap.size + 1 + 1 < w1.heap.size := by (have h := hb1.size; (try simp at h); omega)); try (have hv1 : w.heap.size + 1 + 1 + 1 < w1.heap.size := by (have h := hb1.size; (try simp at h); omega)); try (have hp1 : w.heap.size < w1.heap.size + 1 := by omega)))
    refine bodyPost_ret (v := .tuple #[.agg #[.int .i64 (0), .int .i64 (0)], .int .i64 (2)]) (by simp [results, Try.results29, go_sem, *]) rfl ⟨by simp [scT, h1, h2], ?_⟩
    repeat (first | exact Below.refl _ _ | refine bw_drew ?_ | refine bw_drewN ?_ _ | refine bw_set ?_ (by simp; try omega) _ | refine bw_alloc ?_ _ | refine bw_trans ?_ (by assumption) | assumption)
  obtain ⟨t1, t2⟩ := isTh_true.1 h2
  cases h3 : isTh s
  · go_enter Try.func29, Try.ntmps29
    go_wp2_with (first | (go_at_call 54; refine (isFocal_is (by assumption) _).mono ?_; rintro e w1 ⟨rfl, rfl⟩) | (go_at_call 55; refine (isThrow_is (by assumption) _).mono ?_; rintro e w1 ⟨rfl, rfl⟩) | (go_at_call 49; refine (lowest_any _ _ _ ⟨by omega, by omega⟩ ⟨by omega, by omega⟩).mono ?_; rintro e w1 ⟨rfl, hb1⟩; obtain ⟨hc1, hf1⟩ := bcell hb1; try (have hz1 : w.heap.size < w1.heap.size := by (have h := hb1.size; (try simp at h); omega)); try (have hy1 : w.heap.size + 1 < w1.heap.size := by (have h := hb1.size; (try simp at h); omega)); try (have hx1 : w.heap.size + 1 + 1 < w1.heap.size := by (have h := hb1.size; (try simp at h); omega)); try (have hv1 : w.heap.size + 1 + 1 + 1 < w1.heap.size := by (have h := hb1.size; (try simp at h); omega)); try (have hp1 : w.heap.size < w1.heap.size + 1 := by omega)) | (go_at_call 56; refine (checked_any _ _ _).mono ?_; rintro e w1 ⟨rfl, hb1⟩; obtain ⟨hc1, hf1⟩ := bcell hb1; try (have hz1 : w.heap.size < w1.heap.size := by (have h := hb1.size; (try simp at h); omega)); try (have hy1 : w.heap.size + 1 < w1.heap.size := by (have h := hb1.size; (try simp at h); omega)); try (have hx1 : w.heap.size + 1 + 1 < w1.heap.size := by (have h := hb1.size; (try simp at h); omega)); try (have hv1 : w.heap.size + 1 + 1 + 1 < w1.heap.size := by (have h := hb1.size; (try simp at h); omega)); try (have hp1 : w.heap.size < w1.heap.size + 1 := by omega)))
    refine bodyPost_ret (v := .tuple #[.agg #[.int .i64 (0), .int .i64 (0)], .int .i64 (2)]) (by simp [results, Try.results29, go_sem, *]) rfl ⟨by simp [scT, h1, h2, h3], ?_⟩
    repeat (first | exact Below.refl _ _ | refine bw_drew ?_ | refine bw_drewN ?_ _ | refine bw_set ?_ (by simp; try omega) _ | refine bw_alloc ?_ _ | refine bw_trans ?_ (by assumption) | assumption)
  obtain ⟨s1, s2⟩ := isTh_true.1 h3
  by_cases hs : t ≤ f
  · go_enter Try.func29, Try.ntmps29
    go_wp2_with (first | (go_at_call 54; refine (isFocal_is (by assumption) _).mono ?_; rintro e w1 ⟨rfl, rfl⟩) | (go_at_call 55; refine (isThrow_is (by assumption) _).mono ?_; rintro e w1 ⟨rfl, rfl⟩) | (go_at_call 49; refine (lowest_any _ _ _ ⟨by omega, by omega⟩ ⟨by omega, by omega⟩).mono ?_; rintro e w1 ⟨rfl, hb1⟩; obtain ⟨hc1, hf1⟩ := bcell hb1; try (have hz1 : w.heap.size < w1.heap.size := by (have h := hb1.size; (try simp at h); omega)); try (have hy1 : w.heap.size + 1 < w1.heap.size := by (have h := hb1.size; (try simp at h); omega)); try (have hx1 : w.heap.size + 1 + 1 < w1.heap.size := by (have h := hb1.size; (try simp at h); omega)); try (have hv1 : w.heap.size + 1 + 1 + 1 < w1.heap.size := by (have h := hb1.size; (try simp at h); omega)); try (have hp1 : w.heap.size < w1.heap.size + 1 := by omega)) | (go_at_call 56; refine (checked_any _ _ _).mono ?_; rintro e w1 ⟨rfl, hb1⟩; obtain ⟨hc1, hf1⟩ := bcell hb1; try (have hz1 : w.heap.size < w1.heap.size := by (have h := hb1.size; (try simp at h); omega)); try (have hy1 : w.heap.size + 1 < w1.heap.size := by (have h := hb1.size; (try simp at h); omega)); try (have hx1 : w.heap.size + 1 + 1 < w1.heap.size := by (have h := hb1.size; (try simp at h); omega)); try (have hv1 : w.heap.size + 1 + 1 + 1 < w1.heap.size := by (have h := hb1.size; (try simp at h); omega)); try (have hp1 : w.heap.size < w1.heap.size + 1 := by omega)))
    refine bodyPost_ret (v := .tuple #[.agg #[.int .i64 (0), .int .i64 (0)], .int .i64 (6)]) (by simp [results, Try.results29, go_sem, *]) rfl ⟨by simp [scT, h1, h2, h3, hs], ?_⟩
    repeat (first | exact Below.refl _ _ | refine bw_drew ?_ | refine bw_drewN ?_ _ | refine bw_set ?_ (by simp; try omega) _ | refine bw_alloc ?_ _ | refine bw_trans ?_ (by assumption) | assumption)
  obtain ⟨pm1, pm2⟩ := mul_bd (a := s) (b := t - f) (A := 100000) (B := 100000) (by omega) (by omega) (by omega) (by omega)
  go_enter Try.func29, Try.ntmps29
  go_wp2_with (first | (go_at_call 54; refine (isFocal_is (by assumption) _).mono ?_; rintro e w1 ⟨rfl, rfl⟩) | (go_at_call 55; refine (isThrow_is (by assumption) _).mono ?_; rintro e w1 ⟨rfl, rfl⟩) | (go_at_call 49; refine (lowest_any _ _ _ ⟨by omega, by omega⟩ ⟨by omega, by omega⟩).mono ?_; rintro e w1 ⟨rfl, hb1⟩; obtain ⟨hc1, hf1⟩ := bcell hb1; try (have hz1 : w.heap.size < w1.heap.size := by (have h := hb1.size; (try simp at h); omega)); try (have hy1 : w.heap.size + 1 < w1.heap.size := by (have h := hb1.size; (try simp at h); omega)); try (have hx1 : w.heap.size + 1 + 1 < w1.heap.size := by (have h := hb1.size; (try simp at h); omega)); try (have hv1 : w.heap.size + 1 + 1 + 1 < w1.heap.size := by (have h := hb1.size; (try simp at h); omega)); try (have hp1 : w.heap.size < w1.heap.size + 1 := by omega)) | (go_at_call 56; refine (checked_any _ _ _).mono ?_; rintro e w1 ⟨rfl, hb1⟩; obtain ⟨hc1, hf1⟩ := bcell hb1; try (have hz1 : w.heap.size < w1.heap.size := by (have h := hb1.size; (try simp at h); omega)); try (have hy1 : w.heap.size + 1 < w1.heap.size := by (have h := hb1.size; (try simp at h); omega)); try (have hx1 : w.heap.size + 1 + 1 < w1.heap.size := by (have h := hb1.size; (try simp at h); omega)); try (have hv1 : w.heap.size + 1 + 1 + 1 < w1.heap.size := by (have h := hb1.size; (try simp at h); omega)); try (have hp1 : w.heap.size < w1.heap.size + 1 := by omega)))
  refine bodyPost_ret (v := .tuple #[.agg #[.int .i64 (chN (lowNum (s * (t - f)) (f)) (lowDen (s * (t - f)) (f))), .int .i64 (chD (lowNum (s * (t - f)) (f)) (lowDen (s * (t - f)) (f)))], .int .i64 (chC (lowNum (s * (t - f)) (f)) (lowDen (s * (t - f)) (f)))]) (by simp [results, Try.results29, go_sem, *]) rfl ⟨by simp [scT, fullT, chT, h1, h2, h3, show ¬ (t ≤ f) by omega], ?_⟩
  repeat (first | exact Below.refl _ _ | refine bw_drew ?_ | refine bw_drewN ?_ _ | refine bw_set ?_ (by simp; try omega) _ | refine bw_alloc ?_ _ | refine bw_trans ?_ (by assumption) | assumption)

set_option maxHeartbeats 400000 in
theorem focalFor_any (t s c : Int) (w : World) :
    Calls Try.prog 30 #[.int .i64 t, .int .i64 s, .int .i64 c] w fun e w' => e = .returned (.tuple #[.agg #[.int .i64 (ffT t s c).1, .int .i64 (ffT t s c).2.1], .int .i64 (ffT t s c).2.2]) ∧ Below w.heap.size w w' := by
  cases h1 : isTh t
  · go_enter Try.func30, Try.ntmps30
    go_wp2_with (first | (go_at_call 54; refine (isFocal_is (by assumption) _).mono ?_; rintro e w1 ⟨rfl, rfl⟩) | (go_at_call 55; refine (isThrow_is (by assumption) _).mono ?_; rintro e w1 ⟨rfl, rfl⟩) | (go_at_call 49; refine (lowest_any _ _ _ ⟨by omega, by omega⟩ ⟨by omega, by omega⟩).mono ?_; rintro e w1 ⟨rfl, hb1⟩; obtain ⟨hc1, hf1⟩ := bcell hb1; try (have hz1 : w.heap.size < w1.heap.size := by (have h := hb1.size; (try simp at h); omega)); try (have hy1 : w.heap.size + 1 < w1.heap.size := by (have h := hb1.size; (try simp at h); omega)); try (have hx1 : w.heap.size + 1 + 1 < w1.heap.size := by (have h := hb1.size; (try simp at h); omega)); try (have hv1 : w.heap.size + 1 + 1 + 1 < w1.heap.size := by (have h := hb1.size; (try simp at h); omega)); try (have hp1 : w.heap.size < w1.heap.size + 1 := by omega)) | (go_at_call 56; refine (checked_any _ _ _).mono ?_; rintro e w1 ⟨rfl, hb1⟩; obtain ⟨hc1, hf1⟩ := bcell hb1; try (have hz1 : w.heap.size < w1.heap.size := by (have h := hb1.size; (try simp at h); omega)); try (have hy1 : w.heap.size + 1 < w1.heap.size := by (have h := hb1.size; (try simp at h); omega)); try (have hx1 : w.heap.size + 1 + 1 < w1.heap.size := by (have h := hb1.size; (try simp at h); omega)); try (have hv1 : w.heap.size + 1 + 1 + 1 < w1.heap.size := by (have h := hb1.size; (try simp at h); omega)); try (have hp1 : w.heap.size < w1.heap.size + 1 := by omega)))
    refine bodyPost_ret (v := .tuple #[.agg #[.int .i64 (0), .int .i64 (0)], .int .i64 (2)]) (by simp [results, Try.results30, go_sem, *]) rfl ⟨by simp [ffT, h1], ?_⟩
    repeat (first | exact Below.refl _ _ | refine bw_drew ?_ | refine bw_drewN ?_ _ | refine bw_set ?_ (by simp; try omega) _ | refine bw_alloc ?_ _ | refine bw_trans ?_ (by assumption) | assumption)
  obtain ⟨t1, t2⟩ := isTh_true.1 h1
  cases h2 : isTh s
  · go_enter Try.func30, Try.ntmps30
    go_wp2_with (first | (go_at_call 54; refine (isFocal_is (by assumption) _).mono ?_; rintro e w1 ⟨rfl, rfl⟩) | (go_at_call 55; refine (isThrow_is (by assumption) _).mono ?_; rintro e w1 ⟨rfl, rfl⟩) | (go_at_call 49; refine (lowest_any _ _ _ ⟨by omega, by omega⟩ ⟨by omega, by omega⟩).mono ?_; rintro e w1 ⟨rfl, hb1⟩; obtain ⟨hc1, hf1⟩ := bcell hb1; try (have hz1 : w.heap.size < w1.heap.size := by (have h := hb1.size; (try simp at h); omega)); try (have hy1 : w.heap.size + 1 < w1.heap.size := by (have h := hb1.size; (try simp at h); omega)); try (have hx1 : w.heap.size + 1 + 1 < w1.heap.size := by (have h := hb1.size; (try simp at h); omega)); try (have hv1 : w.heap.size + 1 + 1 + 1 < w1.heap.size := by (have h := hb1.size; (try simp at h); omega)); try (have hp1 : w.heap.size < w1.heap.size + 1 := by omega)) | (go_at_call 56; refine (checked_any _ _ _).mono ?_; rintro e w1 ⟨rfl, hb1⟩; obtain ⟨hc1, hf1⟩ := bcell hb1; try (have hz1 : w.heap.size < w1.heap.size := by (have h := hb1.size; (try simp at h); omega)); try (have hy1 : w.heap.size + 1 < w1.heap.size := by (have h := hb1.size; (try simp at h); omega)); try (have hx1 : w.heap.size + 1 + 1 < w1.heap.size := by (have h := hb1.size; (try simp at h); omega)); try (have hv1 : w.heap.size + 1 + 1 + 1 < w1.heap.size := by (have h := hb1.size; (try simp at h); omega)); try (have hp1 : w.heap.size < w1.heap.size + 1 := by omega)))
    refine bodyPost_ret (v := .tuple #[.agg #[.int .i64 (0), .int .i64 (0)], .int .i64 (2)]) (by simp [results, Try.results30, go_sem, *]) rfl ⟨by simp [ffT, h1, h2], ?_⟩
    repeat (first | exact Below.refl _ _ | refine bw_drew ?_ | refine bw_drewN ?_ _ | refine bw_set ?_ (by simp; try omega) _ | refine bw_alloc ?_ _ | refine bw_trans ?_ (by assumption) | assumption)
  obtain ⟨s1, s2⟩ := isTh_true.1 h2
  cases h3 : isTh c
  · go_enter Try.func30, Try.ntmps30
    go_wp2_with (first | (go_at_call 54; refine (isFocal_is (by assumption) _).mono ?_; rintro e w1 ⟨rfl, rfl⟩) | (go_at_call 55; refine (isThrow_is (by assumption) _).mono ?_; rintro e w1 ⟨rfl, rfl⟩) | (go_at_call 49; refine (lowest_any _ _ _ ⟨by omega, by omega⟩ ⟨by omega, by omega⟩).mono ?_; rintro e w1 ⟨rfl, hb1⟩; obtain ⟨hc1, hf1⟩ := bcell hb1; try (have hz1 : w.heap.size < w1.heap.size := by (have h := hb1.size; (try simp at h); omega)); try (have hy1 : w.heap.size + 1 < w1.heap.size := by (have h := hb1.size; (try simp at h); omega)); try (have hx1 : w.heap.size + 1 + 1 < w1.heap.size := by (have h := hb1.size; (try simp at h); omega)); try (have hv1 : w.heap.size + 1 + 1 + 1 < w1.heap.size := by (have h := hb1.size; (try simp at h); omega)); try (have hp1 : w.heap.size < w1.heap.size + 1 := by omega)) | (go_at_call 56; refine (checked_any _ _ _).mono ?_; rintro e w1 ⟨rfl, hb1⟩; obtain ⟨hc1, hf1⟩ := bcell hb1; try (have hz1 : w.heap.size < w1.heap.size := by (have h := hb1.size; (try simp at h); omega)); try (have hy1 : w.heap.size + 1 < w1.heap.size := by (have h := hb1.size; (try simp at h); omega)); try (have hx1 : w.heap.size + 1 + 1 < w1.heap.size := by (have h := hb1.size; (try simp at h); omega)); try (have hv1 : w.heap.size + 1 + 1 + 1 < w1.heap.size := by (have h := hb1.size; (try simp at h); omega)); try (have hp1 : w.heap.size < w1.heap.size + 1 := by omega)))
    refine bodyPost_ret (v := .tuple #[.agg #[.int .i64 (0), .int .i64 (0)], .int .i64 (2)]) (by simp [results, Try.results30, go_sem, *]) rfl ⟨by simp [ffT, h1, h2, h3], ?_⟩
    repeat (first | exact Below.refl _ _ | refine bw_drew ?_ | refine bw_drewN ?_ _ | refine bw_set ?_ (by simp; try omega) _ | refine bw_alloc ?_ _ | refine bw_trans ?_ (by assumption) | assumption)
  obtain ⟨c1, c2⟩ := isTh_true.1 h3
  obtain ⟨pm1, pm2⟩ := mul_bd (a := t) (b := s) (A := 100000) (B := 100000) (by omega) (by omega) (by omega) (by omega)
  go_enter Try.func30, Try.ntmps30
  go_wp2_with (first | (go_at_call 54; refine (isFocal_is (by assumption) _).mono ?_; rintro e w1 ⟨rfl, rfl⟩) | (go_at_call 55; refine (isThrow_is (by assumption) _).mono ?_; rintro e w1 ⟨rfl, rfl⟩) | (go_at_call 49; refine (lowest_any _ _ _ ⟨by omega, by omega⟩ ⟨by omega, by omega⟩).mono ?_; rintro e w1 ⟨rfl, hb1⟩; obtain ⟨hc1, hf1⟩ := bcell hb1; try (have hz1 : w.heap.size < w1.heap.size := by (have h := hb1.size; (try simp at h); omega)); try (have hy1 : w.heap.size + 1 < w1.heap.size := by (have h := hb1.size; (try simp at h); omega)); try (have hx1 : w.heap.size + 1 + 1 < w1.heap.size := by (have h := hb1.size; (try simp at h); omega)); try (have hv1 : w.heap.size + 1 + 1 + 1 < w1.heap.size := by (have h := hb1.size; (try simp at h); omega)); try (have hp1 : w.heap.size < w1.heap.size + 1 := by omega)) | (go_at_call 56; refine (checked_any _ _ _).mono ?_; rintro e w1 ⟨rfl, hb1⟩; obtain ⟨hc1, hf1⟩ := bcell hb1; try (have hz1 : w.heap.size < w1.heap.size := by (have h := hb1.size; (try simp at h); omega)); try (have hy1 : w.heap.size + 1 < w1.heap.size := by (have h := hb1.size; (try simp at h); omega)); try (have hx1 : w.heap.size + 1 + 1 < w1.heap.size := by (have h := hb1.size; (try simp at h); omega)); try (have hv1 : w.heap.size + 1 + 1 + 1 < w1.heap.size := by (have h := hb1.size; (try simp at h); omega)); try (have hp1 : w.heap.size < w1.heap.size + 1 := by omega)))
  refine bodyPost_ret (v := .tuple #[.agg #[.int .i64 (chN (lowNum (t * s) (s + c)) (lowDen (t * s) (s + c))), .int .i64 (chD (lowNum (t * s) (s + c)) (lowDen (t * s) (s + c)))], .int .i64 (chC (lowNum (t * s) (s + c)) (lowDen (t * s) (s + c)))]) (by simp [results, Try.results30, go_sem, *]) rfl ⟨by simp [ffT, fullT, chT, h1, h2, h3], ?_⟩
  repeat (first | exact Below.refl _ _ | refine bw_drew ?_ | refine bw_drewN ?_ _ | refine bw_set ?_ (by simp; try omega) _ | refine bw_alloc ?_ _ | refine bw_trans ?_ (by assumption) | assumption)

set_option maxHeartbeats 400000 in
theorem jl_any (a b : Int) (w : World) (ha : 1 ≤ a ∧ a ≤ 2000) (hb : 1 ≤ b ∧ b ≤ 2000) :
    Calls Try.prog 58 #[.int .i64 a, .int .i64 b] w fun e w' => e = .returned (.agg #[.int .i64 (lowNum (a * b) (a + b)), .int .i64 (lowDen (a * b) (a + b))]) ∧ Below w.heap.size w w' := by
  obtain ⟨a1, a2⟩ := ha
  obtain ⟨b1, b2⟩ := hb
  obtain ⟨pm1, pm2⟩ := mul_bd (a := a) (b := b) (A := 2000) (B := 2000) (by omega) (by omega) (by omega) (by omega)
  go_enter Try.func58, Try.ntmps58
  go_wp2_with (first | (go_at_call 49; refine (lowest_any _ _ _ ⟨by omega, by omega⟩ ⟨by omega, by omega⟩).mono ?_; rintro e w1 ⟨rfl, hb1⟩; obtain ⟨hc1, hf1⟩ := bcell hb1; try (have hz1 : w.heap.size < w1.heap.size := by (have h := hb1.size; (try simp at h); omega)); try (have hy1 : w.heap.size + 1 < w1.heap.size := by (have h := hb1.size; (try simp at h); omega)); try (have hx1 : w.heap.size + 1 + 1 < w1.heap.size := by (have h := hb1.size; (try simp at h); omega)); try (have hv1 : w.heap.size + 1 + 1 + 1 < w1.heap.size := by (have h := hb1.size; (try simp at h); omega)); try (have hp1 : w.heap.size < w1.heap.size + 1 := by omega)))
  refine bodyPost_ret (v := .agg #[.int .i64 (lowNum (a * b) (a + b)), .int .i64 (lowDen (a * b) (a + b))]) (by simp [results, Try.results58, go_sem, *]) rfl ⟨rfl, ?_⟩
  repeat (first | exact Below.refl _ _ | refine bw_drew ?_ | refine bw_drewN ?_ _ | refine bw_set ?_ (by simp; try omega) _ | refine bw_alloc ?_ _ | refine bw_trans ?_ (by assumption) | assumption)

set_option maxHeartbeats 400000 in
theorem joinLenses_any (a b : Int) (w : World) :
    Calls Try.prog 34 #[.int .i64 a, .int .i64 b] w fun e w' => e = .returned (.tuple #[.agg #[.int .i64 (jlT a b).1, .int .i64 (jlT a b).2.1], .int .i64 (jlT a b).2.2]) ∧ Below w.heap.size w w' := by
  cases h1 : isFo a
  · go_enter Try.func34, Try.ntmps34
    go_wp2_with (first | (go_at_call 54; refine (isFocal_is (by assumption) _).mono ?_; rintro e w1 ⟨rfl, rfl⟩) | (go_at_call 55; refine (isThrow_is (by assumption) _).mono ?_; rintro e w1 ⟨rfl, rfl⟩) | (go_at_call 58; refine (jl_any _ _ _ ⟨by omega, by omega⟩ ⟨by omega, by omega⟩).mono ?_; rintro e w1 ⟨rfl, hb1⟩; obtain ⟨hc1, hf1⟩ := bcell hb1; try (have hz1 : w.heap.size < w1.heap.size := by (have h := hb1.size; (try simp at h); omega)); try (have hy1 : w.heap.size + 1 < w1.heap.size := by (have h := hb1.size; (try simp at h); omega)); try (have hx1 : w.heap.size + 1 + 1 < w1.heap.size := by (have h := hb1.size; (try simp at h); omega)); try (have hv1 : w.heap.size + 1 + 1 + 1 < w1.heap.size := by (have h := hb1.size; (try simp at h); omega)); try (have hp1 : w.heap.size < w1.heap.size + 1 := by omega)) | (go_at_call 56; refine (checked_any _ _ _).mono ?_; rintro e w1 ⟨rfl, hb1⟩; obtain ⟨hc1, hf1⟩ := bcell hb1; try (have hz1 : w.heap.size < w1.heap.size := by (have h := hb1.size; (try simp at h); omega)); try (have hy1 : w.heap.size + 1 < w1.heap.size := by (have h := hb1.size; (try simp at h); omega)); try (have hx1 : w.heap.size + 1 + 1 < w1.heap.size := by (have h := hb1.size; (try simp at h); omega)); try (have hv1 : w.heap.size + 1 + 1 + 1 < w1.heap.size := by (have h := hb1.size; (try simp at h); omega)); try (have hp1 : w.heap.size < w1.heap.size + 1 := by omega)))
    refine bodyPost_ret (v := .tuple #[.agg #[.int .i64 (0), .int .i64 (0)], .int .i64 (2)]) (by simp [results, Try.results34, go_sem, *]) rfl ⟨by simp [jlT, h1], ?_⟩
    repeat (first | exact Below.refl _ _ | refine bw_drew ?_ | refine bw_drewN ?_ _ | refine bw_set ?_ (by simp; try omega) _ | refine bw_alloc ?_ _ | refine bw_trans ?_ (by assumption) | assumption)
  obtain ⟨a1, a2⟩ := isFo_true.1 h1
  cases h2 : isFo b
  · go_enter Try.func34, Try.ntmps34
    go_wp2_with (first | (go_at_call 54; refine (isFocal_is (by assumption) _).mono ?_; rintro e w1 ⟨rfl, rfl⟩) | (go_at_call 55; refine (isThrow_is (by assumption) _).mono ?_; rintro e w1 ⟨rfl, rfl⟩) | (go_at_call 58; refine (jl_any _ _ _ ⟨by omega, by omega⟩ ⟨by omega, by omega⟩).mono ?_; rintro e w1 ⟨rfl, hb1⟩; obtain ⟨hc1, hf1⟩ := bcell hb1; try (have hz1 : w.heap.size < w1.heap.size := by (have h := hb1.size; (try simp at h); omega)); try (have hy1 : w.heap.size + 1 < w1.heap.size := by (have h := hb1.size; (try simp at h); omega)); try (have hx1 : w.heap.size + 1 + 1 < w1.heap.size := by (have h := hb1.size; (try simp at h); omega)); try (have hv1 : w.heap.size + 1 + 1 + 1 < w1.heap.size := by (have h := hb1.size; (try simp at h); omega)); try (have hp1 : w.heap.size < w1.heap.size + 1 := by omega)) | (go_at_call 56; refine (checked_any _ _ _).mono ?_; rintro e w1 ⟨rfl, hb1⟩; obtain ⟨hc1, hf1⟩ := bcell hb1; try (have hz1 : w.heap.size < w1.heap.size := by (have h := hb1.size; (try simp at h); omega)); try (have hy1 : w.heap.size + 1 < w1.heap.size := by (have h := hb1.size; (try simp at h); omega)); try (have hx1 : w.heap.size + 1 + 1 < w1.heap.size := by (have h := hb1.size; (try simp at h); omega)); try (have hv1 : w.heap.size + 1 + 1 + 1 < w1.heap.size := by (have h := hb1.size; (try simp at h); omega)); try (have hp1 : w.heap.size < w1.heap.size + 1 := by omega)))
    refine bodyPost_ret (v := .tuple #[.agg #[.int .i64 (0), .int .i64 (0)], .int .i64 (2)]) (by simp [results, Try.results34, go_sem, *]) rfl ⟨by simp [jlT, h1, h2], ?_⟩
    repeat (first | exact Below.refl _ _ | refine bw_drew ?_ | refine bw_drewN ?_ _ | refine bw_set ?_ (by simp; try omega) _ | refine bw_alloc ?_ _ | refine bw_trans ?_ (by assumption) | assumption)
  obtain ⟨b1, b2⟩ := isFo_true.1 h2
  go_enter Try.func34, Try.ntmps34
  go_wp2_with (first | (go_at_call 54; refine (isFocal_is (by assumption) _).mono ?_; rintro e w1 ⟨rfl, rfl⟩) | (go_at_call 55; refine (isThrow_is (by assumption) _).mono ?_; rintro e w1 ⟨rfl, rfl⟩) | (go_at_call 58; refine (jl_any _ _ _ ⟨by omega, by omega⟩ ⟨by omega, by omega⟩).mono ?_; rintro e w1 ⟨rfl, hb1⟩; obtain ⟨hc1, hf1⟩ := bcell hb1; try (have hz1 : w.heap.size < w1.heap.size := by (have h := hb1.size; (try simp at h); omega)); try (have hy1 : w.heap.size + 1 < w1.heap.size := by (have h := hb1.size; (try simp at h); omega)); try (have hx1 : w.heap.size + 1 + 1 < w1.heap.size := by (have h := hb1.size; (try simp at h); omega)); try (have hv1 : w.heap.size + 1 + 1 + 1 < w1.heap.size := by (have h := hb1.size; (try simp at h); omega)); try (have hp1 : w.heap.size < w1.heap.size + 1 := by omega)) | (go_at_call 56; refine (checked_any _ _ _).mono ?_; rintro e w1 ⟨rfl, hb1⟩; obtain ⟨hc1, hf1⟩ := bcell hb1; try (have hz1 : w.heap.size < w1.heap.size := by (have h := hb1.size; (try simp at h); omega)); try (have hy1 : w.heap.size + 1 < w1.heap.size := by (have h := hb1.size; (try simp at h); omega)); try (have hx1 : w.heap.size + 1 + 1 < w1.heap.size := by (have h := hb1.size; (try simp at h); omega)); try (have hv1 : w.heap.size + 1 + 1 + 1 < w1.heap.size := by (have h := hb1.size; (try simp at h); omega)); try (have hp1 : w.heap.size < w1.heap.size + 1 := by omega)))
  refine bodyPost_ret (v := .tuple #[.agg #[.int .i64 (chN (lowNum (a * b) (a + b)) (lowDen (a * b) (a + b))), .int .i64 (chD (lowNum (a * b) (a + b)) (lowDen (a * b) (a + b)))], .int .i64 (chC (lowNum (a * b) (a + b)) (lowDen (a * b) (a + b)))]) (by simp [results, Try.results34, go_sem, *]) rfl ⟨by simp [jlT, fullT, chT, h1, h2], ?_⟩
  repeat (first | exact Below.refl _ _ | refine bw_drew ?_ | refine bw_drewN ?_ _ | refine bw_set ?_ (by simp; try omega) _ | refine bw_alloc ?_ _ | refine bw_trans ?_ (by assumption) | assumption)

set_option maxHeartbeats 400000 in
theorem throwFor_any (f s c : Int) (w : World) :
    Calls Try.prog 31 #[.int .i64 f, .int .i64 s, .int .i64 c] w fun e w' => e = .returned (.tuple #[.agg #[.int .i64 (tfT f s c).1, .int .i64 (tfT f s c).2.1], .int .i64 (tfT f s c).2.2]) ∧ Below w.heap.size w w' := by
  cases h1 : isFo f
  · go_enter Try.func31, Try.ntmps31
    go_wp2_with (first | (go_at_call 54; refine (isFocal_is (by assumption) _).mono ?_; rintro e w1 ⟨rfl, rfl⟩) | (go_at_call 55; refine (isThrow_is (by assumption) _).mono ?_; rintro e w1 ⟨rfl, rfl⟩) | (go_at_call 49; refine (lowest_any _ _ _ ⟨by omega, by omega⟩ ⟨by omega, by omega⟩).mono ?_; rintro e w1 ⟨rfl, hb1⟩; obtain ⟨hc1, hf1⟩ := bcell hb1; try (have hz1 : w.heap.size < w1.heap.size := by (have h := hb1.size; (try simp at h); omega)); try (have hy1 : w.heap.size + 1 < w1.heap.size := by (have h := hb1.size; (try simp at h); omega)); try (have hx1 : w.heap.size + 1 + 1 < w1.heap.size := by (have h := hb1.size; (try simp at h); omega)); try (have hv1 : w.heap.size + 1 + 1 + 1 < w1.heap.size := by (have h := hb1.size; (try simp at h); omega)); try (have hp1 : w.heap.size < w1.heap.size + 1 := by omega)) | (go_at_call 56; refine (checked_any _ _ _).mono ?_; rintro e w1 ⟨rfl, hb1⟩; obtain ⟨hc1, hf1⟩ := bcell hb1; try (have hz1 : w.heap.size < w1.heap.size := by (have h := hb1.size; (try simp at h); omega)); try (have hy1 : w.heap.size + 1 < w1.heap.size := by (have h := hb1.size; (try simp at h); omega)); try (have hx1 : w.heap.size + 1 + 1 < w1.heap.size := by (have h := hb1.size; (try simp at h); omega)); try (have hv1 : w.heap.size + 1 + 1 + 1 < w1.heap.size := by (have h := hb1.size; (try simp at h); omega)); try (have hp1 : w.heap.size < w1.heap.size + 1 := by omega)))
    refine bodyPost_ret (v := .tuple #[.agg #[.int .i64 (0), .int .i64 (0)], .int .i64 (2)]) (by simp [results, Try.results31, go_sem, *]) rfl ⟨by simp [tfT, h1], ?_⟩
    repeat (first | exact Below.refl _ _ | refine bw_drew ?_ | refine bw_drewN ?_ _ | refine bw_set ?_ (by simp; try omega) _ | refine bw_alloc ?_ _ | refine bw_trans ?_ (by assumption) | assumption)
  obtain ⟨f1, f2⟩ := isFo_true.1 h1
  cases h2 : isTh s
  · go_enter Try.func31, Try.ntmps31
    go_wp2_with (first | (go_at_call 54; refine (isFocal_is (by assumption) _).mono ?_; rintro e w1 ⟨rfl, rfl⟩) | (go_at_call 55; refine (isThrow_is (by assumption) _).mono ?_; rintro e w1 ⟨rfl, rfl⟩) | (go_at_call 49; refine (lowest_any _ _ _ ⟨by omega, by omega⟩ ⟨by omega, by omega⟩).mono ?_; rintro e w1 ⟨rfl, hb1⟩; obtain ⟨hc1, hf1⟩ := bcell hb1; try (have hz1 : w.heap.size < w1.heap.size := by (have h := hb1.size; (try simp at h); omega)); try (have hy1 : w.heap.size + 1 < w1.heap.size := by (have h := hb1.size; (try simp at h); omega)); try (have hx1 : w.heap.size + 1 + 1 < w1.heap.size := by (have h := hb1.size; (try simp at h); omega)); try (have hv1 : w.heap.size + 1 + 1 + 1 < w1.heap.size := by (have h := hb1.size; (try simp at h); omega)); try (have hp1 : w.heap.size < w1.heap.size + 1 := by omega)) | (go_at_call 56; refine (checked_any _ _ _).mono ?_; rintro e w1 ⟨rfl, hb1⟩; obtain ⟨hc1, hf1⟩ := bcell hb1; try (have hz1 : w.heap.size < w1.heap.size := by (have h := hb1.size; (try simp at h); omega)); try (have hy1 : w.heap.size + 1 < w1.heap.size := by (have h := hb1.size; (try simp at h); omega)); try (have hx1 : w.heap.size + 1 + 1 < w1.heap.size := by (have h := hb1.size; (try simp at h); omega)); try (have hv1 : w.heap.size + 1 + 1 + 1 < w1.heap.size := by (have h := hb1.size; (try simp at h); omega)); try (have hp1 : w.heap.size < w1.heap.size + 1 := by omega)))
    refine bodyPost_ret (v := .tuple #[.agg #[.int .i64 (0), .int .i64 (0)], .int .i64 (2)]) (by simp [results, Try.results31, go_sem, *]) rfl ⟨by simp [tfT, h1, h2], ?_⟩
    repeat (first | exact Below.refl _ _ | refine bw_drew ?_ | refine bw_drewN ?_ _ | refine bw_set ?_ (by simp; try omega) _ | refine bw_alloc ?_ _ | refine bw_trans ?_ (by assumption) | assumption)
  obtain ⟨s1, s2⟩ := isTh_true.1 h2
  cases h3 : isTh c
  · go_enter Try.func31, Try.ntmps31
    go_wp2_with (first | (go_at_call 54; refine (isFocal_is (by assumption) _).mono ?_; rintro e w1 ⟨rfl, rfl⟩) | (go_at_call 55; refine (isThrow_is (by assumption) _).mono ?_; rintro e w1 ⟨rfl, rfl⟩) | (go_at_call 49; refine (lowest_any _ _ _ ⟨by omega, by omega⟩ ⟨by omega, by omega⟩).mono ?_; rintro e w1 ⟨rfl, hb1⟩; obtain ⟨hc1, hf1⟩ := bcell hb1; try (have hz1 : w.heap.size < w1.heap.size := by (have h := hb1.size; (try simp at h); omega)); try (have hy1 : w.heap.size + 1 < w1.heap.size := by (have h := hb1.size; (try simp at h); omega)); try (have hx1 : w.heap.size + 1 + 1 < w1.heap.size := by (have h := hb1.size; (try simp at h); omega)); try (have hv1 : w.heap.size + 1 + 1 + 1 < w1.heap.size := by (have h := hb1.size; (try simp at h); omega)); try (have hp1 : w.heap.size < w1.heap.size + 1 := by omega)) | (go_at_call 56; refine (checked_any _ _ _).mono ?_; rintro e w1 ⟨rfl, hb1⟩; obtain ⟨hc1, hf1⟩ := bcell hb1; try (have hz1 : w.heap.size < w1.heap.size := by (have h := hb1.size; (try simp at h); omega)); try (have hy1 : w.heap.size + 1 < w1.heap.size := by (have h := hb1.size; (try simp at h); omega)); try (have hx1 : w.heap.size + 1 + 1 < w1.heap.size := by (have h := hb1.size; (try simp at h); omega)); try (have hv1 : w.heap.size + 1 + 1 + 1 < w1.heap.size := by (have h := hb1.size; (try simp at h); omega)); try (have hp1 : w.heap.size < w1.heap.size + 1 := by omega)))
    refine bodyPost_ret (v := .tuple #[.agg #[.int .i64 (0), .int .i64 (0)], .int .i64 (2)]) (by simp [results, Try.results31, go_sem, *]) rfl ⟨by simp [tfT, h1, h2, h3], ?_⟩
    repeat (first | exact Below.refl _ _ | refine bw_drew ?_ | refine bw_drewN ?_ _ | refine bw_set ?_ (by simp; try omega) _ | refine bw_alloc ?_ _ | refine bw_trans ?_ (by assumption) | assumption)
  obtain ⟨c1, c2⟩ := isTh_true.1 h3
  obtain ⟨pm1, pm2⟩ := mul_bd (a := f) (b := s + c) (A := 2000) (B := 200000) (by omega) (by omega) (by omega) (by omega)
  go_enter Try.func31, Try.ntmps31
  go_wp2_with (first | (go_at_call 54; refine (isFocal_is (by assumption) _).mono ?_; rintro e w1 ⟨rfl, rfl⟩) | (go_at_call 55; refine (isThrow_is (by assumption) _).mono ?_; rintro e w1 ⟨rfl, rfl⟩) | (go_at_call 49; refine (lowest_any _ _ _ ⟨by omega, by omega⟩ ⟨by omega, by omega⟩).mono ?_; rintro e w1 ⟨rfl, hb1⟩; obtain ⟨hc1, hf1⟩ := bcell hb1; try (have hz1 : w.heap.size < w1.heap.size := by (have h := hb1.size; (try simp at h); omega)); try (have hy1 : w.heap.size + 1 < w1.heap.size := by (have h := hb1.size; (try simp at h); omega)); try (have hx1 : w.heap.size + 1 + 1 < w1.heap.size := by (have h := hb1.size; (try simp at h); omega)); try (have hv1 : w.heap.size + 1 + 1 + 1 < w1.heap.size := by (have h := hb1.size; (try simp at h); omega)); try (have hp1 : w.heap.size < w1.heap.size + 1 := by omega)) | (go_at_call 56; refine (checked_any _ _ _).mono ?_; rintro e w1 ⟨rfl, hb1⟩; obtain ⟨hc1, hf1⟩ := bcell hb1; try (have hz1 : w.heap.size < w1.heap.size := by (have h := hb1.size; (try simp at h); omega)); try (have hy1 : w.heap.size + 1 < w1.heap.size := by (have h := hb1.size; (try simp at h); omega)); try (have hx1 : w.heap.size + 1 + 1 < w1.heap.size := by (have h := hb1.size; (try simp at h); omega)); try (have hv1 : w.heap.size + 1 + 1 + 1 < w1.heap.size := by (have h := hb1.size; (try simp at h); omega)); try (have hp1 : w.heap.size < w1.heap.size + 1 := by omega)))
  refine bodyPost_ret (v := .tuple #[.agg #[.int .i64 (chN (lowNum (f * (s + c)) (s)) (lowDen (f * (s + c)) (s))), .int .i64 (chD (lowNum (f * (s + c)) (s)) (lowDen (f * (s + c)) (s)))], .int .i64 (chC (lowNum (f * (s + c)) (s)) (lowDen (f * (s + c)) (s)))]) (by simp [results, Try.results31, go_sem, *]) rfl ⟨by simp [tfT, fullT, chT, h1, h2, h3], ?_⟩
  repeat (first | exact Below.refl _ _ | refine bw_drew ?_ | refine bw_drewN ?_ _ | refine bw_set ?_ (by simp; try omega) _ | refine bw_alloc ?_ _ | refine bw_trans ?_ (by assumption) | assumption)

set_option maxHeartbeats 400000 in
theorem l10Sharp_any (f o : Int) (w : World) :
    Calls Try.prog 67 #[.int .i64 f, .int .i64 o] w fun e w' => e = .returned (.tuple #[.agg #[.int .i64 (imT f o).1, .int .i64 (imT f o).2.1], .int .i64 (imT f o).2.2]) ∧ Below w.heap.size w w' := by
  cases h1 : isFo f
  · go_enter Try.func67, Try.ntmps67
    go_wp2_with (first | (go_at_call 51; refine (l10Focal_is (by assumption) _).mono ?_; rintro e w1 ⟨rfl, rfl⟩) | (go_at_call 52; refine (l10Length_is (by assumption) _).mono ?_; rintro e w1 ⟨rfl, rfl⟩) | (go_at_call 57; refine (l02Full_any _ _ _ ⟨by omega, by omega⟩ ⟨by omega, by omega⟩).mono ?_; rintro e w1 ⟨rfl, hb1⟩; obtain ⟨hc1, hf1⟩ := bcell hb1; try (have hz1 : w.heap.size < w1.heap.size := by (have h := hb1.size; (try simp at h); omega)); try (have hy1 : w.heap.size + 1 < w1.heap.size := by (have h := hb1.size; (try simp at h); omega)); try (have hx1 : w.heap.size + 1 + 1 < w1.heap.size := by (have h := hb1.size; (try simp at h); omega)); try (have hv1 : w.heap.size + 1 + 1 + 1 < w1.heap.size := by (have h := hb1.size; (try simp at h); omega)); try (have hp1 : w.heap.size < w1.heap.size + 1 := by omega)))
    refine bodyPost_ret (v := .tuple #[.agg #[.int .i64 (0), .int .i64 (0)], .int .i64 (2)]) (by simp [results, Try.results67, go_sem, *]) rfl ⟨by simp [imT, h1], ?_⟩
    repeat (first | exact Below.refl _ _ | refine bw_drew ?_ | refine bw_drewN ?_ _ | refine bw_set ?_ (by simp; try omega) _ | refine bw_alloc ?_ _ | refine bw_trans ?_ (by assumption) | assumption)
  obtain ⟨f1, f2⟩ := isFo_true.1 h1
  cases h2 : isTh o
  · go_enter Try.func67, Try.ntmps67
    go_wp2_with (first | (go_at_call 51; refine (l10Focal_is (by assumption) _).mono ?_; rintro e w1 ⟨rfl, rfl⟩) | (go_at_call 52; refine (l10Length_is (by assumption) _).mono ?_; rintro e w1 ⟨rfl, rfl⟩) | (go_at_call 57; refine (l02Full_any _ _ _ ⟨by omega, by omega⟩ ⟨by omega, by omega⟩).mono ?_; rintro e w1 ⟨rfl, hb1⟩; obtain ⟨hc1, hf1⟩ := bcell hb1; try (have hz1 : w.heap.size < w1.heap.size := by (have h := hb1.size; (try simp at h); omega)); try (have hy1 : w.heap.size + 1 < w1.heap.size := by (have h := hb1.size; (try simp at h); omega)); try (have hx1 : w.heap.size + 1 + 1 < w1.heap.size := by (have h := hb1.size; (try simp at h); omega)); try (have hv1 : w.heap.size + 1 + 1 + 1 < w1.heap.size := by (have h := hb1.size; (try simp at h); omega)); try (have hp1 : w.heap.size < w1.heap.size + 1 := by omega)))
    refine bodyPost_ret (v := .tuple #[.agg #[.int .i64 (0), .int .i64 (0)], .int .i64 (2)]) (by simp [results, Try.results67, go_sem, *]) rfl ⟨by simp [imT, h1, h2], ?_⟩
    repeat (first | exact Below.refl _ _ | refine bw_drew ?_ | refine bw_drewN ?_ _ | refine bw_set ?_ (by simp; try omega) _ | refine bw_alloc ?_ _ | refine bw_trans ?_ (by assumption) | assumption)
  obtain ⟨o1, o2⟩ := isTh_true.1 h2
  by_cases hs : o ≤ f
  · go_enter Try.func67, Try.ntmps67
    go_wp2_with (first | (go_at_call 51; refine (l10Focal_is (by assumption) _).mono ?_; rintro e w1 ⟨rfl, rfl⟩) | (go_at_call 52; refine (l10Length_is (by assumption) _).mono ?_; rintro e w1 ⟨rfl, rfl⟩) | (go_at_call 57; refine (l02Full_any _ _ _ ⟨by omega, by omega⟩ ⟨by omega, by omega⟩).mono ?_; rintro e w1 ⟨rfl, hb1⟩; obtain ⟨hc1, hf1⟩ := bcell hb1; try (have hz1 : w.heap.size < w1.heap.size := by (have h := hb1.size; (try simp at h); omega)); try (have hy1 : w.heap.size + 1 < w1.heap.size := by (have h := hb1.size; (try simp at h); omega)); try (have hx1 : w.heap.size + 1 + 1 < w1.heap.size := by (have h := hb1.size; (try simp at h); omega)); try (have hv1 : w.heap.size + 1 + 1 + 1 < w1.heap.size := by (have h := hb1.size; (try simp at h); omega)); try (have hp1 : w.heap.size < w1.heap.size + 1 := by omega)))
    refine bodyPost_ret (v := .tuple #[.agg #[.int .i64 (0), .int .i64 (0)], .int .i64 (6)]) (by simp [results, Try.results67, go_sem, *]) rfl ⟨by simp [imT, h1, h2, hs], ?_⟩
    repeat (first | exact Below.refl _ _ | refine bw_drew ?_ | refine bw_drewN ?_ _ | refine bw_set ?_ (by simp; try omega) _ | refine bw_alloc ?_ _ | refine bw_trans ?_ (by assumption) | assumption)
  obtain ⟨pm1, pm2⟩ := mul_bd (a := f) (b := o) (A := 2000) (B := 100000) (by omega) (by omega) (by omega) (by omega)
  go_enter Try.func67, Try.ntmps67
  go_wp2_with (first | (go_at_call 51; refine (l10Focal_is (by assumption) _).mono ?_; rintro e w1 ⟨rfl, rfl⟩) | (go_at_call 52; refine (l10Length_is (by assumption) _).mono ?_; rintro e w1 ⟨rfl, rfl⟩) | (go_at_call 57; refine (l02Full_any _ _ _ ⟨by omega, by omega⟩ ⟨by omega, by omega⟩).mono ?_; rintro e w1 ⟨rfl, hb1⟩; obtain ⟨hc1, hf1⟩ := bcell hb1; try (have hz1 : w.heap.size < w1.heap.size := by (have h := hb1.size; (try simp at h); omega)); try (have hy1 : w.heap.size + 1 < w1.heap.size := by (have h := hb1.size; (try simp at h); omega)); try (have hx1 : w.heap.size + 1 + 1 < w1.heap.size := by (have h := hb1.size; (try simp at h); omega)); try (have hv1 : w.heap.size + 1 + 1 + 1 < w1.heap.size := by (have h := hb1.size; (try simp at h); omega)); try (have hp1 : w.heap.size < w1.heap.size + 1 := by omega)))
  refine bodyPost_ret (v := .tuple #[.agg #[.int .i64 (chN (lowNum (f * o) (o - f)) (lowDen (f * o) (o - f))), .int .i64 (chD (lowNum (f * o) (o - f)) (lowDen (f * o) (o - f)))], .int .i64 (chC (lowNum (f * o) (o - f)) (lowDen (f * o) (o - f)))]) (by simp [results, Try.results67, go_sem, *]) rfl ⟨by simp [imT, fullT, chT, h1, h2, show ¬ (o ≤ f) by omega], ?_⟩
  repeat (first | exact Below.refl _ _ | refine bw_drew ?_ | refine bw_drewN ?_ _ | refine bw_set ?_ (by simp; try omega) _ | refine bw_alloc ?_ _ | refine bw_trans ?_ (by assumption) | assumption)

set_option maxHeartbeats 400000 in
theorem sEnlargementOf_any (f t : Int) (w : World) :
    Calls Try.prog 23 #[.int .i64 f, .int .i64 t] w fun e w' => e = .returned (.tuple #[.agg #[.int .i64 (enT f t).1, .int .i64 (enT f t).2.1], .int .i64 (enT f t).2.2]) ∧ Below w.heap.size w w' := by
  cases h1 : isFo f
  · go_enter Try.func23, Try.ntmps23
    go_wp2_with (first | (go_at_call 51; refine (l10Focal_is (by assumption) _).mono ?_; rintro e w1 ⟨rfl, rfl⟩) | (go_at_call 52; refine (l10Length_is (by assumption) _).mono ?_; rintro e w1 ⟨rfl, rfl⟩) | (go_at_call 53; refine (l10Throw_is _ _ _).mono ?_; rintro e w1 ⟨rfl, rfl⟩) | (go_at_call 47; refine (l02Make_any _ _ _ ⟨by omega, by omega⟩ ⟨by omega, by omega⟩).mono ?_; rintro e w1 ⟨rfl, hb1⟩; obtain ⟨hc1, hf1⟩ := bcell hb1; try (have hz1 : w.heap.size < w1.heap.size := by (have h := hb1.size; (try simp at h); omega)); try (have hy1 : w.heap.size + 1 < w1.heap.size := by (have h := hb1.size; (try simp at h); omega)); try (have hx1 : w.heap.size + 1 + 1 < w1.heap.size := by (have h := hb1.size; (try simp at h); omega)); try (have hv1 : w.heap.size + 1 + 1 + 1 < w1.heap.size := by (have h := hb1.size; (try simp at h); omega)); try (have hp1 : w.heap.size < w1.heap.size + 1 := by omega)))
    refine bodyPost_ret (v := .tuple #[.agg #[.int .i64 (0), .int .i64 (0)], .int .i64 (2)]) (by simp [results, Try.results23, go_sem, *]) rfl ⟨by simp [enT, h1], ?_⟩
    repeat (first | exact Below.refl _ _ | refine bw_drew ?_ | refine bw_drewN ?_ _ | refine bw_set ?_ (by simp; try omega) _ | refine bw_alloc ?_ _ | refine bw_trans ?_ (by assumption) | assumption)
  obtain ⟨f1, f2⟩ := isFo_true.1 h1
  cases h2 : isTh t
  · go_enter Try.func23, Try.ntmps23
    go_wp2_with (first | (go_at_call 51; refine (l10Focal_is (by assumption) _).mono ?_; rintro e w1 ⟨rfl, rfl⟩) | (go_at_call 52; refine (l10Length_is (by assumption) _).mono ?_; rintro e w1 ⟨rfl, rfl⟩) | (go_at_call 53; refine (l10Throw_is _ _ _).mono ?_; rintro e w1 ⟨rfl, rfl⟩) | (go_at_call 47; refine (l02Make_any _ _ _ ⟨by omega, by omega⟩ ⟨by omega, by omega⟩).mono ?_; rintro e w1 ⟨rfl, hb1⟩; obtain ⟨hc1, hf1⟩ := bcell hb1; try (have hz1 : w.heap.size < w1.heap.size := by (have h := hb1.size; (try simp at h); omega)); try (have hy1 : w.heap.size + 1 < w1.heap.size := by (have h := hb1.size; (try simp at h); omega)); try (have hx1 : w.heap.size + 1 + 1 < w1.heap.size := by (have h := hb1.size; (try simp at h); omega)); try (have hv1 : w.heap.size + 1 + 1 + 1 < w1.heap.size := by (have h := hb1.size; (try simp at h); omega)); try (have hp1 : w.heap.size < w1.heap.size + 1 := by omega)))
    refine bodyPost_ret (v := .tuple #[.agg #[.int .i64 (0), .int .i64 (0)], .int .i64 (2)]) (by simp [results, Try.results23, go_sem, *]) rfl ⟨by simp [enT, h1, h2], ?_⟩
    repeat (first | exact Below.refl _ _ | refine bw_drew ?_ | refine bw_drewN ?_ _ | refine bw_set ?_ (by simp; try omega) _ | refine bw_alloc ?_ _ | refine bw_trans ?_ (by assumption) | assumption)
  obtain ⟨t1, t2⟩ := isTh_true.1 h2
  by_cases hs : t ≤ f
  · go_enter Try.func23, Try.ntmps23
    go_wp2_with (first | (go_at_call 51; refine (l10Focal_is (by assumption) _).mono ?_; rintro e w1 ⟨rfl, rfl⟩) | (go_at_call 52; refine (l10Length_is (by assumption) _).mono ?_; rintro e w1 ⟨rfl, rfl⟩) | (go_at_call 53; refine (l10Throw_is _ _ _).mono ?_; rintro e w1 ⟨rfl, rfl⟩) | (go_at_call 47; refine (l02Make_any _ _ _ ⟨by omega, by omega⟩ ⟨by omega, by omega⟩).mono ?_; rintro e w1 ⟨rfl, hb1⟩; obtain ⟨hc1, hf1⟩ := bcell hb1; try (have hz1 : w.heap.size < w1.heap.size := by (have h := hb1.size; (try simp at h); omega)); try (have hy1 : w.heap.size + 1 < w1.heap.size := by (have h := hb1.size; (try simp at h); omega)); try (have hx1 : w.heap.size + 1 + 1 < w1.heap.size := by (have h := hb1.size; (try simp at h); omega)); try (have hv1 : w.heap.size + 1 + 1 + 1 < w1.heap.size := by (have h := hb1.size; (try simp at h); omega)); try (have hp1 : w.heap.size < w1.heap.size + 1 := by omega)))
    refine bodyPost_ret (v := .tuple #[.agg #[.int .i64 (0), .int .i64 (0)], .int .i64 (6)]) (by simp [results, Try.results23, go_sem, *]) rfl ⟨by simp [enT, h1, h2, hs], ?_⟩
    repeat (first | exact Below.refl _ _ | refine bw_drew ?_ | refine bw_drewN ?_ _ | refine bw_set ?_ (by simp; try omega) _ | refine bw_alloc ?_ _ | refine bw_trans ?_ (by assumption) | assumption)
  go_enter Try.func23, Try.ntmps23
  go_wp2_with (first | (go_at_call 51; refine (l10Focal_is (by assumption) _).mono ?_; rintro e w1 ⟨rfl, rfl⟩) | (go_at_call 52; refine (l10Length_is (by assumption) _).mono ?_; rintro e w1 ⟨rfl, rfl⟩) | (go_at_call 53; refine (l10Throw_is _ _ _).mono ?_; rintro e w1 ⟨rfl, rfl⟩) | (go_at_call 47; refine (l02Make_any _ _ _ ⟨by omega, by omega⟩ ⟨by omega, by omega⟩).mono ?_; rintro e w1 ⟨rfl, hb1⟩; obtain ⟨hc1, hf1⟩ := bcell hb1; try (have hz1 : w.heap.size < w1.heap.size := by (have h := hb1.size; (try simp at h); omega)); try (have hy1 : w.heap.size + 1 < w1.heap.size := by (have h := hb1.size; (try simp at h); omega)); try (have hx1 : w.heap.size + 1 + 1 < w1.heap.size := by (have h := hb1.size; (try simp at h); omega)); try (have hv1 : w.heap.size + 1 + 1 + 1 < w1.heap.size := by (have h := hb1.size; (try simp at h); omega)); try (have hp1 : w.heap.size < w1.heap.size + 1 := by omega)))
  refine bodyPost_ret (v := .tuple #[.agg #[.int .i64 (lowNum (t - f) f), .int .i64 (lowDen (t - f) f)], .int .i64 (0)]) (by simp [results, Try.results23, go_sem, *]) rfl ⟨by simp [enT, h1, h2, show ¬ (t ≤ f) by omega], ?_⟩
  repeat (first | exact Below.refl _ _ | refine bw_drew ?_ | refine bw_drewN ?_ _ | refine bw_set ?_ (by simp; try omega) _ | refine bw_alloc ?_ _ | refine bw_trans ?_ (by assumption) | assumption)

set_option maxHeartbeats 400000 in
theorem sScreenSize_any (f t s : Int) (w : World) :
    Calls Try.prog 43 #[.int .i64 f, .int .i64 t, .int .i64 s] w fun e w' => e = .returned (.tuple #[.agg #[.int .i64 (scT f t s).1, .int .i64 (scT f t s).2.1], .int .i64 (scT f t s).2.2]) ∧ Below w.heap.size w w' := by
  cases h1 : isFo f
  · go_enter Try.func43, Try.ntmps43
    go_wp2_with (first | (go_at_call 51; refine (l10Focal_is (by assumption) _).mono ?_; rintro e w1 ⟨rfl, rfl⟩) | (go_at_call 52; refine (l10Length_is (by assumption) _).mono ?_; rintro e w1 ⟨rfl, rfl⟩) | (go_at_call 53; refine (l10Throw_is _ _ _).mono ?_; rintro e w1 ⟨rfl, rfl⟩) | (go_at_call 57; refine (l02Full_any _ _ _ ⟨by omega, by omega⟩ ⟨by omega, by omega⟩).mono ?_; rintro e w1 ⟨rfl, hb1⟩; obtain ⟨hc1, hf1⟩ := bcell hb1; try (have hz1 : w.heap.size < w1.heap.size := by (have h := hb1.size; (try simp at h); omega)); try (have hy1 : w.heap.size + 1 < w1.heap.size := by (have h := hb1.size; (try simp at h); omega)); try (have hx1 : w.heap.size + 1 + 1 < w1.heap.size := by (have h := hb1.size; (try simp at h); omega)); try (have hv1 : w.heap.size + 1 + 1 + 1 < w1.heap.size := by (have h := hb1.size; (try simp at h); omega)); try (have hp1 : w.heap.size < w1.heap.size + 1 := by omega)))
    refine bodyPost_ret (v := .tuple #[.agg #[.int .i64 (0), .int .i64 (0)], .int .i64 (2)]) (by simp [results, Try.results43, go_sem, *]) rfl ⟨by simp [scT, h1], ?_⟩
    repeat (first | exact Below.refl _ _ | refine bw_drew ?_ | refine bw_drewN ?_ _ | refine bw_set ?_ (by simp; try omega) _ | refine bw_alloc ?_ _ | refine bw_trans ?_ (by assumption) | assumption)
  obtain ⟨f1, f2⟩ := isFo_true.1 h1
  cases h2 : isTh t
  · go_enter Try.func43, Try.ntmps43
    go_wp2_with (first | (go_at_call 51; refine (l10Focal_is (by assumption) _).mono ?_; rintro e w1 ⟨rfl, rfl⟩) | (go_at_call 52; refine (l10Length_is (by assumption) _).mono ?_; rintro e w1 ⟨rfl, rfl⟩) | (go_at_call 53; refine (l10Throw_is _ _ _).mono ?_; rintro e w1 ⟨rfl, rfl⟩) | (go_at_call 57; refine (l02Full_any _ _ _ ⟨by omega, by omega⟩ ⟨by omega, by omega⟩).mono ?_; rintro e w1 ⟨rfl, hb1⟩; obtain ⟨hc1, hf1⟩ := bcell hb1; try (have hz1 : w.heap.size < w1.heap.size := by (have h := hb1.size; (try simp at h); omega)); try (have hy1 : w.heap.size + 1 < w1.heap.size := by (have h := hb1.size; (try simp at h); omega)); try (have hx1 : w.heap.size + 1 + 1 < w1.heap.size := by (have h := hb1.size; (try simp at h); omega)); try (have hv1 : w.heap.size + 1 + 1 + 1 < w1.heap.size := by (have h := hb1.size; (try simp at h); omega)); try (have hp1 : w.heap.size < w1.heap.size + 1 := by omega)))
    refine bodyPost_ret (v := .tuple #[.agg #[.int .i64 (0), .int .i64 (0)], .int .i64 (2)]) (by simp [results, Try.results43, go_sem, *]) rfl ⟨by simp [scT, h1, h2], ?_⟩
    repeat (first | exact Below.refl _ _ | refine bw_drew ?_ | refine bw_drewN ?_ _ | refine bw_set ?_ (by simp; try omega) _ | refine bw_alloc ?_ _ | refine bw_trans ?_ (by assumption) | assumption)
  obtain ⟨t1, t2⟩ := isTh_true.1 h2
  cases h3 : isTh s
  · go_enter Try.func43, Try.ntmps43
    go_wp2_with (first | (go_at_call 51; refine (l10Focal_is (by assumption) _).mono ?_; rintro e w1 ⟨rfl, rfl⟩) | (go_at_call 52; refine (l10Length_is (by assumption) _).mono ?_; rintro e w1 ⟨rfl, rfl⟩) | (go_at_call 53; refine (l10Throw_is _ _ _).mono ?_; rintro e w1 ⟨rfl, rfl⟩) | (go_at_call 57; refine (l02Full_any _ _ _ ⟨by omega, by omega⟩ ⟨by omega, by omega⟩).mono ?_; rintro e w1 ⟨rfl, hb1⟩; obtain ⟨hc1, hf1⟩ := bcell hb1; try (have hz1 : w.heap.size < w1.heap.size := by (have h := hb1.size; (try simp at h); omega)); try (have hy1 : w.heap.size + 1 < w1.heap.size := by (have h := hb1.size; (try simp at h); omega)); try (have hx1 : w.heap.size + 1 + 1 < w1.heap.size := by (have h := hb1.size; (try simp at h); omega)); try (have hv1 : w.heap.size + 1 + 1 + 1 < w1.heap.size := by (have h := hb1.size; (try simp at h); omega)); try (have hp1 : w.heap.size < w1.heap.size + 1 := by omega)))
    refine bodyPost_ret (v := .tuple #[.agg #[.int .i64 (0), .int .i64 (0)], .int .i64 (2)]) (by simp [results, Try.results43, go_sem, *]) rfl ⟨by simp [scT, h1, h2, h3], ?_⟩
    repeat (first | exact Below.refl _ _ | refine bw_drew ?_ | refine bw_drewN ?_ _ | refine bw_set ?_ (by simp; try omega) _ | refine bw_alloc ?_ _ | refine bw_trans ?_ (by assumption) | assumption)
  obtain ⟨s1, s2⟩ := isTh_true.1 h3
  by_cases hs : t ≤ f
  · go_enter Try.func43, Try.ntmps43
    go_wp2_with (first | (go_at_call 51; refine (l10Focal_is (by assumption) _).mono ?_; rintro e w1 ⟨rfl, rfl⟩) | (go_at_call 52; refine (l10Length_is (by assumption) _).mono ?_; rintro e w1 ⟨rfl, rfl⟩) | (go_at_call 53; refine (l10Throw_is _ _ _).mono ?_; rintro e w1 ⟨rfl, rfl⟩) | (go_at_call 57; refine (l02Full_any _ _ _ ⟨by omega, by omega⟩ ⟨by omega, by omega⟩).mono ?_; rintro e w1 ⟨rfl, hb1⟩; obtain ⟨hc1, hf1⟩ := bcell hb1; try (have hz1 : w.heap.size < w1.heap.size := by (have h := hb1.size; (try simp at h); omega)); try (have hy1 : w.heap.size + 1 < w1.heap.size := by (have h := hb1.size; (try simp at h); omega)); try (have hx1 : w.heap.size + 1 + 1 < w1.heap.size := by (have h := hb1.size; (try simp at h); omega)); try (have hv1 : w.heap.size + 1 + 1 + 1 < w1.heap.size := by (have h := hb1.size; (try simp at h); omega)); try (have hp1 : w.heap.size < w1.heap.size + 1 := by omega)))
    refine bodyPost_ret (v := .tuple #[.agg #[.int .i64 (0), .int .i64 (0)], .int .i64 (6)]) (by simp [results, Try.results43, go_sem, *]) rfl ⟨by simp [scT, h1, h2, h3, hs], ?_⟩
    repeat (first | exact Below.refl _ _ | refine bw_drew ?_ | refine bw_drewN ?_ _ | refine bw_set ?_ (by simp; try omega) _ | refine bw_alloc ?_ _ | refine bw_trans ?_ (by assumption) | assumption)
  obtain ⟨pm1, pm2⟩ := mul_bd (a := s) (b := t - f) (A := 100000) (B := 100000) (by omega) (by omega) (by omega) (by omega)
  go_enter Try.func43, Try.ntmps43
  go_wp2_with (first | (go_at_call 51; refine (l10Focal_is (by assumption) _).mono ?_; rintro e w1 ⟨rfl, rfl⟩) | (go_at_call 52; refine (l10Length_is (by assumption) _).mono ?_; rintro e w1 ⟨rfl, rfl⟩) | (go_at_call 53; refine (l10Throw_is _ _ _).mono ?_; rintro e w1 ⟨rfl, rfl⟩) | (go_at_call 57; refine (l02Full_any _ _ _ ⟨by omega, by omega⟩ ⟨by omega, by omega⟩).mono ?_; rintro e w1 ⟨rfl, hb1⟩; obtain ⟨hc1, hf1⟩ := bcell hb1; try (have hz1 : w.heap.size < w1.heap.size := by (have h := hb1.size; (try simp at h); omega)); try (have hy1 : w.heap.size + 1 < w1.heap.size := by (have h := hb1.size; (try simp at h); omega)); try (have hx1 : w.heap.size + 1 + 1 < w1.heap.size := by (have h := hb1.size; (try simp at h); omega)); try (have hv1 : w.heap.size + 1 + 1 + 1 < w1.heap.size := by (have h := hb1.size; (try simp at h); omega)); try (have hp1 : w.heap.size < w1.heap.size + 1 := by omega)))
  refine bodyPost_ret (v := .tuple #[.agg #[.int .i64 (chN (lowNum (s * (t - f)) (f)) (lowDen (s * (t - f)) (f))), .int .i64 (chD (lowNum (s * (t - f)) (f)) (lowDen (s * (t - f)) (f)))], .int .i64 (chC (lowNum (s * (t - f)) (f)) (lowDen (s * (t - f)) (f)))]) (by simp [results, Try.results43, go_sem, *]) rfl ⟨by simp [scT, fullT, chT, h1, h2, h3, show ¬ (t ≤ f) by omega], ?_⟩
  repeat (first | exact Below.refl _ _ | refine bw_drew ?_ | refine bw_drewN ?_ _ | refine bw_set ?_ (by simp; try omega) _ | refine bw_alloc ?_ _ | refine bw_trans ?_ (by assumption) | assumption)

set_option maxHeartbeats 400000 in
theorem sFocalFor_any (t s c : Int) (w : World) :
    Calls Try.prog 32 #[.int .i64 t, .int .i64 s, .int .i64 c] w fun e w' => e = .returned (.tuple #[.agg #[.int .i64 (ffT t s c).1, .int .i64 (ffT t s c).2.1], .int .i64 (ffT t s c).2.2]) ∧ Below w.heap.size w w' := by
  cases h1 : isTh t
  · go_enter Try.func32, Try.ntmps32
    go_wp2_with (first | (go_at_call 51; refine (l10Focal_is (by assumption) _).mono ?_; rintro e w1 ⟨rfl, rfl⟩) | (go_at_call 52; refine (l10Length_is (by assumption) _).mono ?_; rintro e w1 ⟨rfl, rfl⟩) | (go_at_call 57; refine (l02Full_any _ _ _ ⟨by omega, by omega⟩ ⟨by omega, by omega⟩).mono ?_; rintro e w1 ⟨rfl, hb1⟩; obtain ⟨hc1, hf1⟩ := bcell hb1; try (have hz1 : w.heap.size < w1.heap.size := by (have h := hb1.size; (try simp at h); omega)); try (have hy1 : w.heap.size + 1 < w1.heap.size := by (have h := hb1.size; (try simp at h); omega)); try (have hx1 : w.heap.size + 1 + 1 < w1.heap.size := by (have h := hb1.size; (try simp at h); omega)); try (have hv1 : w.heap.size + 1 + 1 + 1 < w1.heap.size := by (have h := hb1.size; (try simp at h); omega)); try (have hp1 : w.heap.size < w1.heap.size + 1 := by omega)))
    refine bodyPost_ret (v := .tuple #[.agg #[.int .i64 (0), .int .i64 (0)], .int .i64 (2)]) (by simp [results, Try.results32, go_sem, *]) rfl ⟨by simp [ffT, h1], ?_⟩
    repeat (first | exact Below.refl _ _ | refine bw_drew ?_ | refine bw_drewN ?_ _ | refine bw_set ?_ (by simp; try omega) _ | refine bw_alloc ?_ _ | refine bw_trans ?_ (by assumption) | assumption)
  obtain ⟨t1, t2⟩ := isTh_true.1 h1
  cases h2 : isTh s
  · go_enter Try.func32, Try.ntmps32
    go_wp2_with (first | (go_at_call 51; refine (l10Focal_is (by assumption) _).mono ?_; rintro e w1 ⟨rfl, rfl⟩) | (go_at_call 52; refine (l10Length_is (by assumption) _).mono ?_; rintro e w1 ⟨rfl, rfl⟩) | (go_at_call 57; refine (l02Full_any _ _ _ ⟨by omega, by omega⟩ ⟨by omega, by omega⟩).mono ?_; rintro e w1 ⟨rfl, hb1⟩; obtain ⟨hc1, hf1⟩ := bcell hb1; try (have hz1 : w.heap.size < w1.heap.size := by (have h := hb1.size; (try simp at h); omega)); try (have hy1 : w.heap.size + 1 < w1.heap.size := by (have h := hb1.size; (try simp at h); omega)); try (have hx1 : w.heap.size + 1 + 1 < w1.heap.size := by (have h := hb1.size; (try simp at h); omega)); try (have hv1 : w.heap.size + 1 + 1 + 1 < w1.heap.size := by (have h := hb1.size; (try simp at h); omega)); try (have hp1 : w.heap.size < w1.heap.size + 1 := by omega)))
    refine bodyPost_ret (v := .tuple #[.agg #[.int .i64 (0), .int .i64 (0)], .int .i64 (2)]) (by simp [results, Try.results32, go_sem, *]) rfl ⟨by simp [ffT, h1, h2], ?_⟩
    repeat (first | exact Below.refl _ _ | refine bw_drew ?_ | refine bw_drewN ?_ _ | refine bw_set ?_ (by simp; try omega) _ | refine bw_alloc ?_ _ | refine bw_trans ?_ (by assumption) | assumption)
  obtain ⟨s1, s2⟩ := isTh_true.1 h2
  cases h3 : isTh c
  · go_enter Try.func32, Try.ntmps32
    go_wp2_with (first | (go_at_call 51; refine (l10Focal_is (by assumption) _).mono ?_; rintro e w1 ⟨rfl, rfl⟩) | (go_at_call 52; refine (l10Length_is (by assumption) _).mono ?_; rintro e w1 ⟨rfl, rfl⟩) | (go_at_call 57; refine (l02Full_any _ _ _ ⟨by omega, by omega⟩ ⟨by omega, by omega⟩).mono ?_; rintro e w1 ⟨rfl, hb1⟩; obtain ⟨hc1, hf1⟩ := bcell hb1; try (have hz1 : w.heap.size < w1.heap.size := by (have h := hb1.size; (try simp at h); omega)); try (have hy1 : w.heap.size + 1 < w1.heap.size := by (have h := hb1.size; (try simp at h); omega)); try (have hx1 : w.heap.size + 1 + 1 < w1.heap.size := by (have h := hb1.size; (try simp at h); omega)); try (have hv1 : w.heap.size + 1 + 1 + 1 < w1.heap.size := by (have h := hb1.size; (try simp at h); omega)); try (have hp1 : w.heap.size < w1.heap.size + 1 := by omega)))
    refine bodyPost_ret (v := .tuple #[.agg #[.int .i64 (0), .int .i64 (0)], .int .i64 (2)]) (by simp [results, Try.results32, go_sem, *]) rfl ⟨by simp [ffT, h1, h2, h3], ?_⟩
    repeat (first | exact Below.refl _ _ | refine bw_drew ?_ | refine bw_drewN ?_ _ | refine bw_set ?_ (by simp; try omega) _ | refine bw_alloc ?_ _ | refine bw_trans ?_ (by assumption) | assumption)
  obtain ⟨c1, c2⟩ := isTh_true.1 h3
  obtain ⟨pm1, pm2⟩ := mul_bd (a := t) (b := s) (A := 100000) (B := 100000) (by omega) (by omega) (by omega) (by omega)
  go_enter Try.func32, Try.ntmps32
  go_wp2_with (first | (go_at_call 51; refine (l10Focal_is (by assumption) _).mono ?_; rintro e w1 ⟨rfl, rfl⟩) | (go_at_call 52; refine (l10Length_is (by assumption) _).mono ?_; rintro e w1 ⟨rfl, rfl⟩) | (go_at_call 57; refine (l02Full_any _ _ _ ⟨by omega, by omega⟩ ⟨by omega, by omega⟩).mono ?_; rintro e w1 ⟨rfl, hb1⟩; obtain ⟨hc1, hf1⟩ := bcell hb1; try (have hz1 : w.heap.size < w1.heap.size := by (have h := hb1.size; (try simp at h); omega)); try (have hy1 : w.heap.size + 1 < w1.heap.size := by (have h := hb1.size; (try simp at h); omega)); try (have hx1 : w.heap.size + 1 + 1 < w1.heap.size := by (have h := hb1.size; (try simp at h); omega)); try (have hv1 : w.heap.size + 1 + 1 + 1 < w1.heap.size := by (have h := hb1.size; (try simp at h); omega)); try (have hp1 : w.heap.size < w1.heap.size + 1 := by omega)))
  refine bodyPost_ret (v := .tuple #[.agg #[.int .i64 (chN (lowNum (t * s) (s + c)) (lowDen (t * s) (s + c))), .int .i64 (chD (lowNum (t * s) (s + c)) (lowDen (t * s) (s + c)))], .int .i64 (chC (lowNum (t * s) (s + c)) (lowDen (t * s) (s + c)))]) (by simp [results, Try.results32, go_sem, *]) rfl ⟨by simp [ffT, fullT, chT, h1, h2, h3], ?_⟩
  repeat (first | exact Below.refl _ _ | refine bw_drew ?_ | refine bw_drewN ?_ _ | refine bw_set ?_ (by simp; try omega) _ | refine bw_alloc ?_ _ | refine bw_trans ?_ (by assumption) | assumption)

set_option maxHeartbeats 400000 in
theorem sJoinLenses_any (a b : Int) (w : World) :
    Calls Try.prog 33 #[.int .i64 a, .int .i64 b] w fun e w' => e = .returned (.tuple #[.agg #[.int .i64 (jlT a b).1, .int .i64 (jlT a b).2.1], .int .i64 (jlT a b).2.2]) ∧ Below w.heap.size w w' := by
  cases h1 : isFo a
  · go_enter Try.func33, Try.ntmps33
    go_wp2_with (first | (go_at_call 51; refine (l10Focal_is (by assumption) _).mono ?_; rintro e w1 ⟨rfl, rfl⟩) | (go_at_call 52; refine (l10Length_is (by assumption) _).mono ?_; rintro e w1 ⟨rfl, rfl⟩) | (go_at_call 57; refine (l02Full_any _ _ _ ⟨by omega, by omega⟩ ⟨by omega, by omega⟩).mono ?_; rintro e w1 ⟨rfl, hb1⟩; obtain ⟨hc1, hf1⟩ := bcell hb1; try (have hz1 : w.heap.size < w1.heap.size := by (have h := hb1.size; (try simp at h); omega)); try (have hy1 : w.heap.size + 1 < w1.heap.size := by (have h := hb1.size; (try simp at h); omega)); try (have hx1 : w.heap.size + 1 + 1 < w1.heap.size := by (have h := hb1.size; (try simp at h); omega)); try (have hv1 : w.heap.size + 1 + 1 + 1 < w1.heap.size := by (have h := hb1.size; (try simp at h); omega)); try (have hp1 : w.heap.size < w1.heap.size + 1 := by omega)))
    refine bodyPost_ret (v := .tuple #[.agg #[.int .i64 (0), .int .i64 (0)], .int .i64 (2)]) (by simp [results, Try.results33, go_sem, *]) rfl ⟨by simp [jlT, h1], ?_⟩
    repeat (first | exact Below.refl _ _ | refine bw_drew ?_ | refine bw_drewN ?_ _ | refine bw_set ?_ (by simp; try omega) _ | refine bw_alloc ?_ _ | refine bw_trans ?_ (by assumption) | assumption)
  obtain ⟨a1, a2⟩ := isFo_true.1 h1
  cases h2 : isFo b
  · go_enter Try.func33, Try.ntmps33
    go_wp2_with (first | (go_at_call 51; refine (l10Focal_is (by assumption) _).mono ?_; rintro e w1 ⟨rfl, rfl⟩) | (go_at_call 52; refine (l10Length_is (by assumption) _).mono ?_; rintro e w1 ⟨rfl, rfl⟩) | (go_at_call 57; refine (l02Full_any _ _ _ ⟨by omega, by omega⟩ ⟨by omega, by omega⟩).mono ?_; rintro e w1 ⟨rfl, hb1⟩; obtain ⟨hc1, hf1⟩ := bcell hb1; try (have hz1 : w.heap.size < w1.heap.size := by (have h := hb1.size; (try simp at h); omega)); try (have hy1 : w.heap.size + 1 < w1.heap.size := by (have h := hb1.size; (try simp at h); omega)); try (have hx1 : w.heap.size + 1 + 1 < w1.heap.size := by (have h := hb1.size; (try simp at h); omega)); try (have hv1 : w.heap.size + 1 + 1 + 1 < w1.heap.size := by (have h := hb1.size; (try simp at h); omega)); try (have hp1 : w.heap.size < w1.heap.size + 1 := by omega)))
    refine bodyPost_ret (v := .tuple #[.agg #[.int .i64 (0), .int .i64 (0)], .int .i64 (2)]) (by simp [results, Try.results33, go_sem, *]) rfl ⟨by simp [jlT, h1, h2], ?_⟩
    repeat (first | exact Below.refl _ _ | refine bw_drew ?_ | refine bw_drewN ?_ _ | refine bw_set ?_ (by simp; try omega) _ | refine bw_alloc ?_ _ | refine bw_trans ?_ (by assumption) | assumption)
  obtain ⟨b1, b2⟩ := isFo_true.1 h2
  obtain ⟨pm1, pm2⟩ := mul_bd (a := a) (b := b) (A := 2000) (B := 2000) (by omega) (by omega) (by omega) (by omega)
  go_enter Try.func33, Try.ntmps33
  go_wp2_with (first | (go_at_call 51; refine (l10Focal_is (by assumption) _).mono ?_; rintro e w1 ⟨rfl, rfl⟩) | (go_at_call 52; refine (l10Length_is (by assumption) _).mono ?_; rintro e w1 ⟨rfl, rfl⟩) | (go_at_call 57; refine (l02Full_any _ _ _ ⟨by omega, by omega⟩ ⟨by omega, by omega⟩).mono ?_; rintro e w1 ⟨rfl, hb1⟩; obtain ⟨hc1, hf1⟩ := bcell hb1; try (have hz1 : w.heap.size < w1.heap.size := by (have h := hb1.size; (try simp at h); omega)); try (have hy1 : w.heap.size + 1 < w1.heap.size := by (have h := hb1.size; (try simp at h); omega)); try (have hx1 : w.heap.size + 1 + 1 < w1.heap.size := by (have h := hb1.size; (try simp at h); omega)); try (have hv1 : w.heap.size + 1 + 1 + 1 < w1.heap.size := by (have h := hb1.size; (try simp at h); omega)); try (have hp1 : w.heap.size < w1.heap.size + 1 := by omega)))
  refine bodyPost_ret (v := .tuple #[.agg #[.int .i64 (chN (lowNum (a * b) (a + b)) (lowDen (a * b) (a + b))), .int .i64 (chD (lowNum (a * b) (a + b)) (lowDen (a * b) (a + b)))], .int .i64 (chC (lowNum (a * b) (a + b)) (lowDen (a * b) (a + b)))]) (by simp [results, Try.results33, go_sem, *]) rfl ⟨by simp [jlT, fullT, chT, h1, h2], ?_⟩
  repeat (first | exact Below.refl _ _ | refine bw_drew ?_ | refine bw_drewN ?_ _ | refine bw_set ?_ (by simp; try omega) _ | refine bw_alloc ?_ _ | refine bw_trans ?_ (by assumption) | assumption)

set_option maxHeartbeats 400000 in
theorem sThrowFor_any (f s c : Int) (w : World) :
    Calls Try.prog 35 #[.int .i64 f, .int .i64 s, .int .i64 c] w fun e w' => e = .returned (.tuple #[.agg #[.int .i64 (tfT f s c).1, .int .i64 (tfT f s c).2.1], .int .i64 (tfT f s c).2.2]) ∧ Below w.heap.size w w' := by
  cases h1 : isFo f
  · go_enter Try.func35, Try.ntmps35
    go_wp2_with (first | (go_at_call 51; refine (l10Focal_is (by assumption) _).mono ?_; rintro e w1 ⟨rfl, rfl⟩) | (go_at_call 52; refine (l10Length_is (by assumption) _).mono ?_; rintro e w1 ⟨rfl, rfl⟩) | (go_at_call 57; refine (l02Full_any _ _ _ ⟨by omega, by omega⟩ ⟨by omega, by omega⟩).mono ?_; rintro e w1 ⟨rfl, hb1⟩; obtain ⟨hc1, hf1⟩ := bcell hb1; try (have hz1 : w.heap.size < w1.heap.size := by (have h := hb1.size; (try simp at h); omega)); try (have hy1 : w.heap.size + 1 < w1.heap.size := by (have h := hb1.size; (try simp at h); omega)); try (have hx1 : w.heap.size + 1 + 1 < w1.heap.size := by (have h := hb1.size; (try simp at h); omega)); try (have hv1 : w.heap.size + 1 + 1 + 1 < w1.heap.size := by (have h := hb1.size; (try simp at h); omega)); try (have hp1 : w.heap.size < w1.heap.size + 1 := by omega)))
    refine bodyPost_ret (v := .tuple #[.agg #[.int .i64 (0), .int .i64 (0)], .int .i64 (2)]) (by simp [results, Try.results35, go_sem, *]) rfl ⟨by simp [tfT, h1], ?_⟩
    repeat (first | exact Below.refl _ _ | refine bw_drew ?_ | refine bw_drewN ?_ _ | refine bw_set ?_ (by simp; try omega) _ | refine bw_alloc ?_ _ | refine bw_trans ?_ (by assumption) | assumption)
  obtain ⟨f1, f2⟩ := isFo_true.1 h1
  cases h2 : isTh s
  · go_enter Try.func35, Try.ntmps35
    go_wp2_with (first | (go_at_call 51; refine (l10Focal_is (by assumption) _).mono ?_; rintro e w1 ⟨rfl, rfl⟩) | (go_at_call 52; refine (l10Length_is (by assumption) _).mono ?_; rintro e w1 ⟨rfl, rfl⟩) | (go_at_call 57; refine (l02Full_any _ _ _ ⟨by omega, by omega⟩ ⟨by omega, by omega⟩).mono ?_; rintro e w1 ⟨rfl, hb1⟩; obtain ⟨hc1, hf1⟩ := bcell hb1; try (have hz1 : w.heap.size < w1.heap.size := by (have h := hb1.size; (try simp at h); omega)); try (have hy1 : w.heap.size + 1 < w1.heap.size := by (have h := hb1.size; (try simp at h); omega)); try (have hx1 : w.heap.size + 1 + 1 < w1.heap.size := by (have h := hb1.size; (try simp at h); omega)); try (have hv1 : w.heap.size + 1 + 1 + 1 < w1.heap.size := by (have h := hb1.size; (try simp at h); omega)); try (have hp1 : w.heap.size < w1.heap.size + 1 := by omega)))
    refine bodyPost_ret (v := .tuple #[.agg #[.int .i64 (0), .int .i64 (0)], .int .i64 (2)]) (by simp [results, Try.results35, go_sem, *]) rfl ⟨by simp [tfT, h1, h2], ?_⟩
    repeat (first | exact Below.refl _ _ | refine bw_drew ?_ | refine bw_drewN ?_ _ | refine bw_set ?_ (by simp; try omega) _ | refine bw_alloc ?_ _ | refine bw_trans ?_ (by assumption) | assumption)
  obtain ⟨s1, s2⟩ := isTh_true.1 h2
  cases h3 : isTh c
  · go_enter Try.func35, Try.ntmps35
    go_wp2_with (first | (go_at_call 51; refine (l10Focal_is (by assumption) _).mono ?_; rintro e w1 ⟨rfl, rfl⟩) | (go_at_call 52; refine (l10Length_is (by assumption) _).mono ?_; rintro e w1 ⟨rfl, rfl⟩) | (go_at_call 57; refine (l02Full_any _ _ _ ⟨by omega, by omega⟩ ⟨by omega, by omega⟩).mono ?_; rintro e w1 ⟨rfl, hb1⟩; obtain ⟨hc1, hf1⟩ := bcell hb1; try (have hz1 : w.heap.size < w1.heap.size := by (have h := hb1.size; (try simp at h); omega)); try (have hy1 : w.heap.size + 1 < w1.heap.size := by (have h := hb1.size; (try simp at h); omega)); try (have hx1 : w.heap.size + 1 + 1 < w1.heap.size := by (have h := hb1.size; (try simp at h); omega)); try (have hv1 : w.heap.size + 1 + 1 + 1 < w1.heap.size := by (have h := hb1.size; (try simp at h); omega)); try (have hp1 : w.heap.size < w1.heap.size + 1 := by omega)))
    refine bodyPost_ret (v := .tuple #[.agg #[.int .i64 (0), .int .i64 (0)], .int .i64 (2)]) (by simp [results, Try.results35, go_sem, *]) rfl ⟨by simp [tfT, h1, h2, h3], ?_⟩
    repeat (first | exact Below.refl _ _ | refine bw_drew ?_ | refine bw_drewN ?_ _ | refine bw_set ?_ (by simp; try omega) _ | refine bw_alloc ?_ _ | refine bw_trans ?_ (by assumption) | assumption)
  obtain ⟨c1, c2⟩ := isTh_true.1 h3
  obtain ⟨pm1, pm2⟩ := mul_bd (a := f) (b := s + c) (A := 2000) (B := 200000) (by omega) (by omega) (by omega) (by omega)
  go_enter Try.func35, Try.ntmps35
  go_wp2_with (first | (go_at_call 51; refine (l10Focal_is (by assumption) _).mono ?_; rintro e w1 ⟨rfl, rfl⟩) | (go_at_call 52; refine (l10Length_is (by assumption) _).mono ?_; rintro e w1 ⟨rfl, rfl⟩) | (go_at_call 57; refine (l02Full_any _ _ _ ⟨by omega, by omega⟩ ⟨by omega, by omega⟩).mono ?_; rintro e w1 ⟨rfl, hb1⟩; obtain ⟨hc1, hf1⟩ := bcell hb1; try (have hz1 : w.heap.size < w1.heap.size := by (have h := hb1.size; (try simp at h); omega)); try (have hy1 : w.heap.size + 1 < w1.heap.size := by (have h := hb1.size; (try simp at h); omega)); try (have hx1 : w.heap.size + 1 + 1 < w1.heap.size := by (have h := hb1.size; (try simp at h); omega)); try (have hv1 : w.heap.size + 1 + 1 + 1 < w1.heap.size := by (have h := hb1.size; (try simp at h); omega)); try (have hp1 : w.heap.size < w1.heap.size + 1 := by omega)))
  refine bodyPost_ret (v := .tuple #[.agg #[.int .i64 (chN (lowNum (f * (s + c)) (s)) (lowDen (f * (s + c)) (s))), .int .i64 (chD (lowNum (f * (s + c)) (s)) (lowDen (f * (s + c)) (s)))], .int .i64 (chC (lowNum (f * (s + c)) (s)) (lowDen (f * (s + c)) (s)))]) (by simp [results, Try.results35, go_sem, *]) rfl ⟨by simp [tfT, fullT, chT, h1, h2, h3], ?_⟩
  repeat (first | exact Below.refl _ _ | refine bw_drew ?_ | refine bw_drewN ?_ _ | refine bw_set ?_ (by simp; try omega) _ | refine bw_alloc ?_ _ | refine bw_trans ?_ (by assumption) | assumption)

set_option maxHeartbeats 400000 in
theorem sImageAt_any (f o : Int) (w : World) :
    Calls Try.prog 41 #[.int .i64 f, .int .i64 o] w fun e w' => e = .returned (.tuple #[.agg #[.int .i64 (imT f o).1, .int .i64 (imT f o).2.1], .int .i64 (imT f o).2.2]) ∧ Below w.heap.size w w' := by
  go_enter Try.func41, Try.ntmps41
  go_wp2_with fail
  refine ((l10Sharp_any _ _ _)).mono ?_
  rintro e w1 ⟨rfl, hb1⟩
  obtain ⟨hc1, hf1⟩ := bcell hb1
  try (have hz1 : w.heap.size < w1.heap.size := by (have h := hb1.size; (try simp at h); omega))
  try (have hy1 : w.heap.size + 1 < w1.heap.size := by (have h := hb1.size; (try simp at h); omega))
  try (have hx1 : w.heap.size + 1 + 1 < w1.heap.size := by (have h := hb1.size; (try simp at h); omega))
  try (have hv1 : w.heap.size + 1 + 1 + 1 < w1.heap.size := by (have h := hb1.size; (try simp at h); omega))
  try (have hp1 : w.heap.size < w1.heap.size + 1 := by omega)
  go_wp2
  refine bodyPost_ret (v := .tuple #[.agg #[.int .i64 (imT f o).1, .int .i64 (imT f o).2.1], .int .i64 (imT f o).2.2]) (by simp [results, Try.results41, go_sem, *]) rfl ⟨by simp, ?_⟩
  repeat (first | exact Below.refl _ _ | refine bw_drew ?_ | refine bw_drewN ?_ _ | refine bw_set ?_ (by simp; try omega) _ | refine bw_alloc ?_ _ | refine bw_trans ?_ (by assumption) | assumption)

set_option maxHeartbeats 400000 in
theorem sObjectFor_any (f o : Int) (w : World) :
    Calls Try.prog 42 #[.int .i64 f, .int .i64 o] w fun e w' => e = .returned (.tuple #[.agg #[.int .i64 (imT f o).1, .int .i64 (imT f o).2.1], .int .i64 (imT f o).2.2]) ∧ Below w.heap.size w w' := by
  go_enter Try.func42, Try.ntmps42
  go_wp2_with fail
  refine ((l10Sharp_any _ _ _)).mono ?_
  rintro e w1 ⟨rfl, hb1⟩
  obtain ⟨hc1, hf1⟩ := bcell hb1
  try (have hz1 : w.heap.size < w1.heap.size := by (have h := hb1.size; (try simp at h); omega))
  try (have hy1 : w.heap.size + 1 < w1.heap.size := by (have h := hb1.size; (try simp at h); omega))
  try (have hx1 : w.heap.size + 1 + 1 < w1.heap.size := by (have h := hb1.size; (try simp at h); omega))
  try (have hv1 : w.heap.size + 1 + 1 + 1 < w1.heap.size := by (have h := hb1.size; (try simp at h); omega))
  try (have hp1 : w.heap.size < w1.heap.size + 1 := by omega)
  go_wp2
  refine bodyPost_ret (v := .tuple #[.agg #[.int .i64 (imT f o).1, .int .i64 (imT f o).2.1], .int .i64 (imT f o).2.2]) (by simp [results, Try.results42, go_sem, *]) rfl ⟨by simp, ?_⟩
  repeat (first | exact Below.refl _ _ | refine bw_drew ?_ | refine bw_drewN ?_ _ | refine bw_set ?_ (by simp; try omega) _ | refine bw_alloc ?_ _ | refine bw_trans ?_ (by assumption) | assumption)

set_option maxHeartbeats 400000 in
theorem objectFor_any (f o : Int) (w : World) :
    Calls Try.prog 28 #[.int .i64 f, .int .i64 o] w fun e w' => e = .returned (.tuple #[.agg #[.int .i64 (imT f o).1, .int .i64 (imT f o).2.1], .int .i64 (imT f o).2.2]) ∧ Below w.heap.size w w' := by
  go_enter Try.func28, Try.ntmps28
  go_wp2_with fail
  refine ((imageAt_any _ _ _)).mono ?_
  rintro e w1 ⟨rfl, hb1⟩
  obtain ⟨hc1, hf1⟩ := bcell hb1
  try (have hz1 : w.heap.size < w1.heap.size := by (have h := hb1.size; (try simp at h); omega))
  try (have hy1 : w.heap.size + 1 < w1.heap.size := by (have h := hb1.size; (try simp at h); omega))
  try (have hx1 : w.heap.size + 1 + 1 < w1.heap.size := by (have h := hb1.size; (try simp at h); omega))
  try (have hv1 : w.heap.size + 1 + 1 + 1 < w1.heap.size := by (have h := hb1.size; (try simp at h); omega))
  try (have hp1 : w.heap.size < w1.heap.size + 1 := by omega)
  go_wp2
  refine bodyPost_ret (v := .tuple #[.agg #[.int .i64 (imT f o).1, .int .i64 (imT f o).2.1], .int .i64 (imT f o).2.2]) (by simp [results, Try.results28, go_sem, *]) rfl ⟨by simp, ?_⟩
  repeat (first | exact Below.refl _ _ | refine bw_drew ?_ | refine bw_drewN ?_ _ | refine bw_set ?_ (by simp; try omega) _ | refine bw_alloc ?_ _ | refine bw_trans ?_ (by assumption) | assumption)

set_option maxHeartbeats 400000 in
theorem law_ImageAt (f o : Int) (w : World) :
    Calls Try.prog 13 #[.int .i64 f, .int .i64 o] w fun e w' => e = .returned (.bool true) ∧ Below w.heap.size w w' := by
  go_enter Try.func13, Try.ntmps13
  go_wp2_with fail
  refine ((sImageAt_any _ _ _)).mono ?_
  rintro e w1 ⟨rfl, hb1⟩
  obtain ⟨hc1, hf1⟩ := bcell hb1
  try (have hz1 : w.heap.size < w1.heap.size := by (have h := hb1.size; (try simp at h); omega))
  try (have hy1 : w.heap.size + 1 < w1.heap.size := by (have h := hb1.size; (try simp at h); omega))
  try (have hx1 : w.heap.size + 1 + 1 < w1.heap.size := by (have h := hb1.size; (try simp at h); omega))
  try (have hv1 : w.heap.size + 1 + 1 + 1 < w1.heap.size := by (have h := hb1.size; (try simp at h); omega))
  try (have hp1 : w.heap.size < w1.heap.size + 1 := by omega)
  go_wp2_with fail
  refine ((imageAt_any _ _ _)).mono ?_
  rintro e w2 ⟨rfl, hb2⟩
  obtain ⟨hc2, hf2⟩ := bcell hb2
  try (have hz2 : w.heap.size < w2.heap.size := by (have h := hb2.size; (try simp at h); omega))
  try (have hy2 : w.heap.size + 1 < w2.heap.size := by (have h := hb2.size; (try simp at h); omega))
  try (have hx2 : w.heap.size + 1 + 1 < w2.heap.size := by (have h := hb2.size; (try simp at h); omega))
  try (have hv2 : w.heap.size + 1 + 1 + 1 < w2.heap.size := by (have h := hb2.size; (try simp at h); omega))
  try (have hp2 : w.heap.size < w2.heap.size + 1 := by omega)
  have hq2 : w1.heap.size < w2.heap.size := by (have h := hb2.size; simp at h; omega)
  go_wp2_with fail
  refine ((eqFraction_any _ _ _)).mono ?_
  rintro e w3 ⟨rfl, hb3⟩
  obtain ⟨hc3, hf3⟩ := bcell hb3
  try (have hz3 : w.heap.size < w3.heap.size := by (have h := hb3.size; (try simp at h); omega))
  try (have hy3 : w.heap.size + 1 < w3.heap.size := by (have h := hb3.size; (try simp at h); omega))
  try (have hx3 : w.heap.size + 1 + 1 < w3.heap.size := by (have h := hb3.size; (try simp at h); omega))
  try (have hv3 : w.heap.size + 1 + 1 + 1 < w3.heap.size := by (have h := hb3.size; (try simp at h); omega))
  try (have hp3 : w.heap.size < w3.heap.size + 1 := by omega)
  go_wp2
  go_ret
  refine ⟨rfl, ?_⟩
  repeat (first | exact Below.refl _ _ | refine bw_drew ?_ | refine bw_drewN ?_ _ | refine bw_set ?_ (by simp; try omega) _ | refine bw_alloc ?_ _ | refine bw_trans ?_ (by assumption) | assumption)

set_option maxHeartbeats 400000 in
theorem law_ObjectFor (f o : Int) (w : World) :
    Calls Try.prog 14 #[.int .i64 f, .int .i64 o] w fun e w' => e = .returned (.bool true) ∧ Below w.heap.size w w' := by
  go_enter Try.func14, Try.ntmps14
  go_wp2_with fail
  refine ((sObjectFor_any _ _ _)).mono ?_
  rintro e w1 ⟨rfl, hb1⟩
  obtain ⟨hc1, hf1⟩ := bcell hb1
  try (have hz1 : w.heap.size < w1.heap.size := by (have h := hb1.size; (try simp at h); omega))
  try (have hy1 : w.heap.size + 1 < w1.heap.size := by (have h := hb1.size; (try simp at h); omega))
  try (have hx1 : w.heap.size + 1 + 1 < w1.heap.size := by (have h := hb1.size; (try simp at h); omega))
  try (have hv1 : w.heap.size + 1 + 1 + 1 < w1.heap.size := by (have h := hb1.size; (try simp at h); omega))
  try (have hp1 : w.heap.size < w1.heap.size + 1 := by omega)
  go_wp2_with fail
  refine ((objectFor_any _ _ _)).mono ?_
  rintro e w2 ⟨rfl, hb2⟩
  obtain ⟨hc2, hf2⟩ := bcell hb2
  try (have hz2 : w.heap.size < w2.heap.size := by (have h := hb2.size; (try simp at h); omega))
  try (have hy2 : w.heap.size + 1 < w2.heap.size := by (have h := hb2.size; (try simp at h); omega))
  try (have hx2 : w.heap.size + 1 + 1 < w2.heap.size := by (have h := hb2.size; (try simp at h); omega))
  try (have hv2 : w.heap.size + 1 + 1 + 1 < w2.heap.size := by (have h := hb2.size; (try simp at h); omega))
  try (have hp2 : w.heap.size < w2.heap.size + 1 := by omega)
  have hq2 : w1.heap.size < w2.heap.size := by (have h := hb2.size; simp at h; omega)
  go_wp2_with fail
  refine ((eqFraction_any _ _ _)).mono ?_
  rintro e w3 ⟨rfl, hb3⟩
  obtain ⟨hc3, hf3⟩ := bcell hb3
  try (have hz3 : w.heap.size < w3.heap.size := by (have h := hb3.size; (try simp at h); omega))
  try (have hy3 : w.heap.size + 1 < w3.heap.size := by (have h := hb3.size; (try simp at h); omega))
  try (have hx3 : w.heap.size + 1 + 1 < w3.heap.size := by (have h := hb3.size; (try simp at h); omega))
  try (have hv3 : w.heap.size + 1 + 1 + 1 < w3.heap.size := by (have h := hb3.size; (try simp at h); omega))
  try (have hp3 : w.heap.size < w3.heap.size + 1 := by omega)
  go_wp2
  go_ret
  refine ⟨rfl, ?_⟩
  repeat (first | exact Below.refl _ _ | refine bw_drew ?_ | refine bw_drewN ?_ _ | refine bw_set ?_ (by simp; try omega) _ | refine bw_alloc ?_ _ | refine bw_trans ?_ (by assumption) | assumption)

set_option maxHeartbeats 400000 in
theorem law_EnlargementOf (f t : Int) (w : World) :
    Calls Try.prog 6 #[.int .i64 f, .int .i64 t] w fun e w' => e = .returned (.bool true) ∧ Below w.heap.size w w' := by
  go_enter Try.func6, Try.ntmps6
  go_wp2_with fail
  refine ((sEnlargementOf_any _ _ _)).mono ?_
  rintro e w1 ⟨rfl, hb1⟩
  obtain ⟨hc1, hf1⟩ := bcell hb1
  try (have hz1 : w.heap.size < w1.heap.size := by (have h := hb1.size; (try simp at h); omega))
  try (have hy1 : w.heap.size + 1 < w1.heap.size := by (have h := hb1.size; (try simp at h); omega))
  try (have hx1 : w.heap.size + 1 + 1 < w1.heap.size := by (have h := hb1.size; (try simp at h); omega))
  try (have hv1 : w.heap.size + 1 + 1 + 1 < w1.heap.size := by (have h := hb1.size; (try simp at h); omega))
  try (have hp1 : w.heap.size < w1.heap.size + 1 := by omega)
  go_wp2_with fail
  refine ((enlargementOf_any _ _ _)).mono ?_
  rintro e w2 ⟨rfl, hb2⟩
  obtain ⟨hc2, hf2⟩ := bcell hb2
  try (have hz2 : w.heap.size < w2.heap.size := by (have h := hb2.size; (try simp at h); omega))
  try (have hy2 : w.heap.size + 1 < w2.heap.size := by (have h := hb2.size; (try simp at h); omega))
  try (have hx2 : w.heap.size + 1 + 1 < w2.heap.size := by (have h := hb2.size; (try simp at h); omega))
  try (have hv2 : w.heap.size + 1 + 1 + 1 < w2.heap.size := by (have h := hb2.size; (try simp at h); omega))
  try (have hp2 : w.heap.size < w2.heap.size + 1 := by omega)
  have hq2 : w1.heap.size < w2.heap.size := by (have h := hb2.size; simp at h; omega)
  go_wp2_with fail
  refine ((eqFraction_any _ _ _)).mono ?_
  rintro e w3 ⟨rfl, hb3⟩
  obtain ⟨hc3, hf3⟩ := bcell hb3
  try (have hz3 : w.heap.size < w3.heap.size := by (have h := hb3.size; (try simp at h); omega))
  try (have hy3 : w.heap.size + 1 < w3.heap.size := by (have h := hb3.size; (try simp at h); omega))
  try (have hx3 : w.heap.size + 1 + 1 < w3.heap.size := by (have h := hb3.size; (try simp at h); omega))
  try (have hv3 : w.heap.size + 1 + 1 + 1 < w3.heap.size := by (have h := hb3.size; (try simp at h); omega))
  try (have hp3 : w.heap.size < w3.heap.size + 1 := by omega)
  go_wp2
  go_ret
  refine ⟨rfl, ?_⟩
  repeat (first | exact Below.refl _ _ | refine bw_drew ?_ | refine bw_drewN ?_ _ | refine bw_set ?_ (by simp; try omega) _ | refine bw_alloc ?_ _ | refine bw_trans ?_ (by assumption) | assumption)

set_option maxHeartbeats 400000 in
theorem law_ScreenSize (f t s : Int) (w : World) :
    Calls Try.prog 15 #[.int .i64 f, .int .i64 t, .int .i64 s] w fun e w' => e = .returned (.bool true) ∧ Below w.heap.size w w' := by
  go_enter Try.func15, Try.ntmps15
  go_wp2_with fail
  refine ((sScreenSize_any _ _ _ _)).mono ?_
  rintro e w1 ⟨rfl, hb1⟩
  obtain ⟨hc1, hf1⟩ := bcell hb1
  try (have hz1 : w.heap.size < w1.heap.size := by (have h := hb1.size; (try simp at h); omega))
  try (have hy1 : w.heap.size + 1 < w1.heap.size := by (have h := hb1.size; (try simp at h); omega))
  try (have hx1 : w.heap.size + 1 + 1 < w1.heap.size := by (have h := hb1.size; (try simp at h); omega))
  try (have hv1 : w.heap.size + 1 + 1 + 1 < w1.heap.size := by (have h := hb1.size; (try simp at h); omega))
  try (have hp1 : w.heap.size < w1.heap.size + 1 := by omega)
  go_wp2_with fail
  refine ((screenSize_any _ _ _ _)).mono ?_
  rintro e w2 ⟨rfl, hb2⟩
  obtain ⟨hc2, hf2⟩ := bcell hb2
  try (have hz2 : w.heap.size < w2.heap.size := by (have h := hb2.size; (try simp at h); omega))
  try (have hy2 : w.heap.size + 1 < w2.heap.size := by (have h := hb2.size; (try simp at h); omega))
  try (have hx2 : w.heap.size + 1 + 1 < w2.heap.size := by (have h := hb2.size; (try simp at h); omega))
  try (have hv2 : w.heap.size + 1 + 1 + 1 < w2.heap.size := by (have h := hb2.size; (try simp at h); omega))
  try (have hp2 : w.heap.size < w2.heap.size + 1 := by omega)
  have hq2 : w1.heap.size < w2.heap.size := by (have h := hb2.size; simp at h; omega)
  go_wp2_with fail
  refine ((eqFraction_any _ _ _)).mono ?_
  rintro e w3 ⟨rfl, hb3⟩
  obtain ⟨hc3, hf3⟩ := bcell hb3
  try (have hz3 : w.heap.size < w3.heap.size := by (have h := hb3.size; (try simp at h); omega))
  try (have hy3 : w.heap.size + 1 < w3.heap.size := by (have h := hb3.size; (try simp at h); omega))
  try (have hx3 : w.heap.size + 1 + 1 < w3.heap.size := by (have h := hb3.size; (try simp at h); omega))
  try (have hv3 : w.heap.size + 1 + 1 + 1 < w3.heap.size := by (have h := hb3.size; (try simp at h); omega))
  try (have hp3 : w.heap.size < w3.heap.size + 1 := by omega)
  go_wp2
  go_ret
  refine ⟨rfl, ?_⟩
  repeat (first | exact Below.refl _ _ | refine bw_drew ?_ | refine bw_drewN ?_ _ | refine bw_set ?_ (by simp; try omega) _ | refine bw_alloc ?_ _ | refine bw_trans ?_ (by assumption) | assumption)

set_option maxHeartbeats 400000 in
theorem law_FocalFor (t s c : Int) (w : World) :
    Calls Try.prog 8 #[.int .i64 t, .int .i64 s, .int .i64 c] w fun e w' => e = .returned (.bool true) ∧ Below w.heap.size w w' := by
  go_enter Try.func8, Try.ntmps8
  go_wp2_with fail
  refine ((sFocalFor_any _ _ _ _)).mono ?_
  rintro e w1 ⟨rfl, hb1⟩
  obtain ⟨hc1, hf1⟩ := bcell hb1
  try (have hz1 : w.heap.size < w1.heap.size := by (have h := hb1.size; (try simp at h); omega))
  try (have hy1 : w.heap.size + 1 < w1.heap.size := by (have h := hb1.size; (try simp at h); omega))
  try (have hx1 : w.heap.size + 1 + 1 < w1.heap.size := by (have h := hb1.size; (try simp at h); omega))
  try (have hv1 : w.heap.size + 1 + 1 + 1 < w1.heap.size := by (have h := hb1.size; (try simp at h); omega))
  try (have hp1 : w.heap.size < w1.heap.size + 1 := by omega)
  go_wp2_with fail
  refine ((focalFor_any _ _ _ _)).mono ?_
  rintro e w2 ⟨rfl, hb2⟩
  obtain ⟨hc2, hf2⟩ := bcell hb2
  try (have hz2 : w.heap.size < w2.heap.size := by (have h := hb2.size; (try simp at h); omega))
  try (have hy2 : w.heap.size + 1 < w2.heap.size := by (have h := hb2.size; (try simp at h); omega))
  try (have hx2 : w.heap.size + 1 + 1 < w2.heap.size := by (have h := hb2.size; (try simp at h); omega))
  try (have hv2 : w.heap.size + 1 + 1 + 1 < w2.heap.size := by (have h := hb2.size; (try simp at h); omega))
  try (have hp2 : w.heap.size < w2.heap.size + 1 := by omega)
  have hq2 : w1.heap.size < w2.heap.size := by (have h := hb2.size; simp at h; omega)
  go_wp2_with fail
  refine ((eqFraction_any _ _ _)).mono ?_
  rintro e w3 ⟨rfl, hb3⟩
  obtain ⟨hc3, hf3⟩ := bcell hb3
  try (have hz3 : w.heap.size < w3.heap.size := by (have h := hb3.size; (try simp at h); omega))
  try (have hy3 : w.heap.size + 1 < w3.heap.size := by (have h := hb3.size; (try simp at h); omega))
  try (have hx3 : w.heap.size + 1 + 1 < w3.heap.size := by (have h := hb3.size; (try simp at h); omega))
  try (have hv3 : w.heap.size + 1 + 1 + 1 < w3.heap.size := by (have h := hb3.size; (try simp at h); omega))
  try (have hp3 : w.heap.size < w3.heap.size + 1 := by omega)
  go_wp2
  go_ret
  refine ⟨rfl, ?_⟩
  repeat (first | exact Below.refl _ _ | refine bw_drew ?_ | refine bw_drewN ?_ _ | refine bw_set ?_ (by simp; try omega) _ | refine bw_alloc ?_ _ | refine bw_trans ?_ (by assumption) | assumption)

set_option maxHeartbeats 400000 in
theorem law_JoinLenses (a b : Int) (w : World) :
    Calls Try.prog 9 #[.int .i64 a, .int .i64 b] w fun e w' => e = .returned (.bool true) ∧ Below w.heap.size w w' := by
  go_enter Try.func9, Try.ntmps9
  go_wp2_with fail
  refine ((sJoinLenses_any _ _ _)).mono ?_
  rintro e w1 ⟨rfl, hb1⟩
  obtain ⟨hc1, hf1⟩ := bcell hb1
  try (have hz1 : w.heap.size < w1.heap.size := by (have h := hb1.size; (try simp at h); omega))
  try (have hy1 : w.heap.size + 1 < w1.heap.size := by (have h := hb1.size; (try simp at h); omega))
  try (have hx1 : w.heap.size + 1 + 1 < w1.heap.size := by (have h := hb1.size; (try simp at h); omega))
  try (have hv1 : w.heap.size + 1 + 1 + 1 < w1.heap.size := by (have h := hb1.size; (try simp at h); omega))
  try (have hp1 : w.heap.size < w1.heap.size + 1 := by omega)
  go_wp2_with fail
  refine ((joinLenses_any _ _ _)).mono ?_
  rintro e w2 ⟨rfl, hb2⟩
  obtain ⟨hc2, hf2⟩ := bcell hb2
  try (have hz2 : w.heap.size < w2.heap.size := by (have h := hb2.size; (try simp at h); omega))
  try (have hy2 : w.heap.size + 1 < w2.heap.size := by (have h := hb2.size; (try simp at h); omega))
  try (have hx2 : w.heap.size + 1 + 1 < w2.heap.size := by (have h := hb2.size; (try simp at h); omega))
  try (have hv2 : w.heap.size + 1 + 1 + 1 < w2.heap.size := by (have h := hb2.size; (try simp at h); omega))
  try (have hp2 : w.heap.size < w2.heap.size + 1 := by omega)
  have hq2 : w1.heap.size < w2.heap.size := by (have h := hb2.size; simp at h; omega)
  go_wp2_with fail
  refine ((eqFraction_any _ _ _)).mono ?_
  rintro e w3 ⟨rfl, hb3⟩
  obtain ⟨hc3, hf3⟩ := bcell hb3
  try (have hz3 : w.heap.size < w3.heap.size := by (have h := hb3.size; (try simp at h); omega))
  try (have hy3 : w.heap.size + 1 < w3.heap.size := by (have h := hb3.size; (try simp at h); omega))
  try (have hx3 : w.heap.size + 1 + 1 < w3.heap.size := by (have h := hb3.size; (try simp at h); omega))
  try (have hv3 : w.heap.size + 1 + 1 + 1 < w3.heap.size := by (have h := hb3.size; (try simp at h); omega))
  try (have hp3 : w.heap.size < w3.heap.size + 1 := by omega)
  go_wp2
  go_ret
  refine ⟨rfl, ?_⟩
  repeat (first | exact Below.refl _ _ | refine bw_drew ?_ | refine bw_drewN ?_ _ | refine bw_set ?_ (by simp; try omega) _ | refine bw_alloc ?_ _ | refine bw_trans ?_ (by assumption) | assumption)

set_option maxHeartbeats 400000 in
theorem law_ThrowFor (f s c : Int) (w : World) :
    Calls Try.prog 10 #[.int .i64 f, .int .i64 s, .int .i64 c] w fun e w' => e = .returned (.bool true) ∧ Below w.heap.size w w' := by
  go_enter Try.func10, Try.ntmps10
  go_wp2_with fail
  refine ((sThrowFor_any _ _ _ _)).mono ?_
  rintro e w1 ⟨rfl, hb1⟩
  obtain ⟨hc1, hf1⟩ := bcell hb1
  try (have hz1 : w.heap.size < w1.heap.size := by (have h := hb1.size; (try simp at h); omega))
  try (have hy1 : w.heap.size + 1 < w1.heap.size := by (have h := hb1.size; (try simp at h); omega))
  try (have hx1 : w.heap.size + 1 + 1 < w1.heap.size := by (have h := hb1.size; (try simp at h); omega))
  try (have hv1 : w.heap.size + 1 + 1 + 1 < w1.heap.size := by (have h := hb1.size; (try simp at h); omega))
  try (have hp1 : w.heap.size < w1.heap.size + 1 := by omega)
  go_wp2_with fail
  refine ((throwFor_any _ _ _ _)).mono ?_
  rintro e w2 ⟨rfl, hb2⟩
  obtain ⟨hc2, hf2⟩ := bcell hb2
  try (have hz2 : w.heap.size < w2.heap.size := by (have h := hb2.size; (try simp at h); omega))
  try (have hy2 : w.heap.size + 1 < w2.heap.size := by (have h := hb2.size; (try simp at h); omega))
  try (have hx2 : w.heap.size + 1 + 1 < w2.heap.size := by (have h := hb2.size; (try simp at h); omega))
  try (have hv2 : w.heap.size + 1 + 1 + 1 < w2.heap.size := by (have h := hb2.size; (try simp at h); omega))
  try (have hp2 : w.heap.size < w2.heap.size + 1 := by omega)
  have hq2 : w1.heap.size < w2.heap.size := by (have h := hb2.size; simp at h; omega)
  go_wp2_with fail
  refine ((eqFraction_any _ _ _)).mono ?_
  rintro e w3 ⟨rfl, hb3⟩
  obtain ⟨hc3, hf3⟩ := bcell hb3
  try (have hz3 : w.heap.size < w3.heap.size := by (have h := hb3.size; (try simp at h); omega))
  try (have hy3 : w.heap.size + 1 < w3.heap.size := by (have h := hb3.size; (try simp at h); omega))
  try (have hx3 : w.heap.size + 1 + 1 < w3.heap.size := by (have h := hb3.size; (try simp at h); omega))
  try (have hv3 : w.heap.size + 1 + 1 + 1 < w3.heap.size := by (have h := hb3.size; (try simp at h); omega))
  try (have hp3 : w.heap.size < w3.heap.size + 1 := by omega)
  go_wp2
  go_ret
  refine ⟨rfl, ?_⟩
  repeat (first | exact Below.refl _ _ | refine bw_drew ?_ | refine bw_drewN ?_ _ | refine bw_set ?_ (by simp; try omega) _ | refine bw_alloc ?_ _ | refine bw_trans ?_ (by assumption) | assumption)

end Go.Proofs.Ytiplokbcojdcdaa
