/-
  FnLenses where the object is farther than the focal length, and a lens for the size throws it: true.
-/
import Derived.Test.YtclilanlhagppaaLensN
namespace Go.Proofs.Ytclilanlhagppaa
open Go.RowKit
set_option linter.unusedVariables false

set_option maxRecDepth 100000 in
set_option maxHeartbeats 6400000 in
theorem lenses_farK (a1 a2 : Option Addr) (l m c1 c2 : Nat) (w : World) (x y z v f o N D t s E G M S : Int) (hf : 10 * (1 + x) = f) (ho : f + y - 20 = o) (ht : f + 10 * (1 + z) = t) (hs : 5 * (1 + v) = s)
    (f1 : 10 ≤ f) (f2 : f ≤ 400) (o1 : o ≤ 579) (hn : f < o) (x1 : 0 ≤ x) (x2 : x ≤ 39) (y1 : 0 ≤ y) (y2 : y ≤ 199) (z1 : 0 ≤ z) (z2 : z ≤ 199) (v1 : 0 ≤ v) (v2 : v ≤ 29)
    (N1 : 1 ≤ N) (N2 : N ≤ 1000000) (D1 : 1 ≤ D) (D2 : D ≤ 1000) (q1 : 0 ≤ N * (o - f)) (q2 : N * (o - f) ≤ 1000000000) (q3 : 0 ≤ f * o) (q4 : f * o ≤ 1000000) (q5 : 0 ≤ f * o * D) (q6 : f * o * D ≤ 1000000000)
    (q7 : 0 ≤ N * o) (q8 : N * o ≤ 1000000000) (q9 : 0 ≤ D * o) (q10 : D * o ≤ 1000000) (q11 : 0 ≤ f * (N + D * o)) (q12 : f * (N + D * o) ≤ 1000000000)
    (E1 : (N * (o - f) != f * o * D) = false) (E2 : (N * o != f * (N + D * o)) = false)
    (t1 : 20 ≤ t) (t2 : t ≤ 2400) (s1 : 5 ≤ s) (s2 : s ≤ 150) (e1 : 1 ≤ E) (e2 : E ≤ 3000) (e3 : 1 ≤ G) (e4 : G ≤ 400) (p1 : 0 ≤ E * f) (p2 : E * f ≤ 10000000) (p3 : 0 ≤ (t - f) * G) (p4 : (t - f) * G ≤ 10000000) (E3 : (E * f != (t - f) * G) = false)
    (M1 : 1 ≤ M) (M2 : M ≤ 1000000) (S1 : 1 ≤ S) (S2 : S ≤ 400) (p5 : 0 ≤ M * f) (p6 : M * f ≤ 1000000000) (p7 : 0 ≤ s * (t - f)) (p8 : s * (t - f) ≤ 10000000) (p9 : 0 ≤ s * (t - f) * S) (p10 : s * (t - f) * S ≤ 10000000000) (E4 : (M * f != s * (t - f) * S) = false)
    (C0 : Hid (∀ W : World, Calls Try.prog 4 #[.slice a1 l c1, .slice a2 m c2] W fun e w' => e = .returned (.bool false) ∧ W = w'))
    (CX : Hid (∀ W : World, Below w.heap.size w W → Calls Try.prog 5 #[.slice a1 l c1, .int .i64 0, .int .i64 40] W fun e w' => e = .returned (.int .i64 x) ∧ W = w'))
    (CY : Hid (∀ W : World, Below w.heap.size w W → Calls Try.prog 5 #[.slice a2 m c2, .int .i64 0, .int .i64 200] W fun e w' => e = .returned (.int .i64 y) ∧ W = w'))
    (CZ : Hid (∀ W : World, Below w.heap.size w W → Calls Try.prog 5 #[.slice a2 m c2, .int .i64 1, .int .i64 200] W fun e w' => e = .returned (.int .i64 z) ∧ W = w'))
    (CV : Hid (∀ W : World, Below w.heap.size w W → Calls Try.prog 5 #[.slice a2 m c2, .int .i64 2, .int .i64 30] W fun e w' => e = .returned (.int .i64 v) ∧ W = w'))
    (HC1 : Hid (∀ W : World, Calls Try.prog 6 #[.int .i64 f, .int .i64 o] W fun e w' => e = .returned (.tuple #[.agg #[.int .i64 N, .int .i64 D], .int .i64 0]) ∧ Below W.heap.size W w'))
    (HC2 : Hid (∀ W : World, Calls Try.prog 7 #[.int .i64 f, .int .i64 o] W fun e w' => e = .returned (.tuple #[.agg #[.int .i64 N, .int .i64 D], .int .i64 0]) ∧ Below W.heap.size W w'))
    (HC3 : Hid (∀ W : World, Calls Try.prog 8 #[.int .i64 f, .int .i64 t] W fun e w' => e = .returned (.tuple #[.agg #[.int .i64 E, .int .i64 G], .int .i64 0]) ∧ Below W.heap.size W w'))
    (HC4 : Hid (∀ W : World, Calls Try.prog 9 #[.int .i64 f, .int .i64 t, .int .i64 s] W fun e w' => e = .returned (.tuple #[.agg #[.int .i64 M, .int .i64 S], .int .i64 0]) ∧ Below W.heap.size W w'))
    (g1 : (S != 1) = false) (g2 : M ≤ 100000)
    (HC5 : Hid (∀ W : World, Calls Try.prog 10 #[.int .i64 t, .int .i64 s, .int .i64 M] W fun e w' => e = .returned (.tuple #[.agg #[.int .i64 f, .int .i64 1], .int .i64 0]) ∧ Below W.heap.size W w'))
    (HC6 : Hid (∀ W : World, Calls Try.prog 11 #[.int .i64 f, .int .i64 s, .int .i64 M] W fun e w' => e = .returned (.tuple #[.agg #[.int .i64 t, .int .i64 1], .int .i64 0]) ∧ Below W.heap.size W w')) :
    Calls Try.prog 3 #[.slice a1 l c1, .slice a2 m c2] w fun e w' => e = .returned (.bool true) ∧ Below w.heap.size w w' := by
  go_enter Try.func3, Try.ntmps3
  go_wp2_with fail
  refine (C0.out _).mono ?_
  rintro e w' ⟨rfl, rfl⟩
  go_wp2_with fail
  refine (CX.out _ (Below.refl _ _)).mono ?_
  rintro e w' ⟨rfl, rfl⟩
  go_wp2_with fail
  refine (CY.out _ (Below.refl _ _)).mono ?_
  rintro e w' ⟨rfl, rfl⟩
  go_wp2_with fail
  refine (HC1.out _).mono ?_
  rintro e w1 ⟨rfl, hb1⟩
  obtain ⟨hc1, hf1⟩ := bcell hb1
  try (have hz1 : w.heap.size < w1.heap.size := by (have h := hb1.size; (try simp at h); omega))
  try (have hy1 : w.heap.size + 1 < w1.heap.size := by (have h := hb1.size; (try simp at h); omega))
  try (have hx1 : w.heap.size + 1 + 1 < w1.heap.size := by (have h := hb1.size; (try simp at h); omega))
  try (have hv1 : w.heap.size + 1 + 1 + 1 < w1.heap.size := by (have h := hb1.size; (try simp at h); omega))
  try (have hp1 : w.heap.size ≤ w1.heap.size := by omega)
  go_wp2_with fail
  refine (HC2.out _).mono ?_
  rintro e w2 ⟨rfl, hb2⟩
  obtain ⟨hc2, hf2⟩ := bcell hb2
  try (have hz2 : w.heap.size < w2.heap.size := by (have h := hb2.size; (try simp at h); omega))
  try (have hy2 : w.heap.size + 1 < w2.heap.size := by (have h := hb2.size; (try simp at h); omega))
  try (have hx2 : w.heap.size + 1 + 1 < w2.heap.size := by (have h := hb2.size; (try simp at h); omega))
  try (have hv2 : w.heap.size + 1 + 1 + 1 < w2.heap.size := by (have h := hb2.size; (try simp at h); omega))
  try (have hp2 : w.heap.size ≤ w2.heap.size := by omega)
  have hs2 : w1.heap.size < w2.heap.size := by have h := hb2.size; simp at h; omega
  have k0 : w2.cell? ⟨w1.heap.size, 0, none⟩ = some (.int .i64 N) := by rw [hc2 _ _ (by simp)]; go_simp
  have k1 : w2.cell? ⟨w1.heap.size, 1, none⟩ = some (.int .i64 D) := by rw [hc2 _ _ (by simp)]; go_simp
  have HB2 : Below w.heap.size w w2 := bw_trans (bw_alloc hb1 _) hb2
  clear hc2 hf2
  go_wp2_with fail
  refine (CZ.out _ (bw_alloc HB2 _)).mono ?_
  rintro e w' ⟨rfl, rfl⟩
  go_wp2_with fail
  refine (CV.out _ (bw_alloc HB2 _)).mono ?_
  rintro e w' ⟨rfl, rfl⟩
  clear k0 k1 hs2
  go_wp2_with fail
  refine (HC3.out _).mono ?_
  rintro e w3 ⟨rfl, hb3⟩
  obtain ⟨hc3, hf3⟩ := bcell hb3
  try (have hz3 : w.heap.size < w3.heap.size := by (have h := hb3.size; (try simp at h); omega))
  try (have hy3 : w.heap.size + 1 < w3.heap.size := by (have h := hb3.size; (try simp at h); omega))
  try (have hx3 : w.heap.size + 1 + 1 < w3.heap.size := by (have h := hb3.size; (try simp at h); omega))
  try (have hv3 : w.heap.size + 1 + 1 + 1 < w3.heap.size := by (have h := hb3.size; (try simp at h); omega))
  try (have hp3 : w.heap.size ≤ w3.heap.size := by omega)
  have HB3 : Below w.heap.size w w3 := bw_trans (bw_alloc HB2 _) hb3
  clear hc3 hf3 hc1 hf1 hb1 hb2
  go_wp2_with fail
  refine (HC4.out _).mono ?_
  rintro e w4 ⟨rfl, hb4⟩
  obtain ⟨hc4, hf4⟩ := bcell hb4
  try (have hz4 : w.heap.size < w4.heap.size := by (have h := hb4.size; (try simp at h); omega))
  try (have hy4 : w.heap.size + 1 < w4.heap.size := by (have h := hb4.size; (try simp at h); omega))
  try (have hx4 : w.heap.size + 1 + 1 < w4.heap.size := by (have h := hb4.size; (try simp at h); omega))
  try (have hv4 : w.heap.size + 1 + 1 + 1 < w4.heap.size := by (have h := hb4.size; (try simp at h); omega))
  try (have hp4 : w.heap.size ≤ w4.heap.size := by omega)
  have hs4 : w3.heap.size < w4.heap.size := by have h := hb4.size; simp at h; omega
  have k0 : w4.cell? ⟨w3.heap.size, 0, none⟩ = some (.int .i64 E) := by rw [hc4 _ _ (by simp)]; go_simp
  have k1 : w4.cell? ⟨w3.heap.size, 1, none⟩ = some (.int .i64 G) := by rw [hc4 _ _ (by simp)]; go_simp
  have HB4 : Below w.heap.size w w4 := bw_trans (bw_alloc HB3 _) hb4
  clear hc4 hf4 hb3
  go_wp2_with fail
  refine (HC5.out _).mono ?_
  rintro e w5 ⟨rfl, hb5⟩
  obtain ⟨hc5, hf5⟩ := bcell hb5
  have hs5 : w4.heap.size < w5.heap.size := by have h := hb5.size; simp at h; omega
  have k2 : w5.cell? ⟨w4.heap.size, 0, none⟩ = some (.int .i64 M) := by rw [hc5 _ _ (by simp)]; go_simp
  have k3 : w5.cell? ⟨w4.heap.size, 1, none⟩ = some (.int .i64 S) := by rw [hc5 _ _ (by simp)]; go_simp
  have HB5 : Below w.heap.size w w5 := bw_trans (bw_alloc HB4 _) hb5
  clear hc5 hf5
  go_wp2_with fail
  refine (HC6.out _).mono ?_
  rintro e w6 ⟨rfl, hb6⟩
  obtain ⟨hc6, hf6⟩ := bcell hb6
  have hs6 : w5.heap.size < w6.heap.size := by have h := hb6.size; simp at h; omega
  have k4 : w6.cell? ⟨w5.heap.size, 0, none⟩ = some (.int .i64 f) := by rw [hc6 _ _ (by simp)]; go_simp
  have k5 : w6.cell? ⟨w5.heap.size, 1, none⟩ = some (.int .i64 1) := by rw [hc6 _ _ (by simp)]; go_simp
  have HB6 : Below w.heap.size w w6 := bw_trans (bw_alloc HB5 _) hb6
  clear hc6 hf6
  go_wp2_with fail
  go_ret
  exact ⟨rfl, bw_alloc HB6 _⟩

end Go.Proofs.Ytclilanlhagppaa
