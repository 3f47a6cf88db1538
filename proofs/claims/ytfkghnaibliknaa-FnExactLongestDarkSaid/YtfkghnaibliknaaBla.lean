/-
  Parts of a wheel: open at a part, how many are open, two wheels, the best offset: in the program and in the reference.
-/
import Derived.Test.YtfkghnaibliknaaBlt
import Derived.LoopTactic
namespace Go.Proofs.Ytfkghnaibliknaa
open Go.RowKit

theorem validBlades_is {m o : Int} {b : Bool} (h : vBl m o = b) (w : World) :
    Calls Try.prog 16 #[.agg #[.int .i64 m, .int .i64 o]] w fun e w' => e = .returned (.bool b) ∧ Below w.heap.size w w' := by
  subst h; exact validBlades_any m o w
theorem l09Ok_is {m o : Int} {c : Bool} (h : vBl m o = c) (b off : Nat) (w : World) (hm : w.cell? ⟨b, off, none⟩ = some (.int .i64 m)) (ho : w.cell? ⟨b, off + 1, none⟩ = some (.int .i64 o)) :
    Calls Try.prog 39 #[.pointer (some ⟨b, off, none⟩)] w fun e w' => e = .returned (.bool c) ∧ Below w.heap.size w w' := by
  subst h; exact l09Ok_any m o b off w hm ho

/-- Light passes at a part. -/
def isOp (m o p : Int) : Bool := decide (p % (1000 / m) < o / m)
theorem div_bd {m : Int} (h1 : 1 ≤ m) (h2 : m ≤ 12) : 1 ≤ 1000 / m ∧ 1000 / m ≤ 1000 :=
  ⟨(Int.le_ediv_iff_mul_le (by omega)).2 (by omega), Int.ediv_le_self _ (by omega)⟩

set_option maxHeartbeats 400000 in
theorem isOpen_any (m o p : Int) (w : World) (hm : 1 ≤ m ∧ m ≤ 12) (ho : 1 ≤ o ∧ o ≤ 999) (hp : 0 ≤ p ∧ p ≤ 2000) :
    Calls Try.prog 43 #[.agg #[.int .i64 m, .int .i64 o], .int .i64 p] w fun e w' => e = .returned (.bool (isOp m o p)) ∧ Below w.heap.size w w' := by
  have hc0 := bel_cell (w := w.alloc (.cells #[.int .i64 m, .int .i64 o] 25)) (a := ⟨w.heap.size, 0, none⟩) (v := .int .i64 m) (by go_simp)
  have hc1 := bel_cell (w := w.alloc (.cells #[.int .i64 m, .int .i64 o] 25)) (a := ⟨w.heap.size, 1, none⟩) (v := .int .i64 o) (by go_simp)
  obtain ⟨m1, m2⟩ := hm
  obtain ⟨o1, o2⟩ := ho
  obtain ⟨p1, p2⟩ := hp
  obtain ⟨d1, d2⟩ := div_bd m1 m2
  go_enter Try.func43, Try.ntmps43
  go_wp2_with fail
  refine wp_region_bel (by kernel_rfl) (by kernel_rfl) ?_
  repeat (go_big_quiet_step ((fail)))
  refine wpQuiet_nil ?_
  intro wq hw'
  obtain ⟨tq, hw''⟩ := hw'
  have hwq := tq.2
  rw [← hw''] at hwq
  clear hw'' tq
  obtain ⟨hcwq, hfwq⟩ := bcell hwq
  try (have hzwq : w.heap.size < wq.heap.size := by (have h := hwq.size; (try simp at h); omega))
  try (have hywq : w.heap.size + 1 < wq.heap.size := by (have h := hwq.size; (try simp at h); omega))
  try (have hxwq : w.heap.size + 1 + 1 < wq.heap.size := by (have h := hwq.size; (try simp at h); omega))
  try (have hvwq : w.heap.size + 1 + 1 + 1 < wq.heap.size := by (have h := hwq.size; (try simp at h); omega))
  go_wp2
  go_ret
  refine ⟨ret_bool (by simp [isOp]), ?_⟩
  repeat (first | exact Below.refl _ _ | refine bw_drew ?_ | refine bw_drewN ?_ _ | refine bw_set ?_ (by simp; try omega) _ | refine bw_alloc ?_ _ | refine bw_trans ?_ (by assumption) | assumption)

set_option maxHeartbeats 400000 in
theorem l09Open_any (m o p : Int) (b off : Nat) (w : World) (hcm : w.cell? ⟨b, off, none⟩ = some (.int .i64 m)) (hco : w.cell? ⟨b, off + 1, none⟩ = some (.int .i64 o)) (hm : 1 ≤ m ∧ m ≤ 12) (ho : 1 ≤ o ∧ o ≤ 999) (hp : 0 ≤ p ∧ p ≤ 2000) :
    Calls Try.prog 42 #[.pointer (some ⟨b, off, none⟩), .int .i64 p] w fun e w' => e = .returned (.bool (isOp m o p)) ∧ Below w.heap.size w w' := by
  have hc0 := bel_cell hcm
  have hc1 := bel_cell hco
  obtain ⟨m1, m2⟩ := hm
  obtain ⟨o1, o2⟩ := ho
  obtain ⟨p1, p2⟩ := hp
  obtain ⟨d1, d2⟩ := div_bd m1 m2
  go_enter Try.func42, Try.ntmps42
  go_wp2_with fail
  refine wp_region_bel (by kernel_rfl) (by kernel_rfl) ?_
  repeat (go_big_quiet_step ((fail)))
  refine wpQuiet_nil ?_
  intro wq hw'
  obtain ⟨tq, hw''⟩ := hw'
  have hwq := tq.2
  rw [← hw''] at hwq
  clear hw'' tq
  obtain ⟨hcwq, hfwq⟩ := bcell hwq
  try (have hzwq : w.heap.size < wq.heap.size := by (have h := hwq.size; (try simp at h); omega))
  try (have hywq : w.heap.size + 1 < wq.heap.size := by (have h := hwq.size; (try simp at h); omega))
  try (have hxwq : w.heap.size + 1 + 1 < wq.heap.size := by (have h := hwq.size; (try simp at h); omega))
  try (have hvwq : w.heap.size + 1 + 1 + 1 < wq.heap.size := by (have h := hwq.size; (try simp at h); omega))
  go_wp2
  go_ret
  refine ⟨ret_bool (by simp [isOp]), ?_⟩
  repeat (first | exact Below.refl _ _ | refine bw_drew ?_ | refine bw_drewN ?_ _ | refine bw_set ?_ (by simp; try omega) _ | refine bw_alloc ?_ _ | refine bw_trans ?_ (by assumption) | assumption)

/-! ### IsOpenAt -/
def iaB (m o p : Int) : Bool := vBl m o && inB p 0 999 && isOp m o p
def iaC (m o p : Int) : Int := if vBl m o then (if inB p 0 999 then 0 else 2) else 1
theorem ia_cases (m o p : Int) : vBl m o = false ∨ (vBl m o = true ∧ inB p 0 999 = false) ∨ (vBl m o = true ∧ inB p 0 999 = true) := by
  cases vBl m o <;> cases inB p 0 999 <;> simp

set_option maxHeartbeats 400000 in
theorem isOpenAt_any (m o p : Int) (w : World) :
    Calls Try.prog 18 #[.agg #[.int .i64 m, .int .i64 o], .int .i64 p] w fun e w' => e = .returned (.tuple #[.bool (iaB m o p), .int .i64 (iaC m o p)]) ∧ Below w.heap.size w w' := by
  rcases ia_cases m o p with h1 | ⟨h1, h2⟩ | ⟨h1, h2⟩
  case' inr.inr =>
    obtain ⟨hm, _, ho, _⟩ := vBl_true.1 h1
    obtain ⟨p1, p2⟩ := inB_true.1 h2
  all_goals
    go_enter Try.func18, Try.ntmps18
    go_wp2_with (first | (go_at_call 16; refine (validBlades_is (by assumption) _).mono ?_; rintro e w1 ⟨rfl, hb1⟩; obtain ⟨hc1, hf1⟩ := bcell hb1; try (have hz1 : w.heap.size < w1.heap.size := by (have h := hb1.size; (try simp at h); omega)); try (have hy1 : w.heap.size + 1 < w1.heap.size := by (have h := hb1.size; (try simp at h); omega)); try (have hx1 : w.heap.size + 1 + 1 < w1.heap.size := by (have h := hb1.size; (try simp at h); omega)); try (have hv1 : w.heap.size + 1 + 1 + 1 < w1.heap.size := by (have h := hb1.size; (try simp at h); omega)); try (have hp1 : w.heap.size ≤ w1.heap.size := by omega)) | (go_at_call 40; refine (within_is (by assumption) _).mono ?_; rintro e w1 ⟨rfl, rfl⟩) | (go_at_call 43; refine (isOpen_any _ _ _ _ hm ho ⟨p1, by omega⟩).mono ?_; rintro e w1 ⟨rfl, hb1⟩; obtain ⟨hc1, hf1⟩ := bcell hb1; try (have hz1 : w.heap.size < w1.heap.size := by (have h := hb1.size; (try simp at h); omega)); try (have hy1 : w.heap.size + 1 < w1.heap.size := by (have h := hb1.size; (try simp at h); omega)); try (have hx1 : w.heap.size + 1 + 1 < w1.heap.size := by (have h := hb1.size; (try simp at h); omega)); try (have hv1 : w.heap.size + 1 + 1 + 1 < w1.heap.size := by (have h := hb1.size; (try simp at h); omega)); try (have hp1 : w.heap.size ≤ w1.heap.size := by omega)))
    go_ret2
    refine ⟨by simp [iaB, iaC, *], ?_⟩
    repeat (first | exact Below.refl _ _ | refine bw_drew ?_ | refine bw_drewN ?_ _ | refine bw_set ?_ (by simp; try omega) _ | refine bw_alloc ?_ _ | refine bw_trans ?_ (by assumption) | assumption)

set_option maxHeartbeats 400000 in
theorem sIsOpenAt_any (m o p : Int) (w : World) :
    Calls Try.prog 17 #[.agg #[.int .i64 m, .int .i64 o], .int .i64 p] w fun e w' => e = .returned (.tuple #[.bool (iaB m o p), .int .i64 (iaC m o p)]) ∧ Below w.heap.size w w' := by
  rcases ia_cases m o p with h1 | ⟨h1, h2⟩ | ⟨h1, h2⟩
  case' inr.inr =>
    obtain ⟨hm, _, ho, _⟩ := vBl_true.1 h1
    obtain ⟨p1, p2⟩ := inB_true.1 h2
  all_goals
    go_enter Try.func17, Try.ntmps17
    go_wp2_with (first | (go_at_call 39; refine (l09Ok_is (by assumption) _ _ _ (by go_simp) (by go_simp)).mono ?_; rintro e w1 ⟨rfl, hb1⟩; obtain ⟨hc1, hf1⟩ := bcell hb1; try (have hz1 : w.heap.size < w1.heap.size := by (have h := hb1.size; (try simp at h); omega)); try (have hy1 : w.heap.size + 1 < w1.heap.size := by (have h := hb1.size; (try simp at h); omega)); try (have hx1 : w.heap.size + 1 + 1 < w1.heap.size := by (have h := hb1.size; (try simp at h); omega)); try (have hv1 : w.heap.size + 1 + 1 + 1 < w1.heap.size := by (have h := hb1.size; (try simp at h); omega)); try (have hp1 : w.heap.size ≤ w1.heap.size := by omega)) | (go_at_call 41; refine (l00In_is (by assumption) _).mono ?_; rintro e w1 ⟨rfl, rfl⟩) | (go_at_call 42; refine (l09Open_any m o _ _ _ _ (by go_simp) (by go_simp) hm ho ⟨p1, by omega⟩).mono ?_; rintro e w1 ⟨rfl, hb1⟩; obtain ⟨hc1, hf1⟩ := bcell hb1; try (have hz1 : w.heap.size < w1.heap.size := by (have h := hb1.size; (try simp at h); omega)); try (have hy1 : w.heap.size + 1 < w1.heap.size := by (have h := hb1.size; (try simp at h); omega)); try (have hx1 : w.heap.size + 1 + 1 < w1.heap.size := by (have h := hb1.size; (try simp at h); omega)); try (have hv1 : w.heap.size + 1 + 1 + 1 < w1.heap.size := by (have h := hb1.size; (try simp at h); omega)); try (have hp1 : w.heap.size ≤ w1.heap.size := by omega)))
    go_ret2
    refine ⟨by simp [iaB, iaC, *], ?_⟩
    repeat (first | exact Below.refl _ _ | refine bw_drew ?_ | refine bw_drewN ?_ _ | refine bw_set ?_ (by simp; try omega) _ | refine bw_alloc ?_ _ | refine bw_trans ?_ (by assumption) | assumption)

set_option maxHeartbeats 400000 in
theorem law_IsOpenAt (m o p : Int) (w : World) :
    Calls Try.prog 4 #[.agg #[.int .i64 m, .int .i64 o], .int .i64 p] w fun e w' => e = .returned (.bool true) ∧ Below w.heap.size w w' := by
  go_enter Try.func4, Try.ntmps4
  go_wp2_with fail
  refine ((toBlades_any _ _ _)).mono ?_
  rintro e w1 ⟨rfl, hb1⟩
  obtain ⟨hc1, hf1⟩ := bcell hb1
  try (have hz1 : w.heap.size < w1.heap.size := by (have h := hb1.size; (try simp at h); omega))
  try (have hy1 : w.heap.size + 1 < w1.heap.size := by (have h := hb1.size; (try simp at h); omega))
  try (have hx1 : w.heap.size + 1 + 1 < w1.heap.size := by (have h := hb1.size; (try simp at h); omega))
  try (have hv1 : w.heap.size + 1 + 1 + 1 < w1.heap.size := by (have h := hb1.size; (try simp at h); omega))
  try (have hp1 : w.heap.size ≤ w1.heap.size := by omega)
  go_wp2_with fail
  refine ((sIsOpenAt_any _ _ _ _)).mono ?_
  rintro e w2 ⟨rfl, hb2⟩
  obtain ⟨hc2, hf2⟩ := bcell hb2
  try (have hz2 : w.heap.size < w2.heap.size := by (have h := hb2.size; (try simp at h); omega))
  try (have hy2 : w.heap.size + 1 < w2.heap.size := by (have h := hb2.size; (try simp at h); omega))
  try (have hx2 : w.heap.size + 1 + 1 < w2.heap.size := by (have h := hb2.size; (try simp at h); omega))
  try (have hv2 : w.heap.size + 1 + 1 + 1 < w2.heap.size := by (have h := hb2.size; (try simp at h); omega))
  try (have hp2 : w.heap.size ≤ w2.heap.size := by omega)
  go_wp2_with fail
  refine ((toBlades_any _ _ _)).mono ?_
  rintro e w3 ⟨rfl, hb3⟩
  obtain ⟨hc3, hf3⟩ := bcell hb3
  try (have hz3 : w.heap.size < w3.heap.size := by (have h := hb3.size; (try simp at h); omega))
  try (have hy3 : w.heap.size + 1 < w3.heap.size := by (have h := hb3.size; (try simp at h); omega))
  try (have hx3 : w.heap.size + 1 + 1 < w3.heap.size := by (have h := hb3.size; (try simp at h); omega))
  try (have hv3 : w.heap.size + 1 + 1 + 1 < w3.heap.size := by (have h := hb3.size; (try simp at h); omega))
  try (have hp3 : w.heap.size ≤ w3.heap.size := by omega)
  go_wp2_with fail
  refine ((isOpenAt_any _ _ _ _)).mono ?_
  rintro e w4 ⟨rfl, hb4⟩
  obtain ⟨hc4, hf4⟩ := bcell hb4
  try (have hz4 : w.heap.size < w4.heap.size := by (have h := hb4.size; (try simp at h); omega))
  try (have hy4 : w.heap.size + 1 < w4.heap.size := by (have h := hb4.size; (try simp at h); omega))
  try (have hx4 : w.heap.size + 1 + 1 < w4.heap.size := by (have h := hb4.size; (try simp at h); omega))
  try (have hv4 : w.heap.size + 1 + 1 + 1 < w4.heap.size := by (have h := hb4.size; (try simp at h); omega))
  try (have hp4 : w.heap.size ≤ w4.heap.size := by omega)
  go_wp2
  go_ret
  refine ⟨rfl, ?_⟩
  repeat (first | exact Below.refl _ _ | refine bw_drew ?_ | refine bw_drewN ?_ _ | refine bw_set ?_ (by simp; try omega) _ | refine bw_alloc ?_ _ | refine bw_trans ?_ (by assumption) | assumption)
end Go.Proofs.Ytfkghnaibliknaa
