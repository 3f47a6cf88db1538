/-
  A shutter wheel: its validity, in the program and in the reference.
-/
import Derived.Test.YtfkghnaibliknaaBase
import Derived.Test.YtfkghnaibliknaaCalm
namespace Go.Proofs.Ytfkghnaibliknaa
open Go.RowKit

def vBl (m o : Int) : Bool := inB m 1 12 && ((1000:Int) % m == 0) && inB o 1 999 && (o % m == 0)
theorem vBl_true {m o : Int} : vBl m o = true ↔ (1 ≤ m ∧ m ≤ 12) ∧ (1000:Int) % m = 0 ∧ (1 ≤ o ∧ o ≤ 999) ∧ o % m = 0 := by
  simp [vBl, inB_true, and_assoc]

theorem vBl_cases (m o : Int) : (inB m 1 12 = false) ∨ (inB m 1 12 = true ∧ ((1000:Int) % m == 0) = false) ∨ (inB m 1 12 = true ∧ ((1000:Int) % m == 0) = true ∧ inB o 1 999 = false) ∨
    (inB m 1 12 = true ∧ ((1000:Int) % m == 0) = true ∧ inB o 1 999 = true ∧ (o % m == 0) = false) ∨ (inB m 1 12 = true ∧ ((1000:Int) % m == 0) = true ∧ inB o 1 999 = true ∧ (o % m == 0) = true) := by
  cases inB m 1 12 <;> cases ((1000:Int) % m == 0) <;> cases inB o 1 999 <;> cases (o % m == 0) <;> simp

set_option maxHeartbeats 400000 in
theorem validBlades_any (m o : Int) (w : World) :
    Calls Try.prog 16 #[.agg #[.int .i64 m, .int .i64 o]] w fun e w' => e = .returned (.bool (vBl m o)) ∧ Below w.heap.size w w' := by
  rcases vBl_cases m o with h1 | ⟨h1, h2⟩ | ⟨h1, h2, h3⟩ | ⟨h1, h2, h3, h4⟩ | ⟨h1, h2, h3, h4⟩
  case inl =>
    go_enter Try.func16, Try.ntmps16
    go_wp2_with (go_at_call 40; refine (within_any _ _ _ _).mono ?_; rintro e w' ⟨rfl, rfl⟩)
    go_ret
    exact ⟨ret_bool (by simp [vBl, *]), (Below.refl _ _).alloc (Nat.le_refl _) _⟩
  all_goals
    obtain ⟨b1, b1'⟩ := inB_true.1 h1
  case inr.inl =>
    go_enter Try.func16, Try.ntmps16
    go_wp2_with (go_at_call 40; refine (within_any _ _ _ _).mono ?_; rintro e w' ⟨rfl, rfl⟩)
    go_ret
    exact ⟨ret_bool (by simp [vBl, *]), (Below.refl _ _).alloc (Nat.le_refl _) _⟩
  case inr.inr.inl =>
    go_enter Try.func16, Try.ntmps16
    go_wp2_with (go_at_call 40; refine (within_any _ _ _ _).mono ?_; rintro e w' ⟨rfl, rfl⟩)
    go_ret
    exact ⟨ret_bool (by simp [vBl, *]), (Below.refl _ _).alloc (Nat.le_refl _) _⟩
  all_goals
    obtain ⟨b3, b3'⟩ := inB_true.1 h3
    go_enter Try.func16, Try.ntmps16
    go_wp2_with (go_at_call 40; refine (within_any _ _ _ _).mono ?_; rintro e w' ⟨rfl, rfl⟩)
    go_ret
    exact ⟨ret_bool (by simp [vBl, *]), (Below.refl _ _).alloc (Nat.le_refl _) _⟩

theorem vBl_cases' (m o : Int) : (inB m 1 12 = false) ∨ (inB m 1 12 = true ∧ inB o 1 999 = false) ∨ (inB m 1 12 = true ∧ inB o 1 999 = true ∧ (o % m == 0) = false) ∨
    (inB m 1 12 = true ∧ inB o 1 999 = true ∧ (o % m == 0) = true ∧ ((1000:Int) % m == 0) = false) ∨ (inB m 1 12 = true ∧ inB o 1 999 = true ∧ (o % m == 0) = true ∧ ((1000:Int) % m == 0) = true) := by
  cases inB m 1 12 <;> cases ((1000:Int) % m == 0) <;> cases inB o 1 999 <;> cases (o % m == 0) <;> simp

set_option maxHeartbeats 400000 in
theorem l09Ok_any (m o : Int) (b off : Nat) (w : World) (hm : w.cell? ⟨b, off, none⟩ = some (.int .i64 m)) (ho : w.cell? ⟨b, off + 1, none⟩ = some (.int .i64 o)) :
    Calls Try.prog 39 #[.pointer (some ⟨b, off, none⟩)] w fun e w' => e = .returned (.bool (vBl m o)) ∧ Below w.heap.size w w' := by
  have hc0 := bel_cell hm
  have hc1 := bel_cell ho
  rcases vBl_cases' m o with h1 | ⟨h1, h2⟩ | ⟨h1, h2, h3⟩ | ⟨h1, h2, h3, h4⟩ | ⟨h1, h2, h3, h4⟩
  case inl =>
    go_enter Try.func39, Try.ntmps39
    go_wp2_with fail
    refine wp_region_bel (by kernel_rfl) (by kernel_rfl) ?_
    repeat (go_big_quiet_step (((go_at_call 41; exact calm_same (l00In_is (by assumption) _)))))
    refine wpQuiet_nil ?_
    intro wq hw'
    obtain ⟨tq, hw''⟩ := hw'
    have hwq := tq.2
    rw [← hw''] at hwq
    clear hw'' tq
    obtain ⟨hcwq, hfwq⟩ := bcell hwq
    try (have hzwq : w.heap.size < wq.heap.size := by (have h := hwq.size; (try simp at h); omega))
    try (have hywq : w.heap.size + 1 < wq.heap.size := by (have h := hwq.size; (try simp at h); omega))
    try (have hxwq : w.heap.size + 1 + 1 < wq.heap.size := by (have h := hwq.size; (try simp at h); omega))
    try (have hvwq : w.heap.size + 1 + 1 + 1 < wq.heap.size := by (have h := hwq.size; (try simp at h); omega))
    go_wp2
    go_ret
    exact ⟨ret_bool (by simp [vBl, *]), hwq⟩
  all_goals
    obtain ⟨b1, b1'⟩ := inB_true.1 h1
  case inr.inl =>
    go_enter Try.func39, Try.ntmps39
    go_wp2_with fail
    refine wp_region_bel (by kernel_rfl) (by kernel_rfl) ?_
    repeat (go_big_quiet_step (((go_at_call 41; exact calm_same (l00In_is (by assumption) _)))))
    refine wpQuiet_nil ?_
    intro wq hw'
    obtain ⟨tq, hw''⟩ := hw'
    have hwq := tq.2
    rw [← hw''] at hwq
    clear hw'' tq
    obtain ⟨hcwq, hfwq⟩ := bcell hwq
    try (have hzwq : w.heap.size < wq.heap.size := by (have h := hwq.size; (try simp at h); omega))
    try (have hywq : w.heap.size + 1 < wq.heap.size := by (have h := hwq.size; (try simp at h); omega))
    try (have hxwq : w.heap.size + 1 + 1 < wq.heap.size := by (have h := hwq.size; (try simp at h); omega))
    try (have hvwq : w.heap.size + 1 + 1 + 1 < wq.heap.size := by (have h := hwq.size; (try simp at h); omega))
    go_wp2
    go_ret
    exact ⟨ret_bool (by simp [vBl, *]), hwq⟩
  all_goals
    obtain ⟨b2, b2'⟩ := inB_true.1 h2
    go_enter Try.func39, Try.ntmps39
    go_wp2_with fail
    refine wp_region_bel (by kernel_rfl) (by kernel_rfl) ?_
    repeat (go_big_quiet_step (((go_at_call 41; exact calm_same (l00In_is (by assumption) _)))))
    refine wpQuiet_nil ?_
    intro wq hw'
    obtain ⟨tq, hw''⟩ := hw'
    have hwq := tq.2
    rw [← hw''] at hwq
    clear hw'' tq
    obtain ⟨hcwq, hfwq⟩ := bcell hwq
    try (have hzwq : w.heap.size < wq.heap.size := by (have h := hwq.size; (try simp at h); omega))
    try (have hywq : w.heap.size + 1 < wq.heap.size := by (have h := hwq.size; (try simp at h); omega))
    try (have hxwq : w.heap.size + 1 + 1 < wq.heap.size := by (have h := hwq.size; (try simp at h); omega))
    try (have hvwq : w.heap.size + 1 + 1 + 1 < wq.heap.size := by (have h := hwq.size; (try simp at h); omega))
    go_wp2
    go_ret
    exact ⟨ret_bool (by simp [vBl, *]), hwq⟩
end Go.Proofs.Ytfkghnaibliknaa
