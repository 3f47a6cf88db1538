/-
  One hall: whether it is valid, whether a lens suits it, which lenses suit it: in the program and in the reference.
-/
import Derived.Test.YthhilkahfgpncaaHb
namespace Go.Proofs.Ythhilkahfgpncaa
open Go.RowKit

theorem mul_ab {a b A B : Int} (h1 : -A ≤ a) (h2 : a ≤ A) (h3 : -B ≤ b) (h4 : b ≤ B) : -(A * B) ≤ a * b ∧ a * b ≤ A * B := by
  have hA : 0 ≤ A := by omega
  have hB : 0 ≤ B := by omega
  have h5 : (a * b).natAbs ≤ A.natAbs * B.natAbs := by rw [Int.natAbs_mul]; exact Nat.mul_le_mul (by omega) (by omega)
  have h6 : ((A.natAbs * B.natAbs : Nat) : Int) = A * B := by rw [Int.natCast_mul]; congr 1 <;> omega
  omega

def vHa (t l x : Int) : Bool := isTh t && inB l 1 100000 && inB x l 100000
theorem vHa_true {t l x : Int} : vHa t l x = true ↔ (1 ≤ t ∧ t ≤ 100000) ∧ (1 ≤ l ∧ l ≤ 100000) ∧ (l ≤ x ∧ x ≤ 100000) := by
  simp [vHa, isTh, inB_true, and_assoc]

set_option maxHeartbeats 800000 in
theorem validHall_any (t l x : Int) (w : World) :
    Calls Try.prog 57 #[.agg #[.int .i64 t, .int .i64 l, .int .i64 x]] w fun e w' => e = .returned (.bool (vHa t l x)) ∧ Below w.heap.size w w' := by
  have hv : vHa t l x = (isTh t && decide (1 ≤ l) && decide (l ≤ x) && decide (x ≤ 100000)) := by
    rw [Bool.eq_iff_iff]; simp [vHa, inB_true]
    constructor
    · rintro ⟨⟨a, b, _⟩, d, e⟩; exact ⟨⟨⟨a, b⟩, d⟩, e⟩
    · rintro ⟨⟨⟨a, b⟩, d⟩, e⟩; exact ⟨⟨a, b, by omega⟩, d, e⟩
  have HV := Lib.hid hv
  clear hv
  cases h1 : isTh t
  case false =>
    go_enter Try.func57, Try.ntmps57
    go_wp2_with (go_at_call 91; refine (isThrow_is (by assumption) _).mono ?_; rintro e w1 ⟨rfl, rfl⟩)
    go_ret
    refine ⟨ret_bool (by rw [HV.out]; simp [*]), ?_⟩
    repeat (first | exact Below.refl _ _ | refine bw_drew ?_ | refine bw_drewN ?_ _ | refine bw_set ?_ (by simp; try omega) _ | refine bw_alloc ?_ _ | refine bw_trans ?_ (by assumption) | assumption)
  cases h2 : decide (1 ≤ l)
  case false =>
    go_enter Try.func57, Try.ntmps57
    go_wp2_with (go_at_call 91; refine (isThrow_is (by assumption) _).mono ?_; rintro e w1 ⟨rfl, rfl⟩)
    go_ret
    refine ⟨ret_bool (by rw [HV.out]; simp [*]), ?_⟩
    repeat (first | exact Below.refl _ _ | refine bw_drew ?_ | refine bw_drewN ?_ _ | refine bw_set ?_ (by simp; try omega) _ | refine bw_alloc ?_ _ | refine bw_trans ?_ (by assumption) | assumption)
  cases h3 : decide (l ≤ x)
  case false =>
    go_enter Try.func57, Try.ntmps57
    go_wp2_with (go_at_call 91; refine (isThrow_is (by assumption) _).mono ?_; rintro e w1 ⟨rfl, rfl⟩)
    go_ret
    refine ⟨ret_bool (by rw [HV.out]; simp [*]), ?_⟩
    repeat (first | exact Below.refl _ _ | refine bw_drew ?_ | refine bw_drewN ?_ _ | refine bw_set ?_ (by simp; try omega) _ | refine bw_alloc ?_ _ | refine bw_trans ?_ (by assumption) | assumption)
  cases h4 : decide (x ≤ 100000)
  all_goals
    go_enter Try.func57, Try.ntmps57
    go_wp2_with (go_at_call 91; refine (isThrow_is (by assumption) _).mono ?_; rintro e w1 ⟨rfl, rfl⟩)
    go_ret
    refine ⟨ret_bool (by rw [HV.out]; simp [*]), ?_⟩
    repeat (first | exact Below.refl _ _ | refine bw_drew ?_ | refine bw_drewN ?_ _ | refine bw_set ?_ (by simp; try omega) _ | refine bw_alloc ?_ _ | refine bw_trans ?_ (by assumption) | assumption)

set_option maxHeartbeats 800000 in
theorem l11One_any (t l x : Int) (b off : Nat) (w : World) (ht : w.cell? ⟨b, off, none⟩ = some (.int .i64 t)) (hl : w.cell? ⟨b, off + 1, none⟩ = some (.int .i64 l)) (hx : w.cell? ⟨b, off + 2, none⟩ = some (.int .i64 x)) :
    Calls Try.prog 52 #[.pointer (some ⟨b, off, none⟩)] w fun e w' => e = .returned (.bool (vHa t l x)) ∧ Below w.heap.size w w' := by
  have hbl := World.block_lt_of_cell? w _ ht
  cases h1 : isTh t
  case false =>
    have h1' : inB t 1 100000 = false := h1
    go_enter Try.func52, Try.ntmps52
    go_wp2_with fail
    refine wp_region_bel (by kernel_rfl) (by kernel_rfl) ?_
    repeat (go_big_quiet_step (((go_at_call 68; exact calm_same (l00In_is (by assumption) _)))))
    refine wpQuiet_nil ?_
    intro wq hw'
    obtain ⟨tq, hw''⟩ := hw'
    have hwq := tq.2
    rw [← hw''] at hwq
    clear hw'' tq
    obtain ⟨hcwq, hfwq⟩ := bcell hwq
    try (have hzwq : w.heap.size < wq.heap.size := by (have h := hwq.size; (try simp at h); omega))
    try (have hywq : w.heap.size + 1 < wq.heap.size := by (have h := hwq.size; (try simp at h); omega))
    try (have hxwq : w.heap.size + 1 + 1 < wq.heap.size := by (have h := hwq.size; (try simp at h); omega))
    try (have hvwq : w.heap.size + 1 + 1 + 1 < wq.heap.size := by (have h := hwq.size; (try simp at h); omega))
    go_wp2
    go_ret
    exact ⟨ret_bool (by simp [vHa, *]), hwq⟩
  have h1' : inB t 1 100000 = true := h1
  cases h2 : inB l 1 100000
  case false =>
    go_enter Try.func52, Try.ntmps52
    go_wp2_with fail
    refine wp_region_bel (by kernel_rfl) (by kernel_rfl) ?_
    repeat (go_big_quiet_step (((go_at_call 68; exact calm_same (l00In_is (by assumption) _)))))
    refine wpQuiet_nil ?_
    intro wq hw'
    obtain ⟨tq, hw''⟩ := hw'
    have hwq := tq.2
    rw [← hw''] at hwq
    clear hw'' tq
    obtain ⟨hcwq, hfwq⟩ := bcell hwq
    try (have hzwq : w.heap.size < wq.heap.size := by (have h := hwq.size; (try simp at h); omega))
    try (have hywq : w.heap.size + 1 < wq.heap.size := by (have h := hwq.size; (try simp at h); omega))
    try (have hxwq : w.heap.size + 1 + 1 < wq.heap.size := by (have h := hwq.size; (try simp at h); omega))
    try (have hvwq : w.heap.size + 1 + 1 + 1 < wq.heap.size := by (have h := hwq.size; (try simp at h); omega))
    go_wp2
    go_ret
    exact ⟨ret_bool (by simp [vHa, *]), hwq⟩
  cases h3 : inB x l 100000
  all_goals
    go_enter Try.func52, Try.ntmps52
    go_wp2_with fail
    refine wp_region_bel (by kernel_rfl) (by kernel_rfl) ?_
    repeat (go_big_quiet_step (((go_at_call 68; exact calm_same (l00In_is (by assumption) _)))))
    refine wpQuiet_nil ?_
    intro wq hw'
    obtain ⟨tq, hw''⟩ := hw'
    have hwq := tq.2
    rw [← hw''] at hwq
    clear hw'' tq
    obtain ⟨hcwq, hfwq⟩ := bcell hwq
    try (have hzwq : w.heap.size < wq.heap.size := by (have h := hwq.size; (try simp at h); omega))
    try (have hywq : w.heap.size + 1 < wq.heap.size := by (have h := hwq.size; (try simp at h); omega))
    try (have hxwq : w.heap.size + 1 + 1 < wq.heap.size := by (have h := hwq.size; (try simp at h); omega))
    try (have hvwq : w.heap.size + 1 + 1 + 1 < wq.heap.size := by (have h := hwq.size; (try simp at h); omega))
    go_wp2
    go_ret
    exact ⟨ret_bool (by simp [vHa, *]), hwq⟩

theorem validHall_is {t l x : Int} {b : Bool} (h : vHa t l x = b) (w : World) :
    Calls Try.prog 57 #[.agg #[.int .i64 t, .int .i64 l, .int .i64 x]] w fun e w' => e = .returned (.bool b) ∧ Below w.heap.size w w' := by
  subst h; exact validHall_any t l x w
theorem l11One_is {t l x : Int} {c : Bool} (h : vHa t l x = c) (b off : Nat) (w : World) (ht : w.cell? ⟨b, off, none⟩ = some (.int .i64 t)) (hl : w.cell? ⟨b, off + 1, none⟩ = some (.int .i64 l)) (hx : w.cell? ⟨b, off + 2, none⟩ = some (.int .i64 x)) :
    Calls Try.prog 52 #[.pointer (some ⟨b, off, none⟩)] w fun e w' => e = .returned (.bool c) ∧ Below w.heap.size w w' := by
  subst h; exact l11One_any t l x b off w ht hl hx

def suB (t l x s f : Int) : Bool := decide (l * f ≤ s * (t - f)) && decide (s * (t - f) ≤ x * f)

set_option maxHeartbeats 800000 in
theorem suits_any (t l x s f : Int) (w : World) (hv : vHa t l x = true) (hs : isSl s = true) (hf : 1 ≤ f ∧ f ≤ 2000) :
    Calls Try.prog 58 #[.agg #[.int .i64 t, .int .i64 l, .int .i64 x], .int .i64 s, .int .i64 f] w fun e w' => e = .returned (.bool (suB t l x s f)) ∧ Below w.heap.size w w' := by
  obtain ⟨⟨t1, t2⟩, ⟨l1, l2⟩, ⟨x1, x2⟩⟩ := vHa_true.1 hv
  obtain ⟨s1, s2⟩ := isSl_true.1 hs
  obtain ⟨f1, f2⟩ := hf
  obtain ⟨a1, a2⟩ := mul_ab (a := s) (b := t - f) (A := 200) (B := 100000) (by omega) (by omega) (by omega) (by omega)
  obtain ⟨b1, b2⟩ := mul_ab (a := l) (b := f) (A := 100000) (B := 2000) (by omega) (by omega) (by omega) (by omega)
  obtain ⟨c1, c2⟩ := mul_ab (a := x) (b := f) (A := 100000) (B := 2000) (by omega) (by omega) (by omega) (by omega)
  clear hv hs
  cases h1 : decide (l * f ≤ s * (t - f))
  · go_enter Try.func58, Try.ntmps58
    go_wp2
    go_ret
    refine ⟨ret_bool (by simp [suB, h1]), ?_⟩
    repeat (first | exact Below.refl _ _ | refine bw_drew ?_ | refine bw_drewN ?_ _ | refine bw_set ?_ (by simp; try omega) _ | refine bw_alloc ?_ _ | refine bw_trans ?_ (by assumption) | assumption)
  · go_enter Try.func58, Try.ntmps58
    go_wp2
    go_ret
    refine ⟨ret_bool (by simp [suB, h1]), ?_⟩
    repeat (first | exact Below.refl _ _ | refine bw_drew ?_ | refine bw_drewN ?_ _ | refine bw_set ?_ (by simp; try omega) _ | refine bw_alloc ?_ _ | refine bw_trans ?_ (by assumption) | assumption)

set_option maxHeartbeats 800000 in
theorem l11Suits_any (t l x s f : Int) (b off : Nat) (w : World) (hv : vHa t l x = true) (hs : isSl s = true) (hf : 1 ≤ f ∧ f ≤ 2000) (ht : w.cell? ⟨b, off, none⟩ = some (.int .i64 t)) (hl : w.cell? ⟨b, off + 1, none⟩ = some (.int .i64 l)) (hx : w.cell? ⟨b, off + 2, none⟩ = some (.int .i64 x)) :
    Calls Try.prog 55 #[.pointer (some ⟨b, off, none⟩), .int .i64 s, .int .i64 f] w fun e w' => e = .returned (.bool (suB t l x s f)) ∧ Below w.heap.size w w' := by
  have hbl := World.block_lt_of_cell? w _ ht
  obtain ⟨⟨t1, t2⟩, ⟨l1, l2⟩, ⟨x1, x2⟩⟩ := vHa_true.1 hv
  obtain ⟨s1, s2⟩ := isSl_true.1 hs
  obtain ⟨f1, f2⟩ := hf
  obtain ⟨a1, a2⟩ := mul_ab (a := s) (b := t - f) (A := 200) (B := 100000) (by omega) (by omega) (by omega) (by omega)
  obtain ⟨b1, b2⟩ := mul_ab (a := l) (b := f) (A := 100000) (B := 2000) (by omega) (by omega) (by omega) (by omega)
  obtain ⟨c1, c2⟩ := mul_ab (a := x) (b := f) (A := 100000) (B := 2000) (by omega) (by omega) (by omega) (by omega)
  clear hv hs
  cases h1 : decide (l * f ≤ s * (t - f))
  all_goals
    go_enter Try.func55, Try.ntmps55
    go_wp2
    go_ret
    exact ⟨ret_bool (by simp [suB, h1]), Below.refl _ _⟩
end Go.Proofs.Ythhilkahfgpncaa
