/-
  Rates: how often a wheel flickers, whether it is steady, the slowest rate, the lit share, the longest dark: in the program and in the reference; the laws.
-/
import Derived.Test.YtfkghnaibliknaaBla
import Derived.Test.YtfkghnaibliknaaFrac
namespace Go.Proofs.Ytfkghnaibliknaa
open Go.RowKit

theorem mul_bd {a b A B : Int} (h1 : 0 ≤ a) (h2 : a ≤ A) (h3 : 0 ≤ b) (h4 : b ≤ B) : 0 ≤ a * b ∧ a * b ≤ A * B :=
  ⟨Int.mul_nonneg h1 h3, Int.mul_le_mul h2 h4 h3 (by omega)⟩

theorem validFraction_is {n d : Int} {b : Bool} (h : vFrac n d = b) (w : World) :
    Calls Try.prog 57 #[.agg #[.int .i64 n, .int .i64 d]] w fun e w' => e = .returned (.bool b) ∧ Below w.heap.size w w' := by
  subst h; exact validFraction_any n d w
theorem l02Ok_is {n d : Int} {b : Bool} (h : vFrac n d = b) (w : World) :
    Calls Try.prog 48 #[.agg #[.int .i64 n, .int .i64 d]] w fun e w' => e = .returned (.bool b) ∧ Below w.heap.size w w' := by
  subst h; exact l02Ok_any n d w

def isRt (n d : Int) : Bool := inB n 1 1000 && decide (d ≤ 1000)
theorem isRt_true {n d : Int} : isRt n d = true ↔ (1 ≤ n ∧ n ≤ 1000) ∧ d ≤ 1000 := by simp [isRt, inB_true]
theorem isRt_cases (n d : Int) : inB n 1 1000 = false ∨ (inB n 1 1000 = true ∧ decide (d ≤ 1000) = false) ∨ (inB n 1 1000 = true ∧ decide (d ≤ 1000) = true) := by
  cases inB n 1 1000 <;> cases decide (d ≤ 1000) <;> simp

set_option maxHeartbeats 400000 in
theorem isRate_any (n d : Int) (w : World) :
    Calls Try.prog 58 #[.agg #[.int .i64 n, .int .i64 d]] w fun e w' => e = .returned (.bool (isRt n d)) ∧ Below w.heap.size w w' := by
  rcases isRt_cases n d with h1 | ⟨h1, h2⟩ | ⟨h1, h2⟩
  all_goals
    go_enter Try.func58, Try.ntmps58
    go_wp2_with (go_at_call 40; refine (within_is (by assumption) _).mono ?_; rintro e w1 ⟨rfl, rfl⟩)
    go_ret
    refine ⟨ret_bool (by simp only [isRt, h1]; simp_all), ?_⟩
    repeat (first | exact Below.refl _ _ | refine bw_drew ?_ | refine bw_drewN ?_ _ | refine bw_set ?_ (by simp; try omega) _ | refine bw_alloc ?_ _ | refine bw_trans ?_ (by assumption) | assumption)
theorem isRate_is {n d : Int} {b : Bool} (h : isRt n d = b) (w : World) :
    Calls Try.prog 58 #[.agg #[.int .i64 n, .int .i64 d]] w fun e w' => e = .returned (.bool b) ∧ Below w.heap.size w w' := by
  subst h; exact isRate_any n d w

set_option maxHeartbeats 400000 in
theorem l09Rate_any (n d : Int) (w : World) :
    Calls Try.prog 49 #[.agg #[.int .i64 n, .int .i64 d]] w fun e w' => e = .returned (.bool (vFrac n d && isRt n d)) ∧ Below w.heap.size w w' := by
  cases hv : vFrac n d
  · go_enter Try.func49, Try.ntmps49
    go_wp2_with (first | (go_at_call 41; refine (l00In_is (by assumption) _).mono ?_; rintro e w1 ⟨rfl, rfl⟩) | (go_at_call 48; refine (l02Ok_is (by assumption) _).mono ?_; rintro e w1 ⟨rfl, hb1⟩; obtain ⟨hc1, hf1⟩ := bcell hb1; try (have hz1 : w.heap.size < w1.heap.size := by (have h := hb1.size; (try simp at h); omega)); try (have hy1 : w.heap.size + 1 < w1.heap.size := by (have h := hb1.size; (try simp at h); omega)); try (have hx1 : w.heap.size + 1 + 1 < w1.heap.size := by (have h := hb1.size; (try simp at h); omega)); try (have hv1 : w.heap.size + 1 + 1 + 1 < w1.heap.size := by (have h := hb1.size; (try simp at h); omega)); try (have hp1 : w.heap.size ≤ w1.heap.size := by omega)))
    go_ret
    refine ⟨ret_bool (by simp), ?_⟩
    repeat (first | exact Below.refl _ _ | refine bw_drew ?_ | refine bw_drewN ?_ _ | refine bw_set ?_ (by simp; try omega) _ | refine bw_alloc ?_ _ | refine bw_trans ?_ (by assumption) | assumption)
  rcases isRt_cases n d with h1 | ⟨h1, h2⟩ | ⟨h1, h2⟩
  all_goals
    go_enter Try.func49, Try.ntmps49
    go_wp2_with (first | (go_at_call 41; refine (l00In_is (by assumption) _).mono ?_; rintro e w1 ⟨rfl, rfl⟩) | (go_at_call 48; refine (l02Ok_is (by assumption) _).mono ?_; rintro e w1 ⟨rfl, hb1⟩; obtain ⟨hc1, hf1⟩ := bcell hb1; try (have hz1 : w.heap.size < w1.heap.size := by (have h := hb1.size; (try simp at h); omega)); try (have hy1 : w.heap.size + 1 < w1.heap.size := by (have h := hb1.size; (try simp at h); omega)); try (have hx1 : w.heap.size + 1 + 1 < w1.heap.size := by (have h := hb1.size; (try simp at h); omega)); try (have hv1 : w.heap.size + 1 + 1 + 1 < w1.heap.size := by (have h := hb1.size; (try simp at h); omega)); try (have hp1 : w.heap.size ≤ w1.heap.size := by omega)))
    go_ret
    refine ⟨ret_bool (by simp only [isRt, h1]; simp_all), ?_⟩
    repeat (first | exact Below.refl _ _ | refine bw_drew ?_ | refine bw_drewN ?_ _ | refine bw_set ?_ (by simp; try omega) _ | refine bw_alloc ?_ _ | refine bw_trans ?_ (by assumption) | assumption)
theorem l09Rate_is {n d : Int} {b : Bool} (h : (vFrac n d && isRt n d) = b) (w : World) :
    Calls Try.prog 49 #[.agg #[.int .i64 n, .int .i64 d]] w fun e w' => e = .returned (.bool b) ∧ Below w.heap.size w w' := by
  subst h; exact l09Rate_any n d w

theorem l09Least_is {n : Int} {b : Bool} (h : inB n 1 200 = b) (w : World) :
    Calls Try.prog 50 #[.int .i64 n] w fun e w' => e = .returned (.bool b) ∧ w = w' := by
  go_enter Try.func50, Try.ntmps50
  go_wp2_with (go_at_call 41; refine (l00In_is (by assumption) _).mono ?_; rintro e w1 ⟨rfl, rfl⟩)
  go_ret
  exact ⟨rfl, rfl⟩

/-- The code of a wheel that is valid or not, a rate, a threshold. -/
def rcC (v : Bool) (n d l : Int) : Int := if v && vFrac n d then (if isRt n d && inB l 1 200 then 0 else 2) else 1
theorem rc_cases (v : Bool) (n d l : Int) : v = false ∨ (v = true ∧ vFrac n d = false) ∨ (v = true ∧ vFrac n d = true ∧ isRt n d = false) ∨
    (v = true ∧ vFrac n d = true ∧ isRt n d = true ∧ inB l 1 200 = false) ∨ (v = true ∧ vFrac n d = true ∧ isRt n d = true ∧ inB l 1 200 = true) := by
  cases v <;> cases vFrac n d <;> cases isRt n d <;> cases inB l 1 200 <;> simp
theorem rc_three (v : Bool) (n d l : Int) : (rcC v n d l = 1 ∧ (v && vFrac n d) = false) ∨ (rcC v n d l = 2 ∧ (v && vFrac n d) = true ∧ (isRt n d && inB l 1 200) = false) ∨ (rcC v n d l = 0 ∧ (v && vFrac n d) = true ∧ (isRt n d && inB l 1 200) = true) := by
  unfold rcC; cases (v && vFrac n d) <;> cases (isRt n d && inB l 1 200) <;> simp

set_option maxHeartbeats 400000 in
theorem rateCode_any (v : Bool) (n d l : Int) (w : World) :
    Calls Try.prog 51 #[.bool v, .agg #[.int .i64 n, .int .i64 d], .int .i64 l] w fun e w' => e = .returned (.int .i64 (rcC v n d l)) ∧ Below w.heap.size w w' := by
  rcases rc_cases v n d l with rfl | ⟨rfl, h2⟩ | ⟨rfl, h2, h3⟩ | ⟨rfl, h2, h3, h4⟩ | ⟨rfl, h2, h3, h4⟩
  all_goals
    go_enter Try.func51, Try.ntmps51
    go_wp2_with (first | (go_at_call 40; refine (within_is (by assumption) _).mono ?_; rintro e w1 ⟨rfl, rfl⟩) | (go_at_call 57; refine (validFraction_is (by assumption) _).mono ?_; rintro e w1 ⟨rfl, hb1⟩; obtain ⟨hc1, hf1⟩ := bcell hb1; try (have hz1 : w.heap.size < w1.heap.size := by (have h := hb1.size; (try simp at h); omega)); try (have hy1 : w.heap.size + 1 < w1.heap.size := by (have h := hb1.size; (try simp at h); omega)); try (have hx1 : w.heap.size + 1 + 1 < w1.heap.size := by (have h := hb1.size; (try simp at h); omega)); try (have hv1 : w.heap.size + 1 + 1 + 1 < w1.heap.size := by (have h := hb1.size; (try simp at h); omega)); try (have hp1 : w.heap.size ≤ w1.heap.size := by omega)) | (go_at_call 58; refine (isRate_is (by assumption) _).mono ?_; rintro e w1 ⟨rfl, hb1⟩; obtain ⟨hc1, hf1⟩ := bcell hb1; try (have hz1 : w.heap.size < w1.heap.size := by (have h := hb1.size; (try simp at h); omega)); try (have hy1 : w.heap.size + 1 < w1.heap.size := by (have h := hb1.size; (try simp at h); omega)); try (have hx1 : w.heap.size + 1 + 1 < w1.heap.size := by (have h := hb1.size; (try simp at h); omega)); try (have hv1 : w.heap.size + 1 + 1 + 1 < w1.heap.size := by (have h := hb1.size; (try simp at h); omega)); try (have hp1 : w.heap.size ≤ w1.heap.size := by omega)))
    go_ret
    refine ⟨ret_int (by simp [rcC, *]), ?_⟩
    repeat (first | exact Below.refl _ _ | refine bw_drew ?_ | refine bw_drewN ?_ _ | refine bw_set ?_ (by simp; try omega) _ | refine bw_alloc ?_ _ | refine bw_trans ?_ (by assumption) | assumption)
theorem rateCode_is {v : Bool} {n d l c : Int} (h : rcC v n d l = c) (w : World) :
    Calls Try.prog 51 #[.bool v, .agg #[.int .i64 n, .int .i64 d], .int .i64 l] w fun e w' => e = .returned (.int .i64 c) ∧ Below w.heap.size w w' := by
  subst h; exact rateCode_any v n d l w

theorem one_ok : inB 1 1 200 = true := by decide

set_option maxHeartbeats 400000 in
theorem l09Code_any (m o n d : Int) (b off : Nat) (w : World) (hm : w.cell? ⟨b, off, none⟩ = some (.int .i64 m)) (ho : w.cell? ⟨b, off + 1, none⟩ = some (.int .i64 o)) :
    Calls Try.prog 53 #[.pointer (some ⟨b, off, none⟩), .agg #[.int .i64 n, .int .i64 d]] w fun e w' => e = .returned (.int .i64 (rcC (vBl m o) n d 1)) ∧ Below w.heap.size w w' := by
  have hbl : b < w.heap.size := World.block_lt_of_cell? w _ hm
  have hm' : ∀ x : Obj, (w.alloc x).cell? ⟨b, off, none⟩ = some (.int .i64 m) := fun x => (World.cell?_alloc_lt w x _ hbl).trans hm
  have ho' : ∀ x : Obj, (w.alloc x).cell? ⟨b, off + 1, none⟩ = some (.int .i64 o) := fun x => (World.cell?_alloc_lt w x _ hbl).trans ho
  cases h1 : vBl m o
  · go_enter Try.func53, Try.ntmps53
    go_wp2_with fail
    refine ((l09Ok_is h1 _ _ _ (hm' _) (ho' _))).mono ?_
    rintro e w1 ⟨rfl, hb1⟩
    obtain ⟨hc1, hf1⟩ := bcell hb1
    try (have hz1 : w.heap.size < w1.heap.size := by (have h := hb1.size; (try simp at h); omega))
    try (have hy1 : w.heap.size + 1 < w1.heap.size := by (have h := hb1.size; (try simp at h); omega))
    try (have hx1 : w.heap.size + 1 + 1 < w1.heap.size := by (have h := hb1.size; (try simp at h); omega))
    try (have hv1 : w.heap.size + 1 + 1 + 1 < w1.heap.size := by (have h := hb1.size; (try simp at h); omega))
    try (have hp1 : w.heap.size ≤ w1.heap.size := by omega)
    go_wp2
    go_ret
    refine ⟨ret_int (by simp [rcC]), ?_⟩
    repeat (first | exact Below.refl _ _ | refine bw_drew ?_ | refine bw_drewN ?_ _ | refine bw_set ?_ (by simp; try omega) _ | refine bw_alloc ?_ _ | refine bw_trans ?_ (by assumption) | assumption)
  cases h2 : vFrac n d
  · go_enter Try.func53, Try.ntmps53
    go_wp2_with fail
    refine ((l09Ok_is h1 _ _ _ (hm' _) (ho' _))).mono ?_
    rintro e w1 ⟨rfl, hb1⟩
    obtain ⟨hc1, hf1⟩ := bcell hb1
    try (have hz1 : w.heap.size < w1.heap.size := by (have h := hb1.size; (try simp at h); omega))
    try (have hy1 : w.heap.size + 1 < w1.heap.size := by (have h := hb1.size; (try simp at h); omega))
    try (have hx1 : w.heap.size + 1 + 1 < w1.heap.size := by (have h := hb1.size; (try simp at h); omega))
    try (have hv1 : w.heap.size + 1 + 1 + 1 < w1.heap.size := by (have h := hb1.size; (try simp at h); omega))
    try (have hp1 : w.heap.size ≤ w1.heap.size := by omega)
    go_wp2_with (first | (go_at_call 48; refine (l02Ok_is (by assumption) _).mono ?_; rintro e w1 ⟨rfl, hb1⟩; obtain ⟨hc1, hf1⟩ := bcell hb1; try (have hz1 : w.heap.size < w1.heap.size := by (have h := hb1.size; (try simp at h); omega)); try (have hy1 : w.heap.size + 1 < w1.heap.size := by (have h := hb1.size; (try simp at h); omega)); try (have hx1 : w.heap.size + 1 + 1 < w1.heap.size := by (have h := hb1.size; (try simp at h); omega)); try (have hv1 : w.heap.size + 1 + 1 + 1 < w1.heap.size := by (have h := hb1.size; (try simp at h); omega)); try (have hp1 : w.heap.size ≤ w1.heap.size := by omega)))
    go_ret
    refine ⟨ret_int (by simp [rcC, *]), ?_⟩
    repeat (first | exact Below.refl _ _ | refine bw_drew ?_ | refine bw_drewN ?_ _ | refine bw_set ?_ (by simp; try omega) _ | refine bw_alloc ?_ _ | refine bw_trans ?_ (by assumption) | assumption)
  cases h3 : isRt n d
  all_goals
    have h4 : (vFrac n d && isRt n d) = isRt n d := by simp [h2]
    have h5 := h4.trans h3
    clear h4
    go_enter Try.func53, Try.ntmps53
    go_wp2_with fail
    refine ((l09Ok_is h1 _ _ _ (hm' _) (ho' _))).mono ?_
    rintro e w1 ⟨rfl, hb1⟩
    obtain ⟨hc1, hf1⟩ := bcell hb1
    try (have hz1 : w.heap.size < w1.heap.size := by (have h := hb1.size; (try simp at h); omega))
    try (have hy1 : w.heap.size + 1 < w1.heap.size := by (have h := hb1.size; (try simp at h); omega))
    try (have hx1 : w.heap.size + 1 + 1 < w1.heap.size := by (have h := hb1.size; (try simp at h); omega))
    try (have hv1 : w.heap.size + 1 + 1 + 1 < w1.heap.size := by (have h := hb1.size; (try simp at h); omega))
    try (have hp1 : w.heap.size ≤ w1.heap.size := by omega)
    go_wp2_with (first | (go_at_call 48; refine (l02Ok_is (by assumption) _).mono ?_; rintro e w1 ⟨rfl, hb1⟩; obtain ⟨hc1, hf1⟩ := bcell hb1; try (have hz1 : w.heap.size < w1.heap.size := by (have h := hb1.size; (try simp at h); omega)); try (have hy1 : w.heap.size + 1 < w1.heap.size := by (have h := hb1.size; (try simp at h); omega)); try (have hx1 : w.heap.size + 1 + 1 < w1.heap.size := by (have h := hb1.size; (try simp at h); omega)); try (have hv1 : w.heap.size + 1 + 1 + 1 < w1.heap.size := by (have h := hb1.size; (try simp at h); omega)); try (have hp1 : w.heap.size ≤ w1.heap.size := by omega)) | (go_at_call 49; refine (l09Rate_is (by assumption) _).mono ?_; rintro e w1 ⟨rfl, hb1⟩; obtain ⟨hc1, hf1⟩ := bcell hb1; try (have hz1 : w.heap.size < w1.heap.size := by (have h := hb1.size; (try simp at h); omega)); try (have hy1 : w.heap.size + 1 < w1.heap.size := by (have h := hb1.size; (try simp at h); omega)); try (have hx1 : w.heap.size + 1 + 1 < w1.heap.size := by (have h := hb1.size; (try simp at h); omega)); try (have hv1 : w.heap.size + 1 + 1 + 1 < w1.heap.size := by (have h := hb1.size; (try simp at h); omega)); try (have hp1 : w.heap.size ≤ w1.heap.size := by omega)))
    go_ret
    refine ⟨ret_int (by simp [rcC, h2, h3, one_ok]), ?_⟩
    repeat (first | exact Below.refl _ _ | refine bw_drew ?_ | refine bw_drewN ?_ _ | refine bw_set ?_ (by simp; try omega) _ | refine bw_alloc ?_ _ | refine bw_trans ?_ (by assumption) | assumption)
theorem l09Code_is {m o n d c : Int} (h : rcC (vBl m o) n d 1 = c) (b off : Nat) (w : World) (hm : w.cell? ⟨b, off, none⟩ = some (.int .i64 m)) (ho : w.cell? ⟨b, off + 1, none⟩ = some (.int .i64 o)) :
    Calls Try.prog 53 #[.pointer (some ⟨b, off, none⟩), .agg #[.int .i64 n, .int .i64 d]] w fun e w' => e = .returned (.int .i64 c) ∧ Below w.heap.size w w' := by
  subst h; exact l09Code_any m o n d b off w hm ho

/-! ### SlowestSteady, LitShare: a fraction and a code -/
def ssN (m o l : Int) : Int := if vBl m o && inB l 1 200 then lowNum l m else 0
def ssD (m o l : Int) : Int := if vBl m o && inB l 1 200 then lowDen l m else 0
def ssC (m o l : Int) : Int := if vBl m o then (if inB l 1 200 then 0 else 2) else 1
theorem ss_cases (m o l : Int) : vBl m o = false ∨ (vBl m o = true ∧ inB l 1 200 = false) ∨ (vBl m o = true ∧ inB l 1 200 = true) := by
  cases vBl m o <;> cases inB l 1 200 <;> simp

set_option maxHeartbeats 400000 in
theorem slowestSteady_any (m o l : Int) (w : World) :
    Calls Try.prog 32 #[.agg #[.int .i64 m, .int .i64 o], .int .i64 l] w fun e w' => e = .returned (.tuple #[.agg #[.int .i64 (ssN m o l), .int .i64 (ssD m o l)], .int .i64 (ssC m o l)]) ∧ Below w.heap.size w w' := by
  rcases ss_cases m o l with h1 | ⟨h1, h2⟩ | ⟨h1, h2⟩
  case inl =>
    go_enter Try.func32, Try.ntmps32
    go_wp2_with (first | (go_at_call 16; refine (validBlades_is (by assumption) _).mono ?_; rintro e w1 ⟨rfl, hb1⟩; obtain ⟨hc1, hf1⟩ := bcell hb1; try (have hz1 : w.heap.size < w1.heap.size := by (have h := hb1.size; (try simp at h); omega)); try (have hy1 : w.heap.size + 1 < w1.heap.size := by (have h := hb1.size; (try simp at h); omega)); try (have hx1 : w.heap.size + 1 + 1 < w1.heap.size := by (have h := hb1.size; (try simp at h); omega)); try (have hv1 : w.heap.size + 1 + 1 + 1 < w1.heap.size := by (have h := hb1.size; (try simp at h); omega)); try (have hp1 : w.heap.size ≤ w1.heap.size := by omega)) | (go_at_call 40; refine (within_is (by assumption) _).mono ?_; rintro e w1 ⟨rfl, rfl⟩))
    refine bodyPost_ret (v := .tuple #[.agg #[.int .i64 0, .int .i64 0], .int .i64 1]) (by simp [results, Try.results32, go_sem, *]) rfl ⟨by simp [ssN, ssD, ssC, h1], ?_⟩
    repeat (first | exact Below.refl _ _ | refine bw_drew ?_ | refine bw_drewN ?_ _ | refine bw_set ?_ (by simp; try omega) _ | refine bw_alloc ?_ _ | refine bw_trans ?_ (by assumption) | assumption)
  case inr.inl =>
    go_enter Try.func32, Try.ntmps32
    go_wp2_with (first | (go_at_call 16; refine (validBlades_is (by assumption) _).mono ?_; rintro e w1 ⟨rfl, hb1⟩; obtain ⟨hc1, hf1⟩ := bcell hb1; try (have hz1 : w.heap.size < w1.heap.size := by (have h := hb1.size; (try simp at h); omega)); try (have hy1 : w.heap.size + 1 < w1.heap.size := by (have h := hb1.size; (try simp at h); omega)); try (have hx1 : w.heap.size + 1 + 1 < w1.heap.size := by (have h := hb1.size; (try simp at h); omega)); try (have hv1 : w.heap.size + 1 + 1 + 1 < w1.heap.size := by (have h := hb1.size; (try simp at h); omega)); try (have hp1 : w.heap.size ≤ w1.heap.size := by omega)) | (go_at_call 40; refine (within_is (by assumption) _).mono ?_; rintro e w1 ⟨rfl, rfl⟩))
    refine bodyPost_ret (v := .tuple #[.agg #[.int .i64 0, .int .i64 0], .int .i64 2]) (by simp [results, Try.results32, go_sem, *]) rfl ⟨by simp [ssN, ssD, ssC, h1, h2], ?_⟩
    repeat (first | exact Below.refl _ _ | refine bw_drew ?_ | refine bw_drewN ?_ _ | refine bw_set ?_ (by simp; try omega) _ | refine bw_alloc ?_ _ | refine bw_trans ?_ (by assumption) | assumption)
  case inr.inr =>
    obtain ⟨⟨m1, m2⟩, _, _, _⟩ := vBl_true.1 h1
    obtain ⟨l1, l2⟩ := inB_true.1 h2
    go_enter Try.func32, Try.ntmps32
    go_wp2_with (first | (go_at_call 16; refine (validBlades_is (by assumption) _).mono ?_; rintro e w1 ⟨rfl, hb1⟩; obtain ⟨hc1, hf1⟩ := bcell hb1; try (have hz1 : w.heap.size < w1.heap.size := by (have h := hb1.size; (try simp at h); omega)); try (have hy1 : w.heap.size + 1 < w1.heap.size := by (have h := hb1.size; (try simp at h); omega)); try (have hx1 : w.heap.size + 1 + 1 < w1.heap.size := by (have h := hb1.size; (try simp at h); omega)); try (have hv1 : w.heap.size + 1 + 1 + 1 < w1.heap.size := by (have h := hb1.size; (try simp at h); omega)); try (have hp1 : w.heap.size ≤ w1.heap.size := by omega)) | (go_at_call 40; refine (within_is (by assumption) _).mono ?_; rintro e w1 ⟨rfl, rfl⟩) | (go_at_call 47; refine (lowest_any _ _ _ ⟨by omega, by omega⟩ ⟨by omega, by omega⟩).mono ?_; rintro e w1 ⟨rfl, hb1⟩; obtain ⟨hc1, hf1⟩ := bcell hb1; try (have hz1 : w.heap.size < w1.heap.size := by (have h := hb1.size; (try simp at h); omega)); try (have hy1 : w.heap.size + 1 < w1.heap.size := by (have h := hb1.size; (try simp at h); omega)); try (have hx1 : w.heap.size + 1 + 1 < w1.heap.size := by (have h := hb1.size; (try simp at h); omega)); try (have hv1 : w.heap.size + 1 + 1 + 1 < w1.heap.size := by (have h := hb1.size; (try simp at h); omega)); try (have hp1 : w.heap.size ≤ w1.heap.size := by omega)))
    refine bodyPost_ret (v := .tuple #[.agg #[.int .i64 (lowNum l m), .int .i64 (lowDen l m)], .int .i64 0]) (by simp [results, Try.results32, go_sem, *]) rfl ⟨by simp [ssN, ssD, ssC, h1, h2], ?_⟩
    repeat (first | exact Below.refl _ _ | refine bw_drew ?_ | refine bw_drewN ?_ _ | refine bw_set ?_ (by simp; try omega) _ | refine bw_alloc ?_ _ | refine bw_trans ?_ (by assumption) | assumption)
set_option maxHeartbeats 400000 in
theorem sSlowestSteady_any (m o l : Int) (w : World) :
    Calls Try.prog 31 #[.agg #[.int .i64 m, .int .i64 o], .int .i64 l] w fun e w' => e = .returned (.tuple #[.agg #[.int .i64 (ssN m o l), .int .i64 (ssD m o l)], .int .i64 (ssC m o l)]) ∧ Below w.heap.size w w' := by
  rcases ss_cases m o l with h1 | ⟨h1, h2⟩ | ⟨h1, h2⟩
  case inl =>
    go_enter Try.func31, Try.ntmps31
    go_wp2_with (first | (go_at_call 39; refine (l09Ok_is (by assumption) _ _ _ (by go_simp) (by go_simp)).mono ?_; rintro e w1 ⟨rfl, hb1⟩; obtain ⟨hc1, hf1⟩ := bcell hb1; try (have hz1 : w.heap.size < w1.heap.size := by (have h := hb1.size; (try simp at h); omega)); try (have hy1 : w.heap.size + 1 < w1.heap.size := by (have h := hb1.size; (try simp at h); omega)); try (have hx1 : w.heap.size + 1 + 1 < w1.heap.size := by (have h := hb1.size; (try simp at h); omega)); try (have hv1 : w.heap.size + 1 + 1 + 1 < w1.heap.size := by (have h := hb1.size; (try simp at h); omega)); try (have hp1 : w.heap.size ≤ w1.heap.size := by omega)) | (go_at_call 50; refine (l09Least_is (by assumption) _).mono ?_; rintro e w1 ⟨rfl, rfl⟩))
    refine bodyPost_ret (v := .tuple #[.agg #[.int .i64 0, .int .i64 0], .int .i64 1]) (by simp [results, Try.results31, go_sem, *]) rfl ⟨by simp [ssN, ssD, ssC, h1], ?_⟩
    repeat (first | exact Below.refl _ _ | refine bw_drew ?_ | refine bw_drewN ?_ _ | refine bw_set ?_ (by simp; try omega) _ | refine bw_alloc ?_ _ | refine bw_trans ?_ (by assumption) | assumption)
  case inr.inl =>
    go_enter Try.func31, Try.ntmps31
    go_wp2_with (first | (go_at_call 39; refine (l09Ok_is (by assumption) _ _ _ (by go_simp) (by go_simp)).mono ?_; rintro e w1 ⟨rfl, hb1⟩; obtain ⟨hc1, hf1⟩ := bcell hb1; try (have hz1 : w.heap.size < w1.heap.size := by (have h := hb1.size; (try simp at h); omega)); try (have hy1 : w.heap.size + 1 < w1.heap.size := by (have h := hb1.size; (try simp at h); omega)); try (have hx1 : w.heap.size + 1 + 1 < w1.heap.size := by (have h := hb1.size; (try simp at h); omega)); try (have hv1 : w.heap.size + 1 + 1 + 1 < w1.heap.size := by (have h := hb1.size; (try simp at h); omega)); try (have hp1 : w.heap.size ≤ w1.heap.size := by omega)) | (go_at_call 50; refine (l09Least_is (by assumption) _).mono ?_; rintro e w1 ⟨rfl, rfl⟩))
    refine bodyPost_ret (v := .tuple #[.agg #[.int .i64 0, .int .i64 0], .int .i64 2]) (by simp [results, Try.results31, go_sem, *]) rfl ⟨by simp [ssN, ssD, ssC, h1, h2], ?_⟩
    repeat (first | exact Below.refl _ _ | refine bw_drew ?_ | refine bw_drewN ?_ _ | refine bw_set ?_ (by simp; try omega) _ | refine bw_alloc ?_ _ | refine bw_trans ?_ (by assumption) | assumption)
  case inr.inr =>
    obtain ⟨⟨m1, m2⟩, _, _, _⟩ := vBl_true.1 h1
    obtain ⟨l1, l2⟩ := inB_true.1 h2
    go_enter Try.func31, Try.ntmps31
    go_wp2_with (first | (go_at_call 39; refine (l09Ok_is (by assumption) _ _ _ (by go_simp) (by go_simp)).mono ?_; rintro e w1 ⟨rfl, hb1⟩; obtain ⟨hc1, hf1⟩ := bcell hb1; try (have hz1 : w.heap.size < w1.heap.size := by (have h := hb1.size; (try simp at h); omega)); try (have hy1 : w.heap.size + 1 < w1.heap.size := by (have h := hb1.size; (try simp at h); omega)); try (have hx1 : w.heap.size + 1 + 1 < w1.heap.size := by (have h := hb1.size; (try simp at h); omega)); try (have hv1 : w.heap.size + 1 + 1 + 1 < w1.heap.size := by (have h := hb1.size; (try simp at h); omega)); try (have hp1 : w.heap.size ≤ w1.heap.size := by omega)) | (go_at_call 50; refine (l09Least_is (by assumption) _).mono ?_; rintro e w1 ⟨rfl, rfl⟩) | (go_at_call 46; refine (l02Make_any _ _ _ ⟨by omega, by omega⟩ ⟨by omega, by omega⟩).mono ?_; rintro e w1 ⟨rfl, hb1⟩; obtain ⟨hc1, hf1⟩ := bcell hb1; try (have hz1 : w.heap.size < w1.heap.size := by (have h := hb1.size; (try simp at h); omega)); try (have hy1 : w.heap.size + 1 < w1.heap.size := by (have h := hb1.size; (try simp at h); omega)); try (have hx1 : w.heap.size + 1 + 1 < w1.heap.size := by (have h := hb1.size; (try simp at h); omega)); try (have hv1 : w.heap.size + 1 + 1 + 1 < w1.heap.size := by (have h := hb1.size; (try simp at h); omega)); try (have hp1 : w.heap.size ≤ w1.heap.size := by omega)))
    refine bodyPost_ret (v := .tuple #[.agg #[.int .i64 (lowNum l m), .int .i64 (lowDen l m)], .int .i64 0]) (by simp [results, Try.results31, go_sem, *]) rfl ⟨by simp [ssN, ssD, ssC, h1, h2], ?_⟩
    repeat (first | exact Below.refl _ _ | refine bw_drew ?_ | refine bw_drewN ?_ _ | refine bw_set ?_ (by simp; try omega) _ | refine bw_alloc ?_ _ | refine bw_trans ?_ (by assumption) | assumption)

def lsN (m o : Int) : Int := if vBl m o then lowNum o 1000 else 0
def lsD (m o : Int) : Int := if vBl m o then lowDen o 1000 else 0
def lsC (m o : Int) : Int := if vBl m o then 0 else 1

set_option maxHeartbeats 400000 in
theorem litShare_any (m o : Int) (w : World) :
    Calls Try.prog 26 #[.agg #[.int .i64 m, .int .i64 o]] w fun e w' => e = .returned (.tuple #[.agg #[.int .i64 (lsN m o), .int .i64 (lsD m o)], .int .i64 (lsC m o)]) ∧ Below w.heap.size w w' := by
  cases h1 : vBl m o
  · go_enter Try.func26, Try.ntmps26
    go_wp2_with (first | (go_at_call 16; refine (validBlades_is (by assumption) _).mono ?_; rintro e w1 ⟨rfl, hb1⟩; obtain ⟨hc1, hf1⟩ := bcell hb1; try (have hz1 : w.heap.size < w1.heap.size := by (have h := hb1.size; (try simp at h); omega)); try (have hy1 : w.heap.size + 1 < w1.heap.size := by (have h := hb1.size; (try simp at h); omega)); try (have hx1 : w.heap.size + 1 + 1 < w1.heap.size := by (have h := hb1.size; (try simp at h); omega)); try (have hv1 : w.heap.size + 1 + 1 + 1 < w1.heap.size := by (have h := hb1.size; (try simp at h); omega)); try (have hp1 : w.heap.size ≤ w1.heap.size := by omega)))
    refine bodyPost_ret (v := .tuple #[.agg #[.int .i64 0, .int .i64 0], .int .i64 1]) (by simp [results, Try.results26, go_sem, *]) rfl ⟨by simp [lsN, lsD, lsC, h1], ?_⟩
    repeat (first | exact Below.refl _ _ | refine bw_drew ?_ | refine bw_drewN ?_ _ | refine bw_set ?_ (by simp; try omega) _ | refine bw_alloc ?_ _ | refine bw_trans ?_ (by assumption) | assumption)
  · obtain ⟨_, _, ⟨o1, o2⟩, _⟩ := vBl_true.1 h1
    go_enter Try.func26, Try.ntmps26
    go_wp2_with (first | (go_at_call 16; refine (validBlades_is (by assumption) _).mono ?_; rintro e w1 ⟨rfl, hb1⟩; obtain ⟨hc1, hf1⟩ := bcell hb1; try (have hz1 : w.heap.size < w1.heap.size := by (have h := hb1.size; (try simp at h); omega)); try (have hy1 : w.heap.size + 1 < w1.heap.size := by (have h := hb1.size; (try simp at h); omega)); try (have hx1 : w.heap.size + 1 + 1 < w1.heap.size := by (have h := hb1.size; (try simp at h); omega)); try (have hv1 : w.heap.size + 1 + 1 + 1 < w1.heap.size := by (have h := hb1.size; (try simp at h); omega)); try (have hp1 : w.heap.size ≤ w1.heap.size := by omega)) | (go_at_call 47; refine (lowest_any _ _ _ ⟨by omega, by omega⟩ ⟨by omega, by omega⟩).mono ?_; rintro e w1 ⟨rfl, hb1⟩; obtain ⟨hc1, hf1⟩ := bcell hb1; try (have hz1 : w.heap.size < w1.heap.size := by (have h := hb1.size; (try simp at h); omega)); try (have hy1 : w.heap.size + 1 < w1.heap.size := by (have h := hb1.size; (try simp at h); omega)); try (have hx1 : w.heap.size + 1 + 1 < w1.heap.size := by (have h := hb1.size; (try simp at h); omega)); try (have hv1 : w.heap.size + 1 + 1 + 1 < w1.heap.size := by (have h := hb1.size; (try simp at h); omega)); try (have hp1 : w.heap.size ≤ w1.heap.size := by omega)))
    refine bodyPost_ret (v := .tuple #[.agg #[.int .i64 (lowNum o 1000), .int .i64 (lowDen o 1000)], .int .i64 0]) (by simp [results, Try.results26, go_sem, *]) rfl ⟨by simp [lsN, lsD, lsC, h1], ?_⟩
    repeat (first | exact Below.refl _ _ | refine bw_drew ?_ | refine bw_drewN ?_ _ | refine bw_set ?_ (by simp; try omega) _ | refine bw_alloc ?_ _ | refine bw_trans ?_ (by assumption) | assumption)

set_option maxHeartbeats 400000 in
theorem sLitShare_any (m o : Int) (w : World) :
    Calls Try.prog 25 #[.agg #[.int .i64 m, .int .i64 o]] w fun e w' => e = .returned (.tuple #[.agg #[.int .i64 (lsN m o), .int .i64 (lsD m o)], .int .i64 (lsC m o)]) ∧ Below w.heap.size w w' := by
  cases h1 : vBl m o
  · go_enter Try.func25, Try.ntmps25
    go_wp2_with (first | (go_at_call 39; refine (l09Ok_is (by assumption) _ _ _ (by go_simp) (by go_simp)).mono ?_; rintro e w1 ⟨rfl, hb1⟩; obtain ⟨hc1, hf1⟩ := bcell hb1; try (have hz1 : w.heap.size < w1.heap.size := by (have h := hb1.size; (try simp at h); omega)); try (have hy1 : w.heap.size + 1 < w1.heap.size := by (have h := hb1.size; (try simp at h); omega)); try (have hx1 : w.heap.size + 1 + 1 < w1.heap.size := by (have h := hb1.size; (try simp at h); omega)); try (have hv1 : w.heap.size + 1 + 1 + 1 < w1.heap.size := by (have h := hb1.size; (try simp at h); omega)); try (have hp1 : w.heap.size ≤ w1.heap.size := by omega)))
    refine bodyPost_ret (v := .tuple #[.agg #[.int .i64 0, .int .i64 0], .int .i64 1]) (by simp [results, Try.results25, go_sem, *]) rfl ⟨by simp [lsN, lsD, lsC, h1], ?_⟩
    repeat (first | exact Below.refl _ _ | refine bw_drew ?_ | refine bw_drewN ?_ _ | refine bw_set ?_ (by simp; try omega) _ | refine bw_alloc ?_ _ | refine bw_trans ?_ (by assumption) | assumption)
  · obtain ⟨_, _, ⟨o1, o2⟩, _⟩ := vBl_true.1 h1
    go_enter Try.func25, Try.ntmps25
    go_wp2_with (first | (go_at_call 39; refine (l09Ok_is (by assumption) _ _ _ (by go_simp) (by go_simp)).mono ?_; rintro e w1 ⟨rfl, hb1⟩; obtain ⟨hc1, hf1⟩ := bcell hb1; try (have hz1 : w.heap.size < w1.heap.size := by (have h := hb1.size; (try simp at h); omega)); try (have hy1 : w.heap.size + 1 < w1.heap.size := by (have h := hb1.size; (try simp at h); omega)); try (have hx1 : w.heap.size + 1 + 1 < w1.heap.size := by (have h := hb1.size; (try simp at h); omega)); try (have hv1 : w.heap.size + 1 + 1 + 1 < w1.heap.size := by (have h := hb1.size; (try simp at h); omega)); try (have hp1 : w.heap.size ≤ w1.heap.size := by omega)) | (go_at_call 46; refine (l02Make_any _ _ _ ⟨by omega, by omega⟩ ⟨by omega, by omega⟩).mono ?_; rintro e w1 ⟨rfl, hb1⟩; obtain ⟨hc1, hf1⟩ := bcell hb1; try (have hz1 : w.heap.size < w1.heap.size := by (have h := hb1.size; (try simp at h); omega)); try (have hy1 : w.heap.size + 1 < w1.heap.size := by (have h := hb1.size; (try simp at h); omega)); try (have hx1 : w.heap.size + 1 + 1 < w1.heap.size := by (have h := hb1.size; (try simp at h); omega)); try (have hv1 : w.heap.size + 1 + 1 + 1 < w1.heap.size := by (have h := hb1.size; (try simp at h); omega)); try (have hp1 : w.heap.size ≤ w1.heap.size := by omega)))
    refine bodyPost_ret (v := .tuple #[.agg #[.int .i64 (lowNum o 1000), .int .i64 (lowDen o 1000)], .int .i64 0]) (by simp [results, Try.results25, go_sem, *]) rfl ⟨by simp [lsN, lsD, lsC, h1], ?_⟩
    repeat (first | exact Below.refl _ _ | refine bw_drew ?_ | refine bw_drewN ?_ _ | refine bw_set ?_ (by simp; try omega) _ | refine bw_alloc ?_ _ | refine bw_trans ?_ (by assumption) | assumption)

set_option maxHeartbeats 400000 in
theorem law_SlowestSteady (m o l : Int) (w : World) :
    Calls Try.prog 10 #[.agg #[.int .i64 m, .int .i64 o], .int .i64 l] w fun e w' => e = .returned (.bool true) ∧ Below w.heap.size w w' := by
  go_enter Try.func10, Try.ntmps10
  go_wp2_with fail
  refine ((toBlades_any _ _ _)).mono ?_
  rintro e w1 ⟨rfl, hb1⟩
  obtain ⟨hc1, hf1⟩ := bcell hb1
  try (have hz1 : w.heap.size < w1.heap.size := by (have h := hb1.size; (try simp at h); omega))
  try (have hy1 : w.heap.size + 1 < w1.heap.size := by (have h := hb1.size; (try simp at h); omega))
  try (have hx1 : w.heap.size + 1 + 1 < w1.heap.size := by (have h := hb1.size; (try simp at h); omega))
  try (have hv1 : w.heap.size + 1 + 1 + 1 < w1.heap.size := by (have h := hb1.size; (try simp at h); omega))
  try (have hp1 : w.heap.size ≤ w1.heap.size := by omega)
  go_wp2_with fail
  refine ((sSlowestSteady_any _ _ _ _)).mono ?_
  rintro e w2 ⟨rfl, hb2⟩
  obtain ⟨hc2, hf2⟩ := bcell hb2
  try (have hz2 : w.heap.size < w2.heap.size := by (have h := hb2.size; (try simp at h); omega))
  try (have hy2 : w.heap.size + 1 < w2.heap.size := by (have h := hb2.size; (try simp at h); omega))
  try (have hx2 : w.heap.size + 1 + 1 < w2.heap.size := by (have h := hb2.size; (try simp at h); omega))
  try (have hv2 : w.heap.size + 1 + 1 + 1 < w2.heap.size := by (have h := hb2.size; (try simp at h); omega))
  try (have hp2 : w.heap.size ≤ w2.heap.size := by omega)
  go_wp2_with fail
  refine ((toBlades_any _ _ _)).mono ?_
  rintro e w3 ⟨rfl, hb3⟩
  obtain ⟨hc3, hf3⟩ := bcell hb3
  try (have hz3 : w.heap.size < w3.heap.size := by (have h := hb3.size; (try simp at h); omega))
  try (have hy3 : w.heap.size + 1 < w3.heap.size := by (have h := hb3.size; (try simp at h); omega))
  try (have hx3 : w.heap.size + 1 + 1 < w3.heap.size := by (have h := hb3.size; (try simp at h); omega))
  try (have hv3 : w.heap.size + 1 + 1 + 1 < w3.heap.size := by (have h := hb3.size; (try simp at h); omega))
  try (have hp3 : w.heap.size ≤ w3.heap.size := by omega)
  have hq3 : w2.heap.size < w3.heap.size := by (have h := hb3.size; simp at h; omega)
  go_wp2_with fail
  refine ((slowestSteady_any _ _ _ _)).mono ?_
  rintro e w4 ⟨rfl, hb4⟩
  obtain ⟨hc4, hf4⟩ := bcell hb4
  try (have hz4 : w.heap.size < w4.heap.size := by (have h := hb4.size; (try simp at h); omega))
  try (have hy4 : w.heap.size + 1 < w4.heap.size := by (have h := hb4.size; (try simp at h); omega))
  try (have hx4 : w.heap.size + 1 + 1 < w4.heap.size := by (have h := hb4.size; (try simp at h); omega))
  try (have hv4 : w.heap.size + 1 + 1 + 1 < w4.heap.size := by (have h := hb4.size; (try simp at h); omega))
  try (have hp4 : w.heap.size ≤ w4.heap.size := by omega)
  have hq4 : w2.heap.size < w4.heap.size := by (have h := hb4.size; omega)
  go_wp2_with fail
  refine ((eqFraction_any _ _ _)).mono ?_
  rintro e w5 ⟨rfl, hb5⟩
  obtain ⟨hc5, hf5⟩ := bcell hb5
  try (have hz5 : w.heap.size < w5.heap.size := by (have h := hb5.size; (try simp at h); omega))
  try (have hy5 : w.heap.size + 1 < w5.heap.size := by (have h := hb5.size; (try simp at h); omega))
  try (have hx5 : w.heap.size + 1 + 1 < w5.heap.size := by (have h := hb5.size; (try simp at h); omega))
  try (have hv5 : w.heap.size + 1 + 1 + 1 < w5.heap.size := by (have h := hb5.size; (try simp at h); omega))
  try (have hp5 : w.heap.size ≤ w5.heap.size := by omega)
  go_wp2
  go_ret
  refine ⟨rfl, ?_⟩
  repeat (first | exact Below.refl _ _ | refine bw_drew ?_ | refine bw_drewN ?_ _ | refine bw_set ?_ (by simp; try omega) _ | refine bw_alloc ?_ _ | refine bw_trans ?_ (by assumption) | assumption)

set_option maxHeartbeats 400000 in
theorem law_LitShare (m o : Int) (w : World) :
    Calls Try.prog 8 #[.agg #[.int .i64 m, .int .i64 o]] w fun e w' => e = .returned (.bool true) ∧ Below w.heap.size w w' := by
  go_enter Try.func8, Try.ntmps8
  go_wp2_with fail
  refine ((toBlades_any _ _ _)).mono ?_
  rintro e w1 ⟨rfl, hb1⟩
  obtain ⟨hc1, hf1⟩ := bcell hb1
  try (have hz1 : w.heap.size < w1.heap.size := by (have h := hb1.size; (try simp at h); omega))
  try (have hy1 : w.heap.size + 1 < w1.heap.size := by (have h := hb1.size; (try simp at h); omega))
  try (have hx1 : w.heap.size + 1 + 1 < w1.heap.size := by (have h := hb1.size; (try simp at h); omega))
  try (have hv1 : w.heap.size + 1 + 1 + 1 < w1.heap.size := by (have h := hb1.size; (try simp at h); omega))
  try (have hp1 : w.heap.size ≤ w1.heap.size := by omega)
  go_wp2_with fail
  refine ((sLitShare_any _ _ _)).mono ?_
  rintro e w2 ⟨rfl, hb2⟩
  obtain ⟨hc2, hf2⟩ := bcell hb2
  try (have hz2 : w.heap.size < w2.heap.size := by (have h := hb2.size; (try simp at h); omega))
  try (have hy2 : w.heap.size + 1 < w2.heap.size := by (have h := hb2.size; (try simp at h); omega))
  try (have hx2 : w.heap.size + 1 + 1 < w2.heap.size := by (have h := hb2.size; (try simp at h); omega))
  try (have hv2 : w.heap.size + 1 + 1 + 1 < w2.heap.size := by (have h := hb2.size; (try simp at h); omega))
  try (have hp2 : w.heap.size ≤ w2.heap.size := by omega)
  go_wp2_with fail
  refine ((toBlades_any _ _ _)).mono ?_
  rintro e w3 ⟨rfl, hb3⟩
  obtain ⟨hc3, hf3⟩ := bcell hb3
  try (have hz3 : w.heap.size < w3.heap.size := by (have h := hb3.size; (try simp at h); omega))
  try (have hy3 : w.heap.size + 1 < w3.heap.size := by (have h := hb3.size; (try simp at h); omega))
  try (have hx3 : w.heap.size + 1 + 1 < w3.heap.size := by (have h := hb3.size; (try simp at h); omega))
  try (have hv3 : w.heap.size + 1 + 1 + 1 < w3.heap.size := by (have h := hb3.size; (try simp at h); omega))
  try (have hp3 : w.heap.size ≤ w3.heap.size := by omega)
  have hq3 : w2.heap.size < w3.heap.size := by (have h := hb3.size; simp at h; omega)
  go_wp2_with fail
  refine ((litShare_any _ _ _)).mono ?_
  rintro e w4 ⟨rfl, hb4⟩
  obtain ⟨hc4, hf4⟩ := bcell hb4
  try (have hz4 : w.heap.size < w4.heap.size := by (have h := hb4.size; (try simp at h); omega))
  try (have hy4 : w.heap.size + 1 < w4.heap.size := by (have h := hb4.size; (try simp at h); omega))
  try (have hx4 : w.heap.size + 1 + 1 < w4.heap.size := by (have h := hb4.size; (try simp at h); omega))
  try (have hv4 : w.heap.size + 1 + 1 + 1 < w4.heap.size := by (have h := hb4.size; (try simp at h); omega))
  try (have hp4 : w.heap.size ≤ w4.heap.size := by omega)
  have hq4 : w2.heap.size < w4.heap.size := by (have h := hb4.size; omega)
  go_wp2_with fail
  refine ((eqFraction_any _ _ _)).mono ?_
  rintro e w5 ⟨rfl, hb5⟩
  obtain ⟨hc5, hf5⟩ := bcell hb5
  try (have hz5 : w.heap.size < w5.heap.size := by (have h := hb5.size; (try simp at h); omega))
  try (have hy5 : w.heap.size + 1 < w5.heap.size := by (have h := hb5.size; (try simp at h); omega))
  try (have hx5 : w.heap.size + 1 + 1 < w5.heap.size := by (have h := hb5.size; (try simp at h); omega))
  try (have hv5 : w.heap.size + 1 + 1 + 1 < w5.heap.size := by (have h := hb5.size; (try simp at h); omega))
  try (have hp5 : w.heap.size ≤ w5.heap.size := by omega)
  go_wp2
  go_ret
  refine ⟨rfl, ?_⟩
  repeat (first | exact Below.refl _ _ | refine bw_drew ?_ | refine bw_drewN ?_ _ | refine bw_set ?_ (by simp; try omega) _ | refine bw_alloc ?_ _ | refine bw_trans ?_ (by assumption) | assumption)

end Go.Proofs.Ytfkghnaibliknaa
