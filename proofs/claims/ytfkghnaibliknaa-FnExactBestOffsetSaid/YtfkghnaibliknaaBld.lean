/-
  TwoWheels and BestOffset: in the program and in the reference; the laws.
-/
import Derived.Test.YtfkghnaibliknaaBlc
namespace Go.Proofs.Ytfkghnaibliknaa
open Go.RowKit

def twN (m o m2 o2 d : Int) : Int := if vBl m o && vBl m2 o2 && inB d 0 999 then bothN m o m2 o2 d else 0
def twC (m o m2 o2 d : Int) : Int := if vBl m o && vBl m2 o2 then (if inB d 0 999 then 0 else 2) else 1
theorem tw_cases (m o m2 o2 d : Int) : vBl m o = false ∨ (vBl m o = true ∧ vBl m2 o2 = false) ∨ (vBl m o = true ∧ vBl m2 o2 = true ∧ inB d 0 999 = false) ∨ (vBl m o = true ∧ vBl m2 o2 = true ∧ inB d 0 999 = true) := by
  cases vBl m o <;> cases vBl m2 o2 <;> cases inB d 0 999 <;> simp

set_option maxRecDepth 100000 in
set_option maxHeartbeats 800000 in
theorem twoWheels_any (m o m2 o2 d : Int) (w : World) :
    Calls Try.prog 22 #[.agg #[.int .i64 m, .int .i64 o], .agg #[.int .i64 m2, .int .i64 o2], .int .i64 d] w fun e w' => e = .returned (.tuple #[.int .i64 (twN m o m2 o2 d), .int .i64 (twC m o m2 o2 d)]) ∧ Below w.heap.size w w' := by
  rcases tw_cases m o m2 o2 d with h1 | ⟨h1, h2⟩ | ⟨h1, h2, h3⟩ | ⟨h1, h2, h3⟩
  case' inr.inr.inr =>
    obtain ⟨hm, hdv, ho, _⟩ := vBl_true.1 h1
    obtain ⟨hm2, hdv2, ho2, _⟩ := vBl_true.1 h2
    have hd := inB_true.1 h3
    have HD := Lib.hid hdv2
    clear hdv hdv2
  all_goals
    go_enter Try.func22, Try.ntmps22
    go_wp2_with (first | (go_at_call 16; refine (validBlades_is (by assumption) _).mono ?_; rintro e w1 ⟨rfl, hb1⟩; obtain ⟨hc1, hf1⟩ := bcell hb1; try (have hz1 : w.heap.size < w1.heap.size := by (have h := hb1.size; (try simp at h); omega)); try (have hy1 : w.heap.size + 1 < w1.heap.size := by (have h := hb1.size; (try simp at h); omega)); try (have hx1 : w.heap.size + 1 + 1 < w1.heap.size := by (have h := hb1.size; (try simp at h); omega)); try (have hv1 : w.heap.size + 1 + 1 + 1 < w1.heap.size := by (have h := hb1.size; (try simp at h); omega))) | (go_at_call 40; refine (within_is (by assumption) _).mono ?_; rintro e w1 ⟨rfl, rfl⟩) | (go_at_call 45; refine (bothOpen_any _ _ _ _ _ _ hm ho hm2 ho2 HD hd).mono ?_; rintro e w1 ⟨rfl, hb1⟩; obtain ⟨hc1, hf1⟩ := bcell hb1; try (have hz1 : w.heap.size < w1.heap.size := by (have h := hb1.size; (try simp at h); omega)); try (have hy1 : w.heap.size + 1 < w1.heap.size := by (have h := hb1.size; (try simp at h); omega)); try (have hx1 : w.heap.size + 1 + 1 < w1.heap.size := by (have h := hb1.size; (try simp at h); omega)); try (have hv1 : w.heap.size + 1 + 1 + 1 < w1.heap.size := by (have h := hb1.size; (try simp at h); omega))))
    go_ret2
    refine ⟨by simp [twN, twC, *], ?_⟩
    repeat (first | exact Below.refl _ _ | refine bw_drew ?_ | refine bw_drewN ?_ _ | refine bw_set ?_ (by simp; try omega) _ | refine bw_alloc ?_ _ | refine bw_trans ?_ (by assumption) | assumption)

set_option maxRecDepth 100000 in
set_option maxHeartbeats 800000 in
theorem sTwoWheels_any (m o m2 o2 d : Int) (w : World) :
    Calls Try.prog 21 #[.agg #[.int .i64 m, .int .i64 o], .agg #[.int .i64 m2, .int .i64 o2], .int .i64 d] w fun e w' => e = .returned (.tuple #[.int .i64 (twN m o m2 o2 d), .int .i64 (twC m o m2 o2 d)]) ∧ Below w.heap.size w w' := by
  rcases tw_cases m o m2 o2 d with h1 | ⟨h1, h2⟩ | ⟨h1, h2, h3⟩ | ⟨h1, h2, h3⟩
  case inl =>
    go_enter Try.func21, Try.ntmps21
    go_wp2_with fail
    refine ((l09Ok_is h1 _ _ _ (by go_simp) (by go_simp))).mono ?_
    rintro e w1 ⟨rfl, hb1⟩
    obtain ⟨hc1, hf1⟩ := bcell hb1
    try (have hz1 : w.heap.size < w1.heap.size := by (have h := hb1.size; (try simp at h); omega))
    try (have hy1 : w.heap.size + 1 < w1.heap.size := by (have h := hb1.size; (try simp at h); omega))
    try (have hx1 : w.heap.size + 1 + 1 < w1.heap.size := by (have h := hb1.size; (try simp at h); omega))
    try (have hv1 : w.heap.size + 1 + 1 + 1 < w1.heap.size := by (have h := hb1.size; (try simp at h); omega))
    go_wp2
    go_ret2
    refine ⟨by simp [twN, twC, *], ?_⟩
    repeat (first | exact Below.refl _ _ | refine bw_drew ?_ | refine bw_drewN ?_ _ | refine bw_set ?_ (by simp; try omega) _ | refine bw_alloc ?_ _ | refine bw_trans ?_ (by assumption) | assumption)
  case inr.inl =>
    go_enter Try.func21, Try.ntmps21
    go_wp2_with fail
    refine ((l09Ok_is h1 _ _ _ (by go_simp) (by go_simp))).mono ?_
    rintro e w1 ⟨rfl, hb1⟩
    obtain ⟨hc1, hf1⟩ := bcell hb1
    try (have hz1 : w.heap.size < w1.heap.size := by (have h := hb1.size; (try simp at h); omega))
    try (have hy1 : w.heap.size + 1 < w1.heap.size := by (have h := hb1.size; (try simp at h); omega))
    try (have hx1 : w.heap.size + 1 + 1 < w1.heap.size := by (have h := hb1.size; (try simp at h); omega))
    try (have hv1 : w.heap.size + 1 + 1 + 1 < w1.heap.size := by (have h := hb1.size; (try simp at h); omega))
    go_wp2_with fail
    refine ((l09Ok_is h2 _ _ _ (by go_simp) (by go_simp))).mono ?_
    rintro e w2 ⟨rfl, hb2⟩
    obtain ⟨hc2, hf2⟩ := bcell hb2
    try (have hz2 : w.heap.size < w2.heap.size := by (have h := hb2.size; (try simp at h); omega))
    try (have hy2 : w.heap.size + 1 < w2.heap.size := by (have h := hb2.size; (try simp at h); omega))
    try (have hx2 : w.heap.size + 1 + 1 < w2.heap.size := by (have h := hb2.size; (try simp at h); omega))
    try (have hv2 : w.heap.size + 1 + 1 + 1 < w2.heap.size := by (have h := hb2.size; (try simp at h); omega))
    go_wp2
    go_ret2
    refine ⟨by simp [twN, twC, *], ?_⟩
    repeat (first | exact Below.refl _ _ | refine bw_drew ?_ | refine bw_drewN ?_ _ | refine bw_set ?_ (by simp; try omega) _ | refine bw_alloc ?_ _ | refine bw_trans ?_ (by assumption) | assumption)
  case inr.inr.inl =>
    go_enter Try.func21, Try.ntmps21
    go_wp2_with fail
    refine ((l09Ok_is h1 _ _ _ (by go_simp) (by go_simp))).mono ?_
    rintro e w1 ⟨rfl, hb1⟩
    obtain ⟨hc1, hf1⟩ := bcell hb1
    try (have hz1 : w.heap.size < w1.heap.size := by (have h := hb1.size; (try simp at h); omega))
    try (have hy1 : w.heap.size + 1 < w1.heap.size := by (have h := hb1.size; (try simp at h); omega))
    try (have hx1 : w.heap.size + 1 + 1 < w1.heap.size := by (have h := hb1.size; (try simp at h); omega))
    try (have hv1 : w.heap.size + 1 + 1 + 1 < w1.heap.size := by (have h := hb1.size; (try simp at h); omega))
    go_wp2_with fail
    refine ((l09Ok_is h2 _ _ _ (by go_simp) (by go_simp))).mono ?_
    rintro e w2 ⟨rfl, hb2⟩
    obtain ⟨hc2, hf2⟩ := bcell hb2
    try (have hz2 : w.heap.size < w2.heap.size := by (have h := hb2.size; (try simp at h); omega))
    try (have hy2 : w.heap.size + 1 < w2.heap.size := by (have h := hb2.size; (try simp at h); omega))
    try (have hx2 : w.heap.size + 1 + 1 < w2.heap.size := by (have h := hb2.size; (try simp at h); omega))
    try (have hv2 : w.heap.size + 1 + 1 + 1 < w2.heap.size := by (have h := hb2.size; (try simp at h); omega))
    go_wp2_with (first | (go_at_call 41; refine (l00In_is (by assumption) _).mono ?_; rintro e w1 ⟨rfl, rfl⟩))
    go_ret2
    refine ⟨by simp [twN, twC, *], ?_⟩
    repeat (first | exact Below.refl _ _ | refine bw_drew ?_ | refine bw_drewN ?_ _ | refine bw_set ?_ (by simp; try omega) _ | refine bw_alloc ?_ _ | refine bw_trans ?_ (by assumption) | assumption)
  case inr.inr.inr =>
    obtain ⟨hm, hdv, ho, _⟩ := vBl_true.1 h1
    obtain ⟨hm2, hdv2, ho2, _⟩ := vBl_true.1 h2
    have hd := inB_true.1 h3
    clear hdv hdv2
    go_enter Try.func21, Try.ntmps21
    go_wp2_with fail
    refine ((l09Ok_is h1 _ _ _ (by go_simp) (by go_simp))).mono ?_
    rintro e w1 ⟨rfl, hb1⟩
    obtain ⟨hc1, hf1⟩ := bcell hb1
    try (have hz1 : w.heap.size < w1.heap.size := by (have h := hb1.size; (try simp at h); omega))
    try (have hy1 : w.heap.size + 1 < w1.heap.size := by (have h := hb1.size; (try simp at h); omega))
    try (have hx1 : w.heap.size + 1 + 1 < w1.heap.size := by (have h := hb1.size; (try simp at h); omega))
    try (have hv1 : w.heap.size + 1 + 1 + 1 < w1.heap.size := by (have h := hb1.size; (try simp at h); omega))
    go_wp2_with fail
    refine ((l09Ok_is h2 _ _ _ (by go_simp) (by go_simp))).mono ?_
    rintro e w2 ⟨rfl, hb2⟩
    obtain ⟨hc2, hf2⟩ := bcell hb2
    try (have hz2 : w.heap.size < w2.heap.size := by (have h := hb2.size; (try simp at h); omega))
    try (have hy2 : w.heap.size + 1 < w2.heap.size := by (have h := hb2.size; (try simp at h); omega))
    try (have hx2 : w.heap.size + 1 + 1 < w2.heap.size := by (have h := hb2.size; (try simp at h); omega))
    try (have hv2 : w.heap.size + 1 + 1 + 1 < w2.heap.size := by (have h := hb2.size; (try simp at h); omega))
    go_wp2_with (first | (go_at_call 41; refine (l00In_is (by assumption) _).mono ?_; rintro e w1 ⟨rfl, rfl⟩) | (go_at_call 44; refine (l09Both_any m o m2 o2 _ _ _ _ _ _ hm ho hm2 ho2 hd (by go_simp) (by go_simp) (by go_simp) (by go_simp)).mono ?_; rintro e w1 ⟨rfl, hb1⟩; obtain ⟨hc1, hf1⟩ := bcell hb1; try (have hz1 : w.heap.size < w1.heap.size := by (have h := hb1.size; (try simp at h); omega)); try (have hy1 : w.heap.size + 1 < w1.heap.size := by (have h := hb1.size; (try simp at h); omega)); try (have hx1 : w.heap.size + 1 + 1 < w1.heap.size := by (have h := hb1.size; (try simp at h); omega)); try (have hv1 : w.heap.size + 1 + 1 + 1 < w1.heap.size := by (have h := hb1.size; (try simp at h); omega))))
    go_ret2
    refine ⟨by simp [twN, twC, *], ?_⟩
    repeat (first | exact Below.refl _ _ | refine bw_drew ?_ | refine bw_drewN ?_ _ | refine bw_set ?_ (by simp; try omega) _ | refine bw_alloc ?_ _ | refine bw_trans ?_ (by assumption) | assumption)

set_option maxHeartbeats 400000 in
theorem law_TwoWheels (m o m2 o2 d : Int) (w : World) :
    Calls Try.prog 6 #[.agg #[.int .i64 m, .int .i64 o], .agg #[.int .i64 m2, .int .i64 o2], .int .i64 d] w fun e w' => e = .returned (.bool true) ∧ Below w.heap.size w w' := by
  go_enter Try.func6, Try.ntmps6
  go_wp2_with fail
  refine wp_region_bel (by kernel_rfl) (by kernel_rfl) ?_
  repeat (go_big_quiet_step ((first | (go_at_call 15; exact calm_of (toBlades_any _ _ _)) | (go_at_call 21; exact calm_of (sTwoWheels_any _ _ _ _ _ _)))))
  refine wpQuiet_nil ?_
  intro w1 hw'
  obtain ⟨tq, hw''⟩ := hw'
  have hw1 := tq.2
  rw [← hw''] at hw1
  clear hw'' tq
  obtain ⟨hcw1, hfw1⟩ := bcell hw1
  try (have hzw1 : w.heap.size < w1.heap.size := by (have h := hw1.size; (try simp at h); omega))
  try (have hyw1 : w.heap.size + 1 < w1.heap.size := by (have h := hw1.size; (try simp at h); omega))
  try (have hxw1 : w.heap.size + 1 + 1 < w1.heap.size := by (have h := hw1.size; (try simp at h); omega))
  try (have hvw1 : w.heap.size + 1 + 1 + 1 < w1.heap.size := by (have h := hw1.size; (try simp at h); omega))
  go_wp2_with fail
  refine wp_region_bel (by kernel_rfl) (by kernel_rfl) ?_
  repeat (go_big_quiet_step ((first | (go_at_call 15; exact calm_of (toBlades_any _ _ _)) | (go_at_call 22; exact calm_of (twoWheels_any _ _ _ _ _ _)))))
  refine wpQuiet_nil ?_
  intro w2 hw'
  obtain ⟨tq, hw''⟩ := hw'
  have hw2 := tq.2
  rw [← hw''] at hw2
  clear hw'' tq
  obtain ⟨hcw2, hfw2⟩ := bcell hw2
  try (have hzw2 : w.heap.size < w2.heap.size := by (have h := hw2.size; (try simp at h); omega))
  try (have hyw2 : w.heap.size + 1 < w2.heap.size := by (have h := hw2.size; (try simp at h); omega))
  try (have hxw2 : w.heap.size + 1 + 1 < w2.heap.size := by (have h := hw2.size; (try simp at h); omega))
  try (have hvw2 : w.heap.size + 1 + 1 + 1 < w2.heap.size := by (have h := hw2.size; (try simp at h); omega))
  go_wp2
  go_ret
  refine ⟨rfl, ?_⟩
  repeat (first | exact Below.refl _ _ | refine bw_drew ?_ | refine bw_drewN ?_ _ | refine bw_set ?_ (by simp; try omega) _ | refine bw_alloc ?_ _ | refine bw_trans ?_ (by assumption) | assumption)

/-! ### BestOffset -/
/-- The first number below k at which f is greatest, and f there; -1 if there is none. -/
def bestTo (f : Int → Int) : Nat → Int × Int
  | 0 => (0, -1)
  | k + 1 => if (bestTo f k).2 < f k then ((k : Int), f k) else bestTo f k
theorem bestTo_bd {f : Int → Int} {B : Int} (hf : ∀ k : Nat, 0 ≤ f k ∧ f k ≤ B) (k : Nat) : -1 ≤ (bestTo f k).2 ∧ (bestTo f k).2 ≤ max B (-1) := by
  induction k with
  | zero => simp [bestTo]; omega
  | succ k ih => unfold bestTo; have := hf k; split <;> omega
theorem bestTo_yes {f : Int → Int} {k : Nat} (h : (bestTo f k).2 < f k) : bestTo f (k + 1) = ((k : Int), f k) := by simp [bestTo, h]
theorem bestTo_no {f : Int → Int} {k : Nat} (h : ¬ (bestTo f k).2 < f k) : bestTo f (k + 1) = bestTo f k := by simp [bestTo, h]
theorem bothN_bd (m o m2 o2 d : Int) : 0 ≤ bothN m o m2 o2 d ∧ bothN m o m2 o2 d ≤ 1000 := cntTo_bd _ _ 1000

def boV (m o m2 o2 : Int) : Bool := vBl m o && vBl m2 o2
def boB (m o m2 o2 : Int) : Int := if boV m o m2 o2 then (bestTo (bothN m o m2 o2) 1000).1 else 0
def boM (m o m2 o2 : Int) : Int := if boV m o m2 o2 then (bestTo (bothN m o m2 o2) 1000).2 else 0
def boC (m o m2 o2 : Int) : Int := if boV m o m2 o2 then 0 else 1
theorem bo_cases (m o m2 o2 : Int) : vBl m o = false ∨ (vBl m o = true ∧ vBl m2 o2 = false) ∨ (vBl m o = true ∧ vBl m2 o2 = true) := by
  cases vBl m o <;> cases vBl m2 o2 <;> simp
end Go.Proofs.Ytfkghnaibliknaa
