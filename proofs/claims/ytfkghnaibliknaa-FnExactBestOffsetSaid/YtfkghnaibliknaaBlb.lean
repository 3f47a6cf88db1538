/-
  How many parts of a wheel are open; at how many parts two wheels are open; the best offset of two wheels: in the program and in the reference.
-/
import Derived.Test.YtfkghnaibliknaaBla
namespace Go.Proofs.Ytfkghnaibliknaa
open Go.RowKit

/-- How many of the first k numbers behind a answer yes. -/
def cntTo (f : Int → Bool) (a : Int) : Nat → Int
  | 0 => 0
  | k + 1 => cntTo f a k + (if f (a + k) then 1 else 0)
theorem cntTo_bd (f : Int → Bool) (a : Int) (k : Nat) : 0 ≤ cntTo f a k ∧ cntTo f a k ≤ k := by
  induction k with
  | zero => simp [cntTo]
  | succ k ih => unfold cntTo; split <;> omega
theorem cntTo_yes {f : Int → Bool} {a : Int} {k : Nat} (h : f (a + k) = true) : cntTo f a (k + 1) = cntTo f a k + 1 := by simp [cntTo, h]
theorem cntTo_no {f : Int → Bool} {a : Int} {k : Nat} (h : f (a + k) = false) : cntTo f a (k + 1) = cntTo f a k := by simp [cntTo, h]
theorem cntTo_congr {f g : Int → Bool} {a : Int} {k : Nat} (h : ∀ i : Nat, i < k → f (a + i) = g (a + i)) : cntTo f a k = cntTo g a k := by
  induction k with
  | zero => rfl
  | succ k ih => unfold cntTo; rw [ih fun i hi => h i (by omega), h k (by omega)]

/-! ### OpenParts -/
def opR (a b : Int) : Bool := decide (0 ≤ a ∧ a ≤ b ∧ b ≤ 1000)
def opN (m o a b : Int) : Int := if vBl m o && opR a b then cntTo (isOp m o) a (b - a).toNat else 0
def opC (m o a b : Int) : Int := if vBl m o then (if opR a b then 0 else 2) else 1

set_option maxHeartbeats 400000 in
theorem openParts_any (m o a b : Int) (w : World) :
    Calls Try.prog 20 #[.agg #[.int .i64 m, .int .i64 o], .int .i64 a, .int .i64 b] w fun e w' => e = .returned (.tuple #[.int .i64 (opN m o a b), .int .i64 (opC m o a b)]) ∧ Below w.heap.size w w' := by
  cases h1 : vBl m o
  · go_enter Try.func20, Try.ntmps20
    go_wp2_with (first | (go_at_call 16; refine (validBlades_is (by assumption) _).mono ?_; rintro e w1 ⟨rfl, hb1⟩; obtain ⟨hc1, hf1⟩ := bcell hb1; try (have hz1 : w.heap.size < w1.heap.size := by (have h := hb1.size; (try simp at h); omega)); try (have hy1 : w.heap.size + 1 < w1.heap.size := by (have h := hb1.size; (try simp at h); omega)); try (have hx1 : w.heap.size + 1 + 1 < w1.heap.size := by (have h := hb1.size; (try simp at h); omega)); try (have hv1 : w.heap.size + 1 + 1 + 1 < w1.heap.size := by (have h := hb1.size; (try simp at h); omega))))
    go_ret2
    refine ⟨by simp [opN, opC, *], ?_⟩
    repeat (first | exact Below.refl _ _ | refine bw_drew ?_ | refine bw_drewN ?_ _ | refine bw_set ?_ (by simp; try omega) _ | refine bw_alloc ?_ _ | refine bw_trans ?_ (by assumption) | assumption)
  obtain ⟨hm, _, ho, _⟩ := vBl_true.1 h1
  cases h2 : opR a b
  · have h2' : ¬ (0 ≤ a ∧ a ≤ b ∧ b ≤ 1000) := by simpa [opR] using h2
    by_cases c1 : 0 ≤ a
    · by_cases c2 : a ≤ b
      · have c3 : decide (b ≤ 1000) = false := decide_eq_false (by omega)
        have d1 := decide_eq_true c1
        have d2 := decide_eq_true c2
        clear h2'
        go_enter Try.func20, Try.ntmps20
        go_wp2_with (first | (go_at_call 16; refine (validBlades_is (by assumption) _).mono ?_; rintro e w1 ⟨rfl, hb1⟩; obtain ⟨hc1, hf1⟩ := bcell hb1; try (have hz1 : w.heap.size < w1.heap.size := by (have h := hb1.size; (try simp at h); omega)); try (have hy1 : w.heap.size + 1 < w1.heap.size := by (have h := hb1.size; (try simp at h); omega)); try (have hx1 : w.heap.size + 1 + 1 < w1.heap.size := by (have h := hb1.size; (try simp at h); omega)); try (have hv1 : w.heap.size + 1 + 1 + 1 < w1.heap.size := by (have h := hb1.size; (try simp at h); omega))))
        go_ret2
        refine ⟨by simp [opN, opC, *], ?_⟩
        repeat (first | exact Below.refl _ _ | refine bw_drew ?_ | refine bw_drewN ?_ _ | refine bw_set ?_ (by simp; try omega) _ | refine bw_alloc ?_ _ | refine bw_trans ?_ (by assumption) | assumption)
      · have d1 := decide_eq_true c1
        have d2 := decide_eq_false c2
        clear h2'
        go_enter Try.func20, Try.ntmps20
        go_wp2_with (first | (go_at_call 16; refine (validBlades_is (by assumption) _).mono ?_; rintro e w1 ⟨rfl, hb1⟩; obtain ⟨hc1, hf1⟩ := bcell hb1; try (have hz1 : w.heap.size < w1.heap.size := by (have h := hb1.size; (try simp at h); omega)); try (have hy1 : w.heap.size + 1 < w1.heap.size := by (have h := hb1.size; (try simp at h); omega)); try (have hx1 : w.heap.size + 1 + 1 < w1.heap.size := by (have h := hb1.size; (try simp at h); omega)); try (have hv1 : w.heap.size + 1 + 1 + 1 < w1.heap.size := by (have h := hb1.size; (try simp at h); omega))))
        go_ret2
        refine ⟨by simp [opN, opC, *], ?_⟩
        repeat (first | exact Below.refl _ _ | refine bw_drew ?_ | refine bw_drewN ?_ _ | refine bw_set ?_ (by simp; try omega) _ | refine bw_alloc ?_ _ | refine bw_trans ?_ (by assumption) | assumption)
    · have d1 := decide_eq_false c1
      clear h2'
      go_enter Try.func20, Try.ntmps20
      go_wp2_with (first | (go_at_call 16; refine (validBlades_is (by assumption) _).mono ?_; rintro e w1 ⟨rfl, hb1⟩; obtain ⟨hc1, hf1⟩ := bcell hb1; try (have hz1 : w.heap.size < w1.heap.size := by (have h := hb1.size; (try simp at h); omega)); try (have hy1 : w.heap.size + 1 < w1.heap.size := by (have h := hb1.size; (try simp at h); omega)); try (have hx1 : w.heap.size + 1 + 1 < w1.heap.size := by (have h := hb1.size; (try simp at h); omega)); try (have hv1 : w.heap.size + 1 + 1 + 1 < w1.heap.size := by (have h := hb1.size; (try simp at h); omega))))
      go_ret2
      refine ⟨by simp [opN, opC, *], ?_⟩
      repeat (first | exact Below.refl _ _ | refine bw_drew ?_ | refine bw_drewN ?_ _ | refine bw_set ?_ (by simp; try omega) _ | refine bw_alloc ?_ _ | refine bw_trans ?_ (by assumption) | assumption)
  · have h2' : 0 ≤ a ∧ a ≤ b ∧ b ≤ 1000 := by simpa [opR] using h2
    obtain ⟨c1, c2, c3⟩ := h2'
    have d1 := decide_eq_true c1
    have d2 := decide_eq_true c2
    have d3 := decide_eq_true c3
    go_enter Try.func20, Try.ntmps20
    go_wp2_with (first | (go_at_call 16; refine (validBlades_is (by assumption) _).mono ?_; rintro e w1 ⟨rfl, hb1⟩; obtain ⟨hc1, hf1⟩ := bcell hb1; try (have hz1 : w.heap.size < w1.heap.size := by (have h := hb1.size; (try simp at h); omega)); try (have hy1 : w.heap.size + 1 < w1.heap.size := by (have h := hb1.size; (try simp at h); omega)); try (have hx1 : w.heap.size + 1 + 1 < w1.heap.size := by (have h := hb1.size; (try simp at h); omega)); try (have hv1 : w.heap.size + 1 + 1 + 1 < w1.heap.size := by (have h := hb1.size; (try simp at h); omega))))
    go_loopw [8, 9] (fun x y wr => ∃ k : Nat, (k : Int) ≤ b - a ∧ x = .int .i64 (cntTo (isOp m o) a k) ∧ y = .int .i64 (a + k) ∧ Below (w.alloc (.cells #[.int .i64 m, .int .i64 o] 25)).heap.size (w.alloc (.cells #[.int .i64 m, .int .i64 o] 25)) wr) (fun _ y _ => (1000 - intOf y).toNat)
    case atStart => exact ⟨0, by omega, rfl, by simp, hb1⟩
    case round =>
      obtain ⟨k, hk, rfl, rfl, hbr⟩ := hrel
      have hc0 : wr.cell? ⟨w.heap.size, 0, none⟩ = some (.int .i64 m) := cell_of hbr (by go_simp)
      have hc1 : wr.cell? ⟨w.heap.size, 1, none⟩ = some (.int .i64 o) := cell_of hbr (by go_simp)
      have hzr : w.heap.size < wr.heap.size := by have h := hbr.size; simp at h; omega
      obtain ⟨n1, n2⟩ := cntTo_bd (isOp m o) a k
      have HV := Lib.hid h1
      have HR := Lib.hid h2
      clear h1 h2
      by_cases hlt : a + k < b
      · have iso : ∀ W : World, Calls Try.prog 43 #[.agg #[.int .i64 m, .int .i64 o], .int .i64 (a + k)] W fun e w' => e = .returned (.bool (isOp m o (a + k))) ∧ Below W.heap.size W w' := fun W => isOpen_any _ _ _ _ hm ho ⟨by omega, by omega⟩
        have ISO := Lib.hid iso
        clear iso
        cases hop : isOp m o (a + k)
        all_goals
          go_wp2_with (first | (go_at_call 43; refine (ISO.out _).mono ?_; rintro e w1 ⟨rfl, hb1⟩; obtain ⟨hc1, hf1⟩ := bcell hb1; try (have hz1 : w.heap.size < w1.heap.size := by (have h := hb1.size; (try simp at h); omega)); try (have hy1 : w.heap.size + 1 < w1.heap.size := by (have h := hb1.size; (try simp at h); omega)); try (have hx1 : w.heap.size + 1 + 1 < w1.heap.size := by (have h := hb1.size; (try simp at h); omega)); try (have hv1 : w.heap.size + 1 + 1 + 1 < w1.heap.size := by (have h := hb1.size; (try simp at h); omega))))
          go_roundw
          case rel => exact ⟨k + 1, by omega, by first | rw [cntTo_no hop] | rw [cntTo_yes hop], by go_num, bw_trans hbr hb1⟩
          case measure => simp [intOf]; omega
      · have hkk : (b - a).toNat = k := by omega
        have HK := Lib.hid hkk
        clear hkk
        go_wp2
        go_ret2
        refine ⟨by simp [opN, opC, HV.out, HR.out, HK.out], ?_⟩
        exact bw_trans (bw_alloc (Below.refl _ _) _) hbr
theorem opR_in (a b : Int) : opR a b = (inB a 0 1000 && inB b a 1000) := by
  unfold opR inB
  rw [Bool.eq_iff_iff]
  simp
  omega

set_option maxHeartbeats 400000 in
theorem sOpenParts_any (m o a b : Int) (w : World) :
    Calls Try.prog 19 #[.agg #[.int .i64 m, .int .i64 o], .int .i64 a, .int .i64 b] w fun e w' => e = .returned (.tuple #[.int .i64 (opN m o a b), .int .i64 (opC m o a b)]) ∧ Below w.heap.size w w' := by
  have hR := opR_in a b
  cases h1 : vBl m o
  · clear hR
    go_enter Try.func19, Try.ntmps19
    go_wp2_with (first | (go_at_call 39; refine (l09Ok_is (by assumption) _ _ _ (by go_simp) (by go_simp)).mono ?_; rintro e w1 ⟨rfl, hb1⟩; obtain ⟨hc1, hf1⟩ := bcell hb1; try (have hz1 : w.heap.size < w1.heap.size := by (have h := hb1.size; (try simp at h); omega)); try (have hy1 : w.heap.size + 1 < w1.heap.size := by (have h := hb1.size; (try simp at h); omega)); try (have hx1 : w.heap.size + 1 + 1 < w1.heap.size := by (have h := hb1.size; (try simp at h); omega)); try (have hv1 : w.heap.size + 1 + 1 + 1 < w1.heap.size := by (have h := hb1.size; (try simp at h); omega))))
    go_ret2
    refine ⟨by simp [opN, opC, *], ?_⟩
    repeat (first | exact Below.refl _ _ | refine bw_drew ?_ | refine bw_drewN ?_ _ | refine bw_set ?_ (by simp; try omega) _ | refine bw_alloc ?_ _ | refine bw_trans ?_ (by assumption) | assumption)
  obtain ⟨hm, _, ho, _⟩ := vBl_true.1 h1
  cases h2 : inB a 0 1000
  · have HR := Lib.hid hR
    clear hR
    go_enter Try.func19, Try.ntmps19
    go_wp2_with (first | (go_at_call 39; refine (l09Ok_is (by assumption) _ _ _ (by go_simp) (by go_simp)).mono ?_; rintro e w1 ⟨rfl, hb1⟩; obtain ⟨hc1, hf1⟩ := bcell hb1; try (have hz1 : w.heap.size < w1.heap.size := by (have h := hb1.size; (try simp at h); omega)); try (have hy1 : w.heap.size + 1 < w1.heap.size := by (have h := hb1.size; (try simp at h); omega)); try (have hx1 : w.heap.size + 1 + 1 < w1.heap.size := by (have h := hb1.size; (try simp at h); omega)); try (have hv1 : w.heap.size + 1 + 1 + 1 < w1.heap.size := by (have h := hb1.size; (try simp at h); omega))) | (go_at_call 41; refine (l00In_is (by assumption) _).mono ?_; rintro e w1 ⟨rfl, rfl⟩))
    go_ret2
    refine ⟨by simp [opN, opC, HR.out, *], ?_⟩
    repeat (first | exact Below.refl _ _ | refine bw_drew ?_ | refine bw_drewN ?_ _ | refine bw_set ?_ (by simp; try omega) _ | refine bw_alloc ?_ _ | refine bw_trans ?_ (by assumption) | assumption)
  cases h3 : inB b a 1000
  · have HR := Lib.hid hR
    clear hR
    go_enter Try.func19, Try.ntmps19
    go_wp2_with (first | (go_at_call 39; refine (l09Ok_is (by assumption) _ _ _ (by go_simp) (by go_simp)).mono ?_; rintro e w1 ⟨rfl, hb1⟩; obtain ⟨hc1, hf1⟩ := bcell hb1; try (have hz1 : w.heap.size < w1.heap.size := by (have h := hb1.size; (try simp at h); omega)); try (have hy1 : w.heap.size + 1 < w1.heap.size := by (have h := hb1.size; (try simp at h); omega)); try (have hx1 : w.heap.size + 1 + 1 < w1.heap.size := by (have h := hb1.size; (try simp at h); omega)); try (have hv1 : w.heap.size + 1 + 1 + 1 < w1.heap.size := by (have h := hb1.size; (try simp at h); omega))) | (go_at_call 41; refine (l00In_is (by assumption) _).mono ?_; rintro e w1 ⟨rfl, rfl⟩))
    go_ret2
    refine ⟨by simp [opN, opC, HR.out, *], ?_⟩
    repeat (first | exact Below.refl _ _ | refine bw_drew ?_ | refine bw_drewN ?_ _ | refine bw_set ?_ (by simp; try omega) _ | refine bw_alloc ?_ _ | refine bw_trans ?_ (by assumption) | assumption)
  · obtain ⟨c1, c2⟩ := inB_true.1 h2
    obtain ⟨c3, c4⟩ := inB_true.1 h3
    have HR := Lib.hid hR
    clear hR
    go_enter Try.func19, Try.ntmps19
    go_wp2_with (first | (go_at_call 39; refine (l09Ok_is (by assumption) _ _ _ (by go_simp) (by go_simp)).mono ?_; rintro e w1 ⟨rfl, hb1⟩; obtain ⟨hc1, hf1⟩ := bcell hb1; try (have hz1 : w.heap.size < w1.heap.size := by (have h := hb1.size; (try simp at h); omega)); try (have hy1 : w.heap.size + 1 < w1.heap.size := by (have h := hb1.size; (try simp at h); omega)); try (have hx1 : w.heap.size + 1 + 1 < w1.heap.size := by (have h := hb1.size; (try simp at h); omega)); try (have hv1 : w.heap.size + 1 + 1 + 1 < w1.heap.size := by (have h := hb1.size; (try simp at h); omega))) | (go_at_call 41; refine (l00In_is (by assumption) _).mono ?_; rintro e w1 ⟨rfl, rfl⟩))
    go_loopw [8, 9] (fun x y wr => ∃ k : Nat, (k : Int) ≤ b - a ∧ x = .int .i64 (cntTo (isOp m o) a k) ∧ y = .int .i64 (a + k) ∧ Below (w.alloc (.cells #[.int .i64 m, .int .i64 o] 25)).heap.size (w.alloc (.cells #[.int .i64 m, .int .i64 o] 25)) wr) (fun _ y _ => (1000 - intOf y).toNat)
    case atStart => exact ⟨0, by omega, rfl, by simp, hb1⟩
    case round =>
      obtain ⟨k, hk, rfl, rfl, hbr⟩ := hrel
      have hc0 : wr.cell? ⟨w.heap.size, 0, none⟩ = some (.int .i64 m) := cell_of hbr (by go_simp)
      have hc1 : wr.cell? ⟨w.heap.size, 1, none⟩ = some (.int .i64 o) := cell_of hbr (by go_simp)
      have hzr : w.heap.size < wr.heap.size := by have h := hbr.size; simp at h; omega
      obtain ⟨n1, n2⟩ := cntTo_bd (isOp m o) a k
      have HV := Lib.hid h1
      have H2 := Lib.hid h2
      have H3 := Lib.hid h3
      clear h1 h2 h3
      by_cases hlt : a + k < b
      · cases hop : isOp m o (a + k)
        all_goals
          go_wp2_with (first | (go_at_call 42; refine (l09Open_any m o _ _ _ _ (by go_simp) (by go_simp) hm ho ⟨by omega, by omega⟩).mono ?_; rintro e w1 ⟨rfl, hb1⟩; obtain ⟨hc1, hf1⟩ := bcell hb1; try (have hz1 : w.heap.size < w1.heap.size := by (have h := hb1.size; (try simp at h); omega)); try (have hy1 : w.heap.size + 1 < w1.heap.size := by (have h := hb1.size; (try simp at h); omega)); try (have hx1 : w.heap.size + 1 + 1 < w1.heap.size := by (have h := hb1.size; (try simp at h); omega)); try (have hv1 : w.heap.size + 1 + 1 + 1 < w1.heap.size := by (have h := hb1.size; (try simp at h); omega))))
          go_roundw
          case rel => exact ⟨k + 1, by omega, by first | rw [cntTo_no hop] | rw [cntTo_yes hop], by go_num, bw_trans hbr hb1⟩
          case measure => simp [intOf]; omega
      · have hkk : (b - a).toNat = k := by omega
        have HK := Lib.hid hkk
        clear hkk
        go_wp2
        go_ret2
        refine ⟨by simp [opN, opC, HV.out, HR.out, H2.out, H3.out, HK.out], ?_⟩
        exact bw_trans (bw_alloc (Below.refl _ _) _) hbr

set_option maxHeartbeats 400000 in
theorem law_OpenParts (m o a b : Int) (w : World) :
    Calls Try.prog 5 #[.agg #[.int .i64 m, .int .i64 o], .int .i64 a, .int .i64 b] w fun e w' => e = .returned (.bool true) ∧ Below w.heap.size w w' := by
  go_enter Try.func5, Try.ntmps5
  go_wp2_with fail
  refine ((toBlades_any _ _ _)).mono ?_
  rintro e w1 ⟨rfl, hb1⟩
  obtain ⟨hc1, hf1⟩ := bcell hb1
  try (have hz1 : w.heap.size < w1.heap.size := by (have h := hb1.size; (try simp at h); omega))
  try (have hy1 : w.heap.size + 1 < w1.heap.size := by (have h := hb1.size; (try simp at h); omega))
  try (have hx1 : w.heap.size + 1 + 1 < w1.heap.size := by (have h := hb1.size; (try simp at h); omega))
  try (have hv1 : w.heap.size + 1 + 1 + 1 < w1.heap.size := by (have h := hb1.size; (try simp at h); omega))
  go_wp2_with fail
  refine ((sOpenParts_any _ _ _ _ _)).mono ?_
  rintro e w2 ⟨rfl, hb2⟩
  obtain ⟨hc2, hf2⟩ := bcell hb2
  try (have hz2 : w.heap.size < w2.heap.size := by (have h := hb2.size; (try simp at h); omega))
  try (have hy2 : w.heap.size + 1 < w2.heap.size := by (have h := hb2.size; (try simp at h); omega))
  try (have hx2 : w.heap.size + 1 + 1 < w2.heap.size := by (have h := hb2.size; (try simp at h); omega))
  try (have hv2 : w.heap.size + 1 + 1 + 1 < w2.heap.size := by (have h := hb2.size; (try simp at h); omega))
  go_wp2_with fail
  refine ((toBlades_any _ _ _)).mono ?_
  rintro e w3 ⟨rfl, hb3⟩
  obtain ⟨hc3, hf3⟩ := bcell hb3
  try (have hz3 : w.heap.size < w3.heap.size := by (have h := hb3.size; (try simp at h); omega))
  try (have hy3 : w.heap.size + 1 < w3.heap.size := by (have h := hb3.size; (try simp at h); omega))
  try (have hx3 : w.heap.size + 1 + 1 < w3.heap.size := by (have h := hb3.size; (try simp at h); omega))
  try (have hv3 : w.heap.size + 1 + 1 + 1 < w3.heap.size := by (have h := hb3.size; (try simp at h); omega))
  go_wp2_with fail
  refine ((openParts_any _ _ _ _ _)).mono ?_
  rintro e w4 ⟨rfl, hb4⟩
  obtain ⟨hc4, hf4⟩ := bcell hb4
  try (have hz4 : w.heap.size < w4.heap.size := by (have h := hb4.size; (try simp at h); omega))
  try (have hy4 : w.heap.size + 1 < w4.heap.size := by (have h := hb4.size; (try simp at h); omega))
  try (have hx4 : w.heap.size + 1 + 1 < w4.heap.size := by (have h := hb4.size; (try simp at h); omega))
  try (have hv4 : w.heap.size + 1 + 1 + 1 < w4.heap.size := by (have h := hb4.size; (try simp at h); omega))
  go_wp2
  go_ret
  refine ⟨rfl, ?_⟩
  repeat (first | exact Below.refl _ _ | refine bw_drew ?_ | refine bw_drewN ?_ _ | refine bw_set ?_ (by simp; try omega) _ | refine bw_alloc ?_ _ | refine bw_trans ?_ (by assumption) | assumption)
end Go.Proofs.Ytfkghnaibliknaa
