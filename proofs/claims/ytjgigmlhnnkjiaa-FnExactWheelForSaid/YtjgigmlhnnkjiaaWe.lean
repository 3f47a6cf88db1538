/-
  WheelFor: in the program and in the reference; the law.
-/
import Derived.Test.YtjgigmlhnnkjiaaWb
import Derived.Test.YtjgigmlhnnkjiaaFrac
import Derived.Test.YtjgigmlhnnkjiaaGcd
namespace Go.Proofs.Ytjgigmlhnnkjiaa
open Go.RowKit

theorem apart_any (a b : Int) (w : World) (ha : -1000000000000 ≤ a ∧ a ≤ 1000000000000) (hb : -1000000000000 ≤ b ∧ b ≤ 1000000000000) :
    Calls Try.prog 44 #[.int .i64 a, .int .i64 b] w fun e w' => e = .returned (.int .i64 ((a - b).natAbs : Int)) ∧ w = w' := by
  obtain ⟨a1, a2⟩ := ha
  obtain ⟨b1, b2⟩ := hb
  go_enter Try.func44, Try.ntmps44
  go_wp2
  all_goals
    go_ret
    exact ⟨ret_int (by omega), rfl⟩

/-- How far a wheel is from what is wanted. -/
def wfD (cr num den : Int) (t : Nat) : Int := ((cr * den - num * t).natAbs : Int)
/-- The best number of teeth from 2 up to k + 2. -/
def wfB (cr num den : Int) : Nat → Nat
  | 0 => 2
  | k + 1 => if wfD cr num den (k + 3) * (wfB cr num den k) < wfD cr num den (wfB cr num den k) * (k + 3) then k + 3 else wfB cr num den k
theorem wfB_bd (cr num den : Int) (k : Nat) : 2 ≤ wfB cr num den k ∧ wfB cr num den k ≤ k + 2 := by
  induction k with
  | zero => simp [wfB]
  | succ k ih => unfold wfB; split <;> omega
theorem wfB_yes {cr num den : Int} {k b : Nat} (hb : wfB cr num den k = b) (h : wfD cr num den (k + 3) * b < wfD cr num den b * (k + 3)) : wfB cr num den (k + 1) = k + 3 := by
  conv => lhs; unfold wfB
  rw [hb, if_pos h]
theorem wfB_no {cr num den : Int} {k b : Nat} (hb : wfB cr num den k = b) (h : ¬ wfD cr num den (k + 3) * b < wfD cr num den b * (k + 3)) : wfB cr num den (k + 1) = b := by
  conv => lhs; unfold wfB
  rw [hb, if_neg h]
theorem wfD_bd {cr num den : Int} {t : Nat} (h1 : 0 ≤ cr * den ∧ cr * den ≤ 200000) (h2 : 0 ≤ num ∧ num ≤ 1000) (ht : t ≤ 200) :
    (0 ≤ num * t ∧ num * t ≤ 200000) ∧ 0 ≤ wfD cr num den t ∧ wfD cr num den t ≤ 200000 := by
  have a := Int.mul_nonneg h2.1 (show (0 : Int) ≤ t by omega)
  have b := Int.mul_le_mul h2.2 (show (t : Int) ≤ 200 by omega) (by omega) (by omega)
  unfold wfD
  omega
theorem wf_prod {a : Int} {t : Nat} (h : 0 ≤ a ∧ a ≤ 200000) (ht : t ≤ 200) : 0 ≤ a * t ∧ a * t ≤ 40000000 := by
  have a' := Int.mul_nonneg h.1 (show (0 : Int) ≤ t by omega)
  have b := Int.mul_le_mul h.2 (show (t : Int) ≤ 200 by omega) (by omega) (by omega)
  omega
def wfV (cr num den : Int) : Bool := isTe cr && vFrac num den
def wfR (num den : Int) : Bool := inB num 1 1000 && decide (den ≤ 1000)
def wfC (cr num den : Int) : Int := if wfV cr num den then (if wfR num den then 0 else 2) else 1
def wfN (cr num den : Int) : Int := if wfV cr num den && wfR num den then (wfB cr num den 198 : Int) else 0
theorem wf_cases (cr num den : Int) : (wfV cr num den = false ∧ wfC cr num den = 1 ∧ wfN cr num den = 0) ∨ (wfV cr num den = true ∧ wfR num den = false ∧ wfC cr num den = 2 ∧ wfN cr num den = 0) ∨ (wfV cr num den = true ∧ wfR num den = true ∧ wfC cr num den = 0 ∧ wfN cr num den = (wfB cr num den 198 : Int)) := by
  unfold wfC wfN
  cases h1 : wfV cr num den <;> cases h2 : wfR num den <;> simp

theorem validFraction_is {n d : Int} {b : Bool} (h : vFrac n d = b) (w : World) :
    Calls Try.prog 43 #[.agg #[.int .i64 n, .int .i64 d]] w fun e w' => e = .returned (.bool b) ∧ Below w.heap.size w w' := by
  subst h; exact validFraction_any n d w
theorem l02Ok_is {n d : Int} {b : Bool} (h : vFrac n d = b) (w : World) :
    Calls Try.prog 39 #[.agg #[.int .i64 n, .int .i64 d]] w fun e w' => e = .returned (.bool b) ∧ Below w.heap.size w w' := by
  subst h; exact l02Ok_any n d w

set_option maxRecDepth 100000 in
set_option maxHeartbeats 1600000 in
theorem sWheelFor_any (cr num den : Int) (w : World) :
    Calls Try.prog 15 #[.int .i64 cr, .agg #[.int .i64 num, .int .i64 den]] w fun e w' => e = .returned (.tuple #[.int .i64 (wfN cr num den), .int .i64 (wfC cr num den)]) ∧ Below w.heap.size w w' := by
  cases hv : vFrac num den
  · have HR : Hid (wfN cr num den = 0 ∧ wfC cr num den = 1) := ⟨by simp [wfN, wfV, hv], by simp [wfC, wfV, hv]⟩
    go_enter Try.func15, Try.ntmps15
    go_wp2_with (go_at_call 39; refine (l02Ok_is hv _).mono ?_; rintro e w1 ⟨rfl, hb1⟩; obtain ⟨hc1, hf1⟩ := bcell hb1; try (have hz1 : w.heap.size < w1.heap.size := by (have h := hb1.size; (try simp at h); omega)); try (have hy1 : w.heap.size + 1 < w1.heap.size := by (have h := hb1.size; (try simp at h); omega)); try (have hx1 : w.heap.size + 1 + 1 < w1.heap.size := by (have h := hb1.size; (try simp at h); omega)); try (have hv1 : w.heap.size + 1 + 1 + 1 < w1.heap.size := by (have h := hb1.size; (try simp at h); omega)); try (have hp1 : w.heap.size ≤ w1.heap.size := by omega))
    go_ret2
    refine ⟨by rw [HR.out.1, HR.out.2]; rfl, ?_⟩
    repeat (first | exact Below.refl _ _ | refine bw_drew ?_ | refine bw_drewN ?_ _ | refine bw_set ?_ (by simp; try omega) _ | refine bw_alloc ?_ _ | refine bw_trans ?_ (by assumption) | assumption)
  cases ht : isTe cr
  · have HR : Hid (wfN cr num den = 0 ∧ wfC cr num den = 1) := ⟨by simp [wfN, wfV, ht], by simp [wfC, wfV, ht]⟩
    go_enter Try.func15, Try.ntmps15
    go_wp2_with (first | (go_at_call 39; refine (l02Ok_is hv _).mono ?_; rintro e w1 ⟨rfl, hb1⟩; obtain ⟨hc1, hf1⟩ := bcell hb1; try (have hz1 : w.heap.size < w1.heap.size := by (have h := hb1.size; (try simp at h); omega)); try (have hy1 : w.heap.size + 1 < w1.heap.size := by (have h := hb1.size; (try simp at h); omega)); try (have hx1 : w.heap.size + 1 + 1 < w1.heap.size := by (have h := hb1.size; (try simp at h); omega)); try (have hv1 : w.heap.size + 1 + 1 + 1 < w1.heap.size := by (have h := hb1.size; (try simp at h); omega)); try (have hp1 : w.heap.size ≤ w1.heap.size := by omega)) | (go_at_call 40; refine (l14Teeth_is ht _).mono ?_; rintro e w1 ⟨rfl, rfl⟩))
    go_ret2
    refine ⟨by rw [HR.out.1, HR.out.2]; rfl, ?_⟩
    repeat (first | exact Below.refl _ _ | refine bw_drew ?_ | refine bw_drewN ?_ _ | refine bw_set ?_ (by simp; try omega) _ | refine bw_alloc ?_ _ | refine bw_trans ?_ (by assumption) | assumption)
  cases hn : inB num 1 1000
  · have HR : Hid (wfN cr num den = 0 ∧ wfC cr num den = 2) := ⟨by simp [wfN, wfR, hn], by simp [wfC, wfV, wfR, hv, ht, hn]⟩
    go_enter Try.func15, Try.ntmps15
    go_wp2_with (first | (go_at_call 39; refine (l02Ok_is hv _).mono ?_; rintro e w1 ⟨rfl, hb1⟩; obtain ⟨hc1, hf1⟩ := bcell hb1; try (have hz1 : w.heap.size < w1.heap.size := by (have h := hb1.size; (try simp at h); omega)); try (have hy1 : w.heap.size + 1 < w1.heap.size := by (have h := hb1.size; (try simp at h); omega)); try (have hx1 : w.heap.size + 1 + 1 < w1.heap.size := by (have h := hb1.size; (try simp at h); omega)); try (have hv1 : w.heap.size + 1 + 1 + 1 < w1.heap.size := by (have h := hb1.size; (try simp at h); omega)); try (have hp1 : w.heap.size ≤ w1.heap.size := by omega)) | (go_at_call 40; refine (l14Teeth_is ht _).mono ?_; rintro e w1 ⟨rfl, rfl⟩) | (go_at_call 41; refine (l00In_is hn _).mono ?_; rintro e w1 ⟨rfl, rfl⟩))
    go_ret2
    refine ⟨by rw [HR.out.1, HR.out.2]; rfl, ?_⟩
    repeat (first | exact Below.refl _ _ | refine bw_drew ?_ | refine bw_drewN ?_ _ | refine bw_set ?_ (by simp; try omega) _ | refine bw_alloc ?_ _ | refine bw_trans ?_ (by assumption) | assumption)
  by_cases hd : den ≤ 1000
  · have hdd : decide (1000 < den) = false := decide_eq_false (by omega)
    have HR : Hid (wfN cr num den = (wfB cr num den 198 : Int) ∧ wfC cr num den = 0) := ⟨by simp [wfN, wfV, wfR, hv, ht, hn, hd], by simp [wfC, wfV, wfR, hv, ht, hn, hd]⟩
    obtain ⟨⟨v1, v2⟩, ⟨v3, v4⟩, v5⟩ := vFrac_true.1 hv
    obtain ⟨n1, n2⟩ := inB_true.1 hn
    obtain ⟨t1, t2⟩ := isTe_true.1 ht
    have hcd : 0 ≤ cr * den ∧ cr * den ≤ 200000 := by
      have a := Int.mul_nonneg (show 0 ≤ cr by omega) (show 0 ≤ den by omega)
      have b := Int.mul_le_mul t2 hd (by omega) (by omega)
      omega
    obtain ⟨hcd1, hcd2⟩ := hcd
    go_enter Try.func15, Try.ntmps15
    go_wp2_with (first | (go_at_call 39; refine (l02Ok_is hv _).mono ?_; rintro e w1 ⟨rfl, hb1⟩; obtain ⟨hc1, hf1⟩ := bcell hb1; try (have hz1 : w.heap.size < w1.heap.size := by (have h := hb1.size; (try simp at h); omega)); try (have hy1 : w.heap.size + 1 < w1.heap.size := by (have h := hb1.size; (try simp at h); omega)); try (have hx1 : w.heap.size + 1 + 1 < w1.heap.size := by (have h := hb1.size; (try simp at h); omega)); try (have hv1 : w.heap.size + 1 + 1 + 1 < w1.heap.size := by (have h := hb1.size; (try simp at h); omega)); try (have hp1 : w.heap.size ≤ w1.heap.size := by omega)) | (go_at_call 40; refine (l14Teeth_is ht _).mono ?_; rintro e w1 ⟨rfl, rfl⟩) | (go_at_call 41; refine (l00In_is hn _).mono ?_; rintro e w1 ⟨rfl, rfl⟩))
    go_loopw [6, 7] (fun x y wr => ∃ k : Nat, ∃ b : Nat, k ≤ 198 ∧ x = .int .i64 b ∧ y = .int .i64 (k + 3) ∧ Hid (wfB cr num den k = b) ∧ Below w1.heap.size w1 wr) (fun _ y _ => (201 - (intOf y).toNat))
    case atStart => exact ⟨0, 2, by omega, rfl, rfl, rfl, Below.refl _ _⟩
    case round =>
      obtain ⟨k, b, hk, rfl, rfl, hb, hbr⟩ := hrel
      have hbb := wfB_bd cr num den k
      rw [hb.out] at hbb
      obtain ⟨b1, b2⟩ := hbb
      obtain ⟨hcr, hfr⟩ := bcell hbr
      have hzr : w.heap.size < wr.heap.size := by (have h := hbr.size; omega)
      by_cases hlt : k < 198
      · obtain ⟨⟨e1, e2⟩, e3, e4⟩ := wfD_bd (cr := cr) (num := num) (den := den) (t := k + 3) ⟨hcd1, hcd2⟩ ⟨by omega, by omega⟩ (by omega)
        obtain ⟨⟨g1, g2⟩, g3, g4⟩ := wfD_bd (cr := cr) (num := num) (den := den) (t := b) ⟨hcd1, hcd2⟩ ⟨by omega, by omega⟩ (by omega)
        obtain ⟨p1, p2⟩ := wf_prod (a := wfD cr num den (k + 3)) (t := b) ⟨e3, e4⟩ (by omega)
        obtain ⟨q1, q2⟩ := wf_prod (a := wfD cr num den b) (t := k + 3) ⟨g3, g4⟩ (by omega)
        have hu1 : wfD cr num den (k + 3) = ((cr * den - num * ((k + 3 : Nat) : Int)).natAbs : Int) := rfl
        have hu2 : wfD cr num den b = ((cr * den - num * (b : Int)).natAbs : Int) := rfl
        have hc3 : ((k + 3 : Nat) : Int) = (k : Int) + 3 := by omega
        rw [hu1] at p1 p2
        rw [hu2] at q1 q2
        rw [hc3] at e1 e2 p1 p2 q1 q2
        have hE := Lib.hid hu1
        rw [hc3] at hE
        have hyes : wfD cr num den (k + 3) * b < wfD cr num den b * ((k : Int) + 3) → wfB cr num den (k + 1) = k + 3 := fun h => wfB_yes hb.out (by rw [← hc3] at h; exact h)
        have hno : ¬ wfD cr num den (k + 3) * b < wfD cr num den b * ((k : Int) + 3) → wfB cr num den (k + 1) = b := fun h => wfB_no hb.out (by rw [← hc3] at h; exact h)
        rw [hE.out, hu2] at hyes hno
        have HYES := Lib.hid hyes
        have HNO := Lib.hid hno
        clear hyes hno hE hu1 hu2 hc3 e3 e4 g3 g4 hv ht hn hd
        have HB := Lib.hid (show wfB cr num den 198 = wfB cr num den 198 from rfl)
        by_cases hxy : ((cr * den - num * ((k : Int) + 3)).natAbs : Int) * (b : Int) < ((cr * den - num * (b : Int)).natAbs : Int) * ((k : Int) + 3)
        · have HQ := Lib.hid (HYES.out hxy)
          have hdx := decide_eq_true hxy
          clear HYES HNO hxy
          go_wp2_with (go_at_call 42; refine (l00Size_any _ _ (by omega) (by omega)).mono ?_; rintro e w1 ⟨rfl, rfl⟩)
          go_roundw
          case rel => exact ⟨k + 1, k + 3, by omega, by go_num, by go_num, HQ.out, hbr⟩
          case measure => simp [intOf]; omega
        · have HQ := Lib.hid (HNO.out hxy)
          have hdx := decide_eq_false hxy
          clear HYES HNO hxy
          go_wp2_with (go_at_call 42; refine (l00Size_any _ _ (by omega) (by omega)).mono ?_; rintro e w1 ⟨rfl, rfl⟩)
          go_roundw
          case rel => exact ⟨k + 1, b, by omega, rfl, by go_num, HQ.out, hbr⟩
          case measure => simp [intOf]; omega
      · have hkk : k = 198 := by omega
        subst hkk
        go_wp2
        go_ret2
        refine ⟨by rw [HR.out.1, HR.out.2, hb.out]; rfl, ?_⟩
        repeat (first | exact Below.refl _ _ | refine bw_drew ?_ | refine bw_drewN ?_ _ | refine bw_set ?_ (by simp; try omega) _ | refine bw_alloc ?_ _ | refine bw_trans ?_ (by assumption) | assumption)
  · have hdd : decide (1000 < den) = true := decide_eq_true (by omega)
    have HR : Hid (wfN cr num den = 0 ∧ wfC cr num den = 2) := ⟨by simp [wfN, wfR, hd], by simp [wfC, wfV, wfR, hv, ht, hn, hd]⟩
    go_enter Try.func15, Try.ntmps15
    go_wp2_with (first | (go_at_call 39; refine (l02Ok_is hv _).mono ?_; rintro e w1 ⟨rfl, hb1⟩; obtain ⟨hc1, hf1⟩ := bcell hb1; try (have hz1 : w.heap.size < w1.heap.size := by (have h := hb1.size; (try simp at h); omega)); try (have hy1 : w.heap.size + 1 < w1.heap.size := by (have h := hb1.size; (try simp at h); omega)); try (have hx1 : w.heap.size + 1 + 1 < w1.heap.size := by (have h := hb1.size; (try simp at h); omega)); try (have hv1 : w.heap.size + 1 + 1 + 1 < w1.heap.size := by (have h := hb1.size; (try simp at h); omega)); try (have hp1 : w.heap.size ≤ w1.heap.size := by omega)) | (go_at_call 40; refine (l14Teeth_is ht _).mono ?_; rintro e w1 ⟨rfl, rfl⟩) | (go_at_call 41; refine (l00In_is hn _).mono ?_; rintro e w1 ⟨rfl, rfl⟩))
    go_ret2
    refine ⟨by rw [HR.out.1, HR.out.2]; rfl, ?_⟩
    repeat (first | exact Below.refl _ _ | refine bw_drew ?_ | refine bw_drewN ?_ _ | refine bw_set ?_ (by simp; try omega) _ | refine bw_alloc ?_ _ | refine bw_trans ?_ (by assumption) | assumption)

theorem vwB_nil {cr : Int} {b : Bool} (h : isTe cr = b) : vwB cr [] 0 = b := by unfold vwB; rw [h]; simp
theorem validWheelsNil_is {cr : Int} {b : Bool} (h : isTe cr = b) (w : World) :
    Calls Try.prog 13 #[.int .i64 cr, .slice none 0 0] w fun e w' => e = .returned (.bool b) ∧ Below w.heap.size w w' :=
  validWheels_is cr none 0 0 [] w (SlWh.nil w) (by omega) (vwB_nil h)

/-- The program's own: the best of the first k numbers of teeth; 0 before the first. -/
def wfI (cr num den : Int) : Nat → Nat
  | 0 => 0
  | k + 1 => wfB cr num den k
set_option maxRecDepth 100000 in
set_option maxHeartbeats 1600000 in
theorem iWheelFor_any (cr num den : Int) (w : World) :
    Calls Try.prog 17 #[.int .i64 cr, .agg #[.int .i64 num, .int .i64 den]] w fun e w' => e = .returned (.tuple #[.int .i64 (wfN cr num den), .int .i64 (wfC cr num den)]) ∧ Below w.heap.size w w' := by
  cases ht : isTe cr
  · have HR : Hid (wfN cr num den = 0 ∧ wfC cr num den = 1) := ⟨by simp [wfN, wfV, ht], by simp [wfC, wfV, ht]⟩
    go_enter Try.func17, Try.ntmps17
    go_wp2_with (go_at_call 13; refine (validWheelsNil_is ht _).mono ?_; rintro e w1 ⟨rfl, hb1⟩; obtain ⟨hc1, hf1⟩ := bcell hb1; try (have hz1 : w.heap.size < w1.heap.size := by (have h := hb1.size; (try simp at h); omega)); try (have hy1 : w.heap.size + 1 < w1.heap.size := by (have h := hb1.size; (try simp at h); omega)); try (have hx1 : w.heap.size + 1 + 1 < w1.heap.size := by (have h := hb1.size; (try simp at h); omega)); try (have hv1 : w.heap.size + 1 + 1 + 1 < w1.heap.size := by (have h := hb1.size; (try simp at h); omega)); try (have hp1 : w.heap.size ≤ w1.heap.size := by omega))
    go_ret2
    refine ⟨by rw [HR.out.1, HR.out.2]; rfl, ?_⟩
    repeat (first | exact Below.refl _ _ | refine bw_drew ?_ | refine bw_drewN ?_ _ | refine bw_set ?_ (by simp; try omega) _ | refine bw_alloc ?_ _ | refine bw_trans ?_ (by assumption) | assumption)
  cases hv : vFrac num den
  · have HR : Hid (wfN cr num den = 0 ∧ wfC cr num den = 1) := ⟨by simp [wfN, wfV, hv], by simp [wfC, wfV, hv]⟩
    go_enter Try.func17, Try.ntmps17
    go_wp2_with fail
    refine ((validWheelsNil_is ht _)).mono ?_
    rintro e w1 ⟨rfl, hb1⟩
    obtain ⟨hc1, hf1⟩ := bcell hb1
    try (have hz1 : w.heap.size < w1.heap.size := by (have h := hb1.size; (try simp at h); omega))
    try (have hy1 : w.heap.size + 1 < w1.heap.size := by (have h := hb1.size; (try simp at h); omega))
    try (have hx1 : w.heap.size + 1 + 1 < w1.heap.size := by (have h := hb1.size; (try simp at h); omega))
    try (have hv1 : w.heap.size + 1 + 1 + 1 < w1.heap.size := by (have h := hb1.size; (try simp at h); omega))
    try (have hp1 : w.heap.size ≤ w1.heap.size := by omega)
    go_wp2_with fail
    refine ((validFraction_is hv _)).mono ?_
    rintro e w2 ⟨rfl, hb2⟩
    obtain ⟨hc2, hf2⟩ := bcell hb2
    try (have hz2 : w.heap.size < w2.heap.size := by (have h := hb2.size; (try simp at h); omega))
    try (have hy2 : w.heap.size + 1 < w2.heap.size := by (have h := hb2.size; (try simp at h); omega))
    try (have hx2 : w.heap.size + 1 + 1 < w2.heap.size := by (have h := hb2.size; (try simp at h); omega))
    try (have hv2 : w.heap.size + 1 + 1 + 1 < w2.heap.size := by (have h := hb2.size; (try simp at h); omega))
    try (have hp2 : w.heap.size ≤ w2.heap.size := by omega)
    go_wp2
    go_ret2
    refine ⟨by rw [HR.out.1, HR.out.2]; rfl, ?_⟩
    repeat (first | exact Below.refl _ _ | refine bw_drew ?_ | refine bw_drewN ?_ _ | refine bw_set ?_ (by simp; try omega) _ | refine bw_alloc ?_ _ | refine bw_trans ?_ (by assumption) | assumption)
  cases hn : inB num 1 1000
  · have HR : Hid (wfN cr num den = 0 ∧ wfC cr num den = 2) := ⟨by simp [wfN, wfR, hn], by simp [wfC, wfV, wfR, hv, ht, hn]⟩
    go_enter Try.func17, Try.ntmps17
    go_wp2_with fail
    refine ((validWheelsNil_is ht _)).mono ?_
    rintro e w1 ⟨rfl, hb1⟩
    obtain ⟨hc1, hf1⟩ := bcell hb1
    try (have hz1 : w.heap.size < w1.heap.size := by (have h := hb1.size; (try simp at h); omega))
    try (have hy1 : w.heap.size + 1 < w1.heap.size := by (have h := hb1.size; (try simp at h); omega))
    try (have hx1 : w.heap.size + 1 + 1 < w1.heap.size := by (have h := hb1.size; (try simp at h); omega))
    try (have hv1 : w.heap.size + 1 + 1 + 1 < w1.heap.size := by (have h := hb1.size; (try simp at h); omega))
    try (have hp1 : w.heap.size ≤ w1.heap.size := by omega)
    go_wp2_with fail
    refine ((validFraction_is hv _)).mono ?_
    rintro e w2 ⟨rfl, hb2⟩
    obtain ⟨hc2, hf2⟩ := bcell hb2
    try (have hz2 : w.heap.size < w2.heap.size := by (have h := hb2.size; (try simp at h); omega))
    try (have hy2 : w.heap.size + 1 < w2.heap.size := by (have h := hb2.size; (try simp at h); omega))
    try (have hx2 : w.heap.size + 1 + 1 < w2.heap.size := by (have h := hb2.size; (try simp at h); omega))
    try (have hv2 : w.heap.size + 1 + 1 + 1 < w2.heap.size := by (have h := hb2.size; (try simp at h); omega))
    try (have hp2 : w.heap.size ≤ w2.heap.size := by omega)
    go_wp2_with (go_at_call 35; refine (within_is hn _).mono ?_; rintro e w1 ⟨rfl, rfl⟩)
    go_ret2
    refine ⟨by rw [HR.out.1, HR.out.2]; rfl, ?_⟩
    repeat (first | exact Below.refl _ _ | refine bw_drew ?_ | refine bw_drewN ?_ _ | refine bw_set ?_ (by simp; try omega) _ | refine bw_alloc ?_ _ | refine bw_trans ?_ (by assumption) | assumption)
  by_cases hd : den ≤ 1000
  · have hdd : decide (1000 < den) = false := decide_eq_false (by omega)
    have HR : Hid (wfN cr num den = (wfB cr num den 198 : Int) ∧ wfC cr num den = 0) := ⟨by simp [wfN, wfV, wfR, hv, ht, hn, hd], by simp [wfC, wfV, wfR, hv, ht, hn, hd]⟩
    obtain ⟨⟨v1, v2⟩, ⟨v3, v4⟩, v5⟩ := vFrac_true.1 hv
    obtain ⟨n1, n2⟩ := inB_true.1 hn
    obtain ⟨t1, t2⟩ := isTe_true.1 ht
    have hcd : 0 ≤ cr * den ∧ cr * den ≤ 200000 := by
      have a := Int.mul_nonneg (show 0 ≤ cr by omega) (show 0 ≤ den by omega)
      have b := Int.mul_le_mul t2 hd (by omega) (by omega)
      omega
    obtain ⟨hcd1, hcd2⟩ := hcd
    go_enter Try.func17, Try.ntmps17
    go_wp2_with fail
    refine ((validWheelsNil_is ht _)).mono ?_
    rintro e w1 ⟨rfl, hb1⟩
    obtain ⟨hc1, hf1⟩ := bcell hb1
    try (have hz1 : w.heap.size < w1.heap.size := by (have h := hb1.size; (try simp at h); omega))
    try (have hy1 : w.heap.size + 1 < w1.heap.size := by (have h := hb1.size; (try simp at h); omega))
    try (have hx1 : w.heap.size + 1 + 1 < w1.heap.size := by (have h := hb1.size; (try simp at h); omega))
    try (have hv1 : w.heap.size + 1 + 1 + 1 < w1.heap.size := by (have h := hb1.size; (try simp at h); omega))
    try (have hp1 : w.heap.size ≤ w1.heap.size := by omega)
    go_wp2_with fail
    refine ((validFraction_is hv _)).mono ?_
    rintro e w2 ⟨rfl, hb2⟩
    obtain ⟨hc2, hf2⟩ := bcell hb2
    try (have hz2 : w.heap.size < w2.heap.size := by (have h := hb2.size; (try simp at h); omega))
    try (have hy2 : w.heap.size + 1 < w2.heap.size := by (have h := hb2.size; (try simp at h); omega))
    try (have hx2 : w.heap.size + 1 + 1 < w2.heap.size := by (have h := hb2.size; (try simp at h); omega))
    try (have hv2 : w.heap.size + 1 + 1 + 1 < w2.heap.size := by (have h := hb2.size; (try simp at h); omega))
    try (have hp2 : w.heap.size ≤ w2.heap.size := by omega)
    go_wp2_with (go_at_call 35; refine (within_is hn _).mono ?_; rintro e w1 ⟨rfl, rfl⟩)
    go_loopw [6, 7, 8] (fun x y z wr => ∃ k : Nat, ∃ b : Nat, ∃ q : Int, k ≤ 199 ∧ x = .int .i64 b ∧ y = .int .i64 q ∧ z = .int .i64 (k + 2) ∧ Hid (wfI cr num den k = b) ∧ Hid (q = if k = 0 then 0 else wfD cr num den b) ∧ Below w2.heap.size w2 wr) (fun _ _ z _ => (201 - (intOf z).toNat))
    case atStart => exact ⟨0, 0, 0, by omega, rfl, rfl, rfl, rfl, by simp [Hid], Below.refl _ _⟩
    case round =>
      obtain ⟨k, b, q, hk, rfl, rfl, rfl, hb, hq, hbr⟩ := hrel
      obtain ⟨hcr, hfr⟩ := bcell hbr
      have hzr : w.heap.size < wr.heap.size := by (have h := hbr.size; omega)
      cases k with
      | zero =>
        have hb0 : b = 0 := hb.out.symm
        have hq0 : q = 0 := by simpa using hq.out
        subst hb0; subst hq0
        obtain ⟨⟨e1, e2⟩, e3, e4⟩ := wfD_bd (cr := cr) (num := num) (den := den) (t := 2) ⟨hcd1, hcd2⟩ ⟨by omega, by omega⟩ (by omega)
        clear hv ht hn hd hb hq
        go_wp2_with (go_at_call 44; refine (apart_any _ _ _ ⟨by omega, by omega⟩ ⟨by omega, by omega⟩).mono ?_; rintro e w1 ⟨rfl, rfl⟩)
        go_roundw
        case rel => exact ⟨1, 2, _, by omega, rfl, rfl, by go_num, rfl, by simp [Hid, wfD], hbr⟩
        case measure => simp [intOf]
      | succ j =>
        have hb' : Hid (wfB cr num den j = b) := hb
        have hbb := wfB_bd cr num den j
        rw [hb'.out] at hbb
        obtain ⟨b1, b2⟩ := hbb
        have hq' : q = ((cr * den - num * (b : Int)).natAbs : Int) := by rw [hq.out, if_neg (by omega)]; rfl
        subst hq'
        by_cases hlt : j < 198
        · obtain ⟨⟨e1, e2⟩, e3, e4⟩ := wfD_bd (cr := cr) (num := num) (den := den) (t := j + 3) ⟨hcd1, hcd2⟩ ⟨by omega, by omega⟩ (by omega)
          obtain ⟨⟨g1, g2⟩, g3, g4⟩ := wfD_bd (cr := cr) (num := num) (den := den) (t := b) ⟨hcd1, hcd2⟩ ⟨by omega, by omega⟩ (by omega)
          obtain ⟨p1, p2⟩ := wf_prod (a := wfD cr num den (j + 3)) (t := b) ⟨e3, e4⟩ (by omega)
          obtain ⟨q1, q2⟩ := wf_prod (a := wfD cr num den b) (t := j + 3) ⟨g3, g4⟩ (by omega)
          have hu1 : wfD cr num den (j + 3) = ((cr * den - num * ((j + 3 : Nat) : Int)).natAbs : Int) := rfl
          have hu2 : wfD cr num den b = ((cr * den - num * (b : Int)).natAbs : Int) := rfl
          have hc3 : ((j + 3 : Nat) : Int) = ((j + 1 : Nat) : Int) + 2 := by omega
          rw [hu1] at p1 p2
          rw [hu2] at q1 q2
          rw [hc3] at e1 e2 p1 p2 q1 q2
          have hE := Lib.hid hu1
          rw [hc3] at hE
          have hyes : wfD cr num den (j + 3) * b < wfD cr num den b * (((j + 1 : Nat) : Int) + 2) → wfB cr num den (j + 1) = j + 3 := fun h => wfB_yes hb'.out (by rw [← hc3] at h; exact h)
          have hno : ¬ wfD cr num den (j + 3) * b < wfD cr num den b * (((j + 1 : Nat) : Int) + 2) → wfB cr num den (j + 1) = b := fun h => wfB_no hb'.out (by rw [← hc3] at h; exact h)
          rw [hE.out, hu2] at hyes hno
          have HYES := Lib.hid hyes
          have HNO := Lib.hid hno
          have HE := Lib.hid hE.out
          have hz : ((b : Int) == 0) = false := by simp; omega
          clear hyes hno hE hu1 hu2 e3 e4 g3 g4 hv ht hn hd hb hb' hq
          obtain ⟨K, hK⟩ : ∃ K, j + 1 = K := ⟨_, rfl⟩
          rw [hK] at e1 e2 p1 p2 q1 q2 HYES HNO HE ⊢
          have HK := Lib.hid hK
          have hK' : K ≤ 198 := by omega
          have hb3 : b ≤ K + 1 := by omega
          clear hK hc3 b2 hk hlt
          by_cases hxy : ((cr * den - num * ((K : Int) + 2)).natAbs : Int) * (b : Int) < ((cr * den - num * (b : Int)).natAbs : Int) * ((K : Int) + 2)
          · have HQ := Lib.hid (HYES.out hxy)
            have hdx := decide_eq_true hxy
            clear HYES HNO hxy
            go_wp2_with (go_at_call 44; refine (apart_any _ _ _ ⟨by omega, by omega⟩ ⟨by omega, by omega⟩).mono ?_; rintro e w1 ⟨rfl, rfl⟩)
            go_roundw
            case rel => exact ⟨K + 1, K + 2, _, by omega, by go_num, rfl, by go_num, (by have h1 := HQ.out; have h2 := HK.out; subst h2; exact h1), Lib.hid (by rw [if_neg (by omega)]; rfl), hbr⟩
            case measure => simp [intOf]; omega
          · have HQ := Lib.hid (HNO.out hxy)
            have hdx := decide_eq_false hxy
            clear HYES HNO hxy
            go_wp2_with (go_at_call 44; refine (apart_any _ _ _ ⟨by omega, by omega⟩ ⟨by omega, by omega⟩).mono ?_; rintro e w1 ⟨rfl, rfl⟩)
            go_roundw
            case rel => exact ⟨K + 1, b, _, by omega, rfl, rfl, by go_num, (by have h1 := HQ.out; have h2 := HK.out; subst h2; exact h1), Lib.hid (by rw [if_neg (by omega)]; rfl), hbr⟩
            case measure => simp [intOf]; omega
        · have hkk : j = 198 := by omega
          subst hkk
          clear hq hb
          go_wp2
          go_ret2
          refine ⟨by rw [HR.out.1, HR.out.2, hb'.out]; rfl, ?_⟩
          repeat (first | exact Below.refl _ _ | refine bw_drew ?_ | refine bw_drewN ?_ _ | refine bw_set ?_ (by simp; try omega) _ | refine bw_alloc ?_ _ | refine bw_trans ?_ (by assumption) | assumption)
  · have hdd : decide (1000 < den) = true := decide_eq_true (by omega)
    have HR : Hid (wfN cr num den = 0 ∧ wfC cr num den = 2) := ⟨by simp [wfN, wfR, hd], by simp [wfC, wfV, wfR, hv, ht, hn, hd]⟩
    go_enter Try.func17, Try.ntmps17
    go_wp2_with fail
    refine ((validWheelsNil_is ht _)).mono ?_
    rintro e w1 ⟨rfl, hb1⟩
    obtain ⟨hc1, hf1⟩ := bcell hb1
    try (have hz1 : w.heap.size < w1.heap.size := by (have h := hb1.size; (try simp at h); omega))
    try (have hy1 : w.heap.size + 1 < w1.heap.size := by (have h := hb1.size; (try simp at h); omega))
    try (have hx1 : w.heap.size + 1 + 1 < w1.heap.size := by (have h := hb1.size; (try simp at h); omega))
    try (have hv1 : w.heap.size + 1 + 1 + 1 < w1.heap.size := by (have h := hb1.size; (try simp at h); omega))
    try (have hp1 : w.heap.size ≤ w1.heap.size := by omega)
    go_wp2_with fail
    refine ((validFraction_is hv _)).mono ?_
    rintro e w2 ⟨rfl, hb2⟩
    obtain ⟨hc2, hf2⟩ := bcell hb2
    try (have hz2 : w.heap.size < w2.heap.size := by (have h := hb2.size; (try simp at h); omega))
    try (have hy2 : w.heap.size + 1 < w2.heap.size := by (have h := hb2.size; (try simp at h); omega))
    try (have hx2 : w.heap.size + 1 + 1 < w2.heap.size := by (have h := hb2.size; (try simp at h); omega))
    try (have hv2 : w.heap.size + 1 + 1 + 1 < w2.heap.size := by (have h := hb2.size; (try simp at h); omega))
    try (have hp2 : w.heap.size ≤ w2.heap.size := by omega)
    go_wp2_with (go_at_call 35; refine (within_is hn _).mono ?_; rintro e w1 ⟨rfl, rfl⟩)
    go_ret2
    refine ⟨by rw [HR.out.1, HR.out.2]; rfl, ?_⟩
    repeat (first | exact Below.refl _ _ | refine bw_drew ?_ | refine bw_drewN ?_ _ | refine bw_set ?_ (by simp; try omega) _ | refine bw_alloc ?_ _ | refine bw_trans ?_ (by assumption) | assumption)

set_option maxHeartbeats 800000 in
theorem law_WheelFor (cr num den : Int) (w : World) :
    Calls Try.prog 4 #[.int .i64 cr, .agg #[.int .i64 num, .int .i64 den]] w fun e w' => e = .returned (.bool true) ∧ Below w.heap.size w w' := by
  go_enter Try.func4, Try.ntmps4
  go_wp2_with fail
  refine ((toFraction_any _ _ _)).mono ?_
  rintro e w1 ⟨rfl, hb1⟩
  obtain ⟨hc1, hf1⟩ := bcell hb1
  try (have hz1 : w.heap.size < w1.heap.size := by (have h := hb1.size; (try simp at h); omega))
  try (have hy1 : w.heap.size + 1 < w1.heap.size := by (have h := hb1.size; (try simp at h); omega))
  try (have hx1 : w.heap.size + 1 + 1 < w1.heap.size := by (have h := hb1.size; (try simp at h); omega))
  try (have hv1 : w.heap.size + 1 + 1 + 1 < w1.heap.size := by (have h := hb1.size; (try simp at h); omega))
  try (have hp1 : w.heap.size ≤ w1.heap.size := by omega)
  go_wp2_with fail
  refine ((sWheelFor_any _ _ _ _)).mono ?_
  rintro e w2 ⟨rfl, hb2⟩
  obtain ⟨hc2, hf2⟩ := bcell hb2
  try (have hz2 : w.heap.size < w2.heap.size := by (have h := hb2.size; (try simp at h); omega))
  try (have hy2 : w.heap.size + 1 < w2.heap.size := by (have h := hb2.size; (try simp at h); omega))
  try (have hx2 : w.heap.size + 1 + 1 < w2.heap.size := by (have h := hb2.size; (try simp at h); omega))
  try (have hv2 : w.heap.size + 1 + 1 + 1 < w2.heap.size := by (have h := hb2.size; (try simp at h); omega))
  try (have hp2 : w.heap.size ≤ w2.heap.size := by omega)
  go_wp2_with fail
  refine ((toFraction_any _ _ _)).mono ?_
  rintro e w3 ⟨rfl, hb3⟩
  obtain ⟨hc3, hf3⟩ := bcell hb3
  try (have hz3 : w.heap.size < w3.heap.size := by (have h := hb3.size; (try simp at h); omega))
  try (have hy3 : w.heap.size + 1 < w3.heap.size := by (have h := hb3.size; (try simp at h); omega))
  try (have hx3 : w.heap.size + 1 + 1 < w3.heap.size := by (have h := hb3.size; (try simp at h); omega))
  try (have hv3 : w.heap.size + 1 + 1 + 1 < w3.heap.size := by (have h := hb3.size; (try simp at h); omega))
  try (have hp3 : w.heap.size ≤ w3.heap.size := by omega)
  go_wp2_with fail
  refine ((iWheelFor_any _ _ _ _)).mono ?_
  rintro e w4 ⟨rfl, hb4⟩
  obtain ⟨hc4, hf4⟩ := bcell hb4
  try (have hz4 : w.heap.size < w4.heap.size := by (have h := hb4.size; (try simp at h); omega))
  try (have hy4 : w.heap.size + 1 < w4.heap.size := by (have h := hb4.size; (try simp at h); omega))
  try (have hx4 : w.heap.size + 1 + 1 < w4.heap.size := by (have h := hb4.size; (try simp at h); omega))
  try (have hv4 : w.heap.size + 1 + 1 + 1 < w4.heap.size := by (have h := hb4.size; (try simp at h); omega))
  try (have hp4 : w.heap.size ≤ w4.heap.size := by omega)
  go_wp2
  go_ret
  refine ⟨rfl, ?_⟩
  repeat (first | exact Below.refl _ _ | refine bw_drew ?_ | refine bw_drewN ?_ _ | refine bw_set ?_ (by simp; try omega) _ | refine bw_alloc ?_ _ | refine bw_trans ?_ (by assumption) | assumption)
end Go.Proofs.Ytjgigmlhnnkjiaa
