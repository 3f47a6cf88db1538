/-
  Light: areas, brightness, corners, distances: in the program and in the reference.
-/
import Derived.Test.YtiplokbcojdcdaaFrac
namespace Go.Proofs.Ytiplokbcojdcdaa
open Go.RowKit

theorem validFraction_is {n d : Int} {b : Bool} (h : vFrac n d = b) (w : World) :
    Calls Try.prog 61 #[.agg #[.int .i64 n, .int .i64 d]] w fun e w' => e = .returned (.bool b) ∧ Below w.heap.size w w' := by
  subst h; exact validFraction_any n d w
theorem l02Ok_is {n d : Int} {b : Bool} (h : vFrac n d = b) (w : World) :
    Calls Try.prog 59 #[.agg #[.int .i64 n, .int .i64 d]] w fun e w' => e = .returned (.bool b) ∧ Below w.heap.size w w' := by
  subst h; exact l02Ok_any n d w
theorem mul_bd1 {a b A B : Int} (h1 : 1 ≤ a) (h2 : a ≤ A) (h3 : 1 ≤ b) (h4 : b ≤ B) : 1 ≤ a * b ∧ a * b ≤ A * B := by
  have h5 : 1 * 1 ≤ a * b := Int.mul_le_mul h1 h3 (by omega) (by omega)
  exact ⟨by omega, Int.mul_le_mul h2 h4 (by omega) (by omega)⟩
theorem mul_bd {a b A B : Int} (h1 : 0 ≤ a) (h2 : a ≤ A) (h3 : 0 ≤ b) (h4 : b ≤ B) : 0 ≤ a * b ∧ a * b ≤ A * B :=
  ⟨Int.mul_nonneg h1 h3, Int.mul_le_mul h2 h4 h3 (by omega)⟩

def isSi (n : Int) : Bool := inB n 1 1000
def isLu (n : Int) : Bool := inB n 0 100000
def isKa (n : Int) : Bool := inB n 0 1000
theorem isSi_true {n : Int} : isSi n = true ↔ 1 ≤ n ∧ n ≤ 1000 := inB_true
theorem isLu_true {n : Int} : isLu n = true ↔ 0 ≤ n ∧ n ≤ 100000 := inB_true
theorem isKa_true {n : Int} : isKa n = true ↔ 0 ≤ n ∧ n ≤ 1000 := inB_true
theorem isSide_is {n : Int} {b : Bool} (h : isSi n = b) (w : World) :
    Calls Try.prog 45 #[.int .i64 n] w fun e w' => e = .returned (.bool b) ∧ w = w' := by
  have h' : inB n 1 1000 = b := h
  go_enter Try.func45, Try.ntmps45
  go_wp2_with (go_at_call 48; refine (within_is (by assumption) _).mono ?_; rintro e w1 ⟨rfl, rfl⟩)
  go_ret
  exact ⟨rfl, rfl⟩
theorem l12Side_is {n : Int} {b : Bool} (h : isSi n = b) (w : World) :
    Calls Try.prog 44 #[.int .i64 n] w fun e w' => e = .returned (.bool b) ∧ w = w' := by
  have h' : inB n 1 1000 = b := h
  go_enter Try.func44, Try.ntmps44
  go_wp2_with (go_at_call 46; refine (l00In_is (by assumption) _).mono ?_; rintro e w1 ⟨rfl, rfl⟩)
  go_ret
  exact ⟨rfl, rfl⟩
theorem l12Far_is {n : Int} {b : Bool} (h : isSi n = b) (w : World) :
    Calls Try.prog 50 #[.int .i64 n] w fun e w' => e = .returned (.bool b) ∧ w = w' := by
  have h' : inB n 1 1000 = b := h
  go_enter Try.func50, Try.ntmps50
  go_wp2_with (go_at_call 46; refine (l00In_is (by assumption) _).mono ?_; rintro e w1 ⟨rfl, rfl⟩)
  go_ret
  exact ⟨rfl, rfl⟩

def saN (a b : Int) : Int := if isSi a && isSi b then a * b else 0
def saC (a b : Int) : Int := if isSi a && isSi b then 0 else 2
def boT (l x y : Int) : Int × Int × Int := if isLu l && isSi x && isSi y then (lowNum l (x * y), lowDen l (x * y), 0) else (0, 0, 2)
def clT (t h : Int) : Int × Int × Int := if isSi t && isKa h then (lowNum (t * t * (t * t)) ((t * t + h * h) * (t * t + h * h)), lowDen (t * t * (t * t)) ((t * t + h * h) * (t * t + h * h)), 0) else (0, 0, 2)
def isBr (n d : Int) : Bool := inB n 0 100000 && decide (d ≤ 100000)
theorem isBr_true {n d : Int} : isBr n d = true ↔ (0 ≤ n ∧ n ≤ 100000) ∧ d ≤ 100000 := by simp [isBr, inB_true]
theorem isBr_cases (n d : Int) : inB n 0 100000 = false ∨ (inB n 0 100000 = true ∧ decide (d ≤ 100000) = false) ∨ (inB n 0 100000 = true ∧ decide (d ≤ 100000) = true) := by
  cases inB n 0 100000 <;> cases decide (d ≤ 100000) <;> simp
def baT (n d p q : Int) : Int × Int × Int := if vFrac n d then (if isBr n d && isSi p && isSi q then (lowNum (n * p * p) (d * q * q), lowDen (n * p * p) (d * q * q), 0) else (0, 0, 2)) else (0, 0, 1)

theorem low_scale {n d k : Int} (hk : 0 < k) : lowNum (n * k) (d * k) = lowNum n d ∧ lowDen (n * k) (d * k) = lowDen n d := by
  have h : gcdI (n * k) (d * k) = gcdI n d * k := by
    unfold gcdI
    rw [Int.gcd_mul_right]
    have : (k.natAbs : Int) = k := by omega
    simp [this]
  unfold lowNum lowDen
  rw [h]
  exact ⟨Int.mul_tdiv_mul_of_pos_left _ _ hk, Int.mul_tdiv_mul_of_pos_left _ _ hk⟩
theorem low_square {n d : Int} (hd : 0 < d) : lowNum (lowNum n d * lowNum n d) (lowDen n d * lowDen n d) = lowNum (n * n) (d * d) ∧ lowDen (lowNum n d * lowNum n d) (lowDen n d * lowDen n d) = lowDen (n * n) (d * d) := by
  have hg := gcdI_pos (a := n) hd
  have hn := @lowNum_mul n d
  have hd' := @lowDen_mul n d
  have hgg : 0 < gcdI n d * gcdI n d := Int.mul_pos (by omega) (by omega)
  have e1 : n * n = lowNum n d * lowNum n d * (gcdI n d * gcdI n d) := by
    conv => lhs; rw [← hn]
    simp only [Int.mul_assoc, Int.mul_comm, Int.mul_left_comm]
  have e2 : d * d = lowDen n d * lowDen n d * (gcdI n d * gcdI n d) := by
    conv => lhs; rw [← hd']
    simp only [Int.mul_assoc, Int.mul_comm, Int.mul_left_comm]
  have := low_scale (n := lowNum n d * lowNum n d) (d := lowDen n d * lowDen n d) hgg
  rw [← e1, ← e2] at this
  exact ⟨this.1.symm, this.2.symm⟩

theorem screenArea_any (a b : Int) (w : World) :
    Calls Try.prog 17 #[.int .i64 a, .int .i64 b] w fun e w' => e = .returned (.tuple #[.int .i64 (saN a b), .int .i64 (saC a b)]) ∧ Below w.heap.size w w' := by
  cases h1 : isSi a
  · go_enter Try.func17, Try.ntmps17
    go_wp2_with (go_at_call 45; refine (isSide_is (by assumption) _).mono ?_; rintro e w1 ⟨rfl, rfl⟩)
    go_ret2
    exact ⟨by simp [saN, saC, h1], Below.refl _ _⟩
  cases h2 : isSi b
  · go_enter Try.func17, Try.ntmps17
    go_wp2_with (go_at_call 45; refine (isSide_is (by assumption) _).mono ?_; rintro e w1 ⟨rfl, rfl⟩)
    go_ret2
    exact ⟨by simp [saN, saC, h1, h2], Below.refl _ _⟩
  obtain ⟨a1, a2⟩ := isSi_true.1 h1
  obtain ⟨b1, b2⟩ := isSi_true.1 h2
  obtain ⟨p1, p2⟩ := mul_bd1 a1 a2 b1 b2
  go_enter Try.func17, Try.ntmps17
  go_wp2_with (go_at_call 45; refine (isSide_is (by assumption) _).mono ?_; rintro e w1 ⟨rfl, rfl⟩)
  go_ret2
  exact ⟨by simp [saN, saC, h1, h2], Below.refl _ _⟩

theorem sScreenArea_any (a b : Int) (w : World) :
    Calls Try.prog 16 #[.int .i64 a, .int .i64 b] w fun e w' => e = .returned (.tuple #[.int .i64 (saN a b), .int .i64 (saC a b)]) ∧ Below w.heap.size w w' := by
  cases h1 : isSi a
  · go_enter Try.func16, Try.ntmps16
    go_wp2_with (go_at_call 44; refine (l12Side_is (by assumption) _).mono ?_; rintro e w1 ⟨rfl, rfl⟩)
    go_ret2
    exact ⟨by simp [saN, saC, h1], Below.refl _ _⟩
  cases h2 : isSi b
  · go_enter Try.func16, Try.ntmps16
    go_wp2_with (go_at_call 44; refine (l12Side_is (by assumption) _).mono ?_; rintro e w1 ⟨rfl, rfl⟩)
    go_ret2
    exact ⟨by simp [saN, saC, h1, h2], Below.refl _ _⟩
  obtain ⟨a1, a2⟩ := isSi_true.1 h1
  obtain ⟨b1, b2⟩ := isSi_true.1 h2
  obtain ⟨p1, p2⟩ := mul_bd1 a1 a2 b1 b2
  go_enter Try.func16, Try.ntmps16
  go_wp2_with (go_at_call 44; refine (l12Side_is (by assumption) _).mono ?_; rintro e w1 ⟨rfl, rfl⟩)
  go_ret2
  exact ⟨by simp [saN, saC, h1, h2], Below.refl _ _⟩

set_option maxHeartbeats 400000 in
theorem law_ScreenArea (a b : Int) (w : World) :
    Calls Try.prog 3 #[.int .i64 a, .int .i64 b] w fun e w' => e = .returned (.bool true) ∧ Below w.heap.size w w' := by
  go_enter Try.func3, Try.ntmps3
  go_wp2_with fail
  refine ((sScreenArea_any _ _ _)).mono ?_
  rintro e w1 ⟨rfl, hb1⟩
  obtain ⟨hc1, hf1⟩ := bcell hb1
  try (have hz1 : w.heap.size < w1.heap.size := by (have h := hb1.size; (try simp at h); omega))
  try (have hy1 : w.heap.size + 1 < w1.heap.size := by (have h := hb1.size; (try simp at h); omega))
  try (have hx1 : w.heap.size + 1 + 1 < w1.heap.size := by (have h := hb1.size; (try simp at h); omega))
  try (have hv1 : w.heap.size + 1 + 1 + 1 < w1.heap.size := by (have h := hb1.size; (try simp at h); omega))
  try (have hp1 : w.heap.size ≤ w1.heap.size := by omega)
  go_wp2_with fail
  refine ((screenArea_any _ _ _)).mono ?_
  rintro e w2 ⟨rfl, hb2⟩
  obtain ⟨hc2, hf2⟩ := bcell hb2
  try (have hz2 : w.heap.size < w2.heap.size := by (have h := hb2.size; (try simp at h); omega))
  try (have hy2 : w.heap.size + 1 < w2.heap.size := by (have h := hb2.size; (try simp at h); omega))
  try (have hx2 : w.heap.size + 1 + 1 < w2.heap.size := by (have h := hb2.size; (try simp at h); omega))
  try (have hv2 : w.heap.size + 1 + 1 + 1 < w2.heap.size := by (have h := hb2.size; (try simp at h); omega))
  try (have hp2 : w.heap.size ≤ w2.heap.size := by omega)
  go_wp2
  go_ret
  refine ⟨rfl, ?_⟩
  repeat (first | exact Below.refl _ _ | refine bw_drew ?_ | refine bw_drewN ?_ _ | refine bw_set ?_ (by simp; try omega) _ | refine bw_alloc ?_ _ | refine bw_trans ?_ (by assumption) | assumption)

set_option maxHeartbeats 400000 in
theorem brightnessOf_any (l x y : Int) (w : World) :
    Calls Try.prog 19 #[.int .i64 l, .int .i64 x, .int .i64 y] w fun e w' => e = .returned (.tuple #[.agg #[.int .i64 (boT l x y).1, .int .i64 (boT l x y).2.1], .int .i64 (boT l x y).2.2]) ∧ Below w.heap.size w w' := by
  cases h1 : isSi x
  · go_enter Try.func19, Try.ntmps19
    go_wp2_with (first | (go_at_call 45; refine (isSide_is (by assumption) _).mono ?_; rintro e w1 ⟨rfl, rfl⟩) | (go_at_call 48; refine (within_is (show inB _ _ _ = _ by first | exact (h1 : isLu _ = _) | exact (h3 : isLu _ = _) | exact (h2 : isKa _ = _)) _).mono ?_; rintro e w1 ⟨rfl, rfl⟩) | (go_at_call 49; refine (lowest_any _ _ _ ⟨by omega, by omega⟩ ⟨by omega, by omega⟩).mono ?_; rintro e w1 ⟨rfl, hb1⟩; obtain ⟨hc1, hf1⟩ := bcell hb1; try (have hz1 : w.heap.size < w1.heap.size := by (have h := hb1.size; (try simp at h); omega)); try (have hy1 : w.heap.size + 1 < w1.heap.size := by (have h := hb1.size; (try simp at h); omega)); try (have hx1 : w.heap.size + 1 + 1 < w1.heap.size := by (have h := hb1.size; (try simp at h); omega)); try (have hv1 : w.heap.size + 1 + 1 + 1 < w1.heap.size := by (have h := hb1.size; (try simp at h); omega)); try (have hp1 : w.heap.size ≤ w1.heap.size := by omega)))
    refine bodyPost_ret (v := .tuple #[.agg #[.int .i64 (0), .int .i64 (0)], .int .i64 (2)]) (by simp [results, Try.results19, go_sem, *]) rfl ⟨by simp [boT, h1], ?_⟩
    repeat (first | exact Below.refl _ _ | refine bw_drew ?_ | refine bw_drewN ?_ _ | refine bw_set ?_ (by simp; try omega) _ | refine bw_alloc ?_ _ | refine bw_trans ?_ (by assumption) | assumption)
  obtain ⟨x1, x2⟩ := isSi_true.1 h1
  cases h2 : isSi y
  · go_enter Try.func19, Try.ntmps19
    go_wp2_with (first | (go_at_call 45; refine (isSide_is (by assumption) _).mono ?_; rintro e w1 ⟨rfl, rfl⟩) | (go_at_call 48; refine (within_is (show inB _ _ _ = _ by first | exact (h1 : isLu _ = _) | exact (h3 : isLu _ = _) | exact (h2 : isKa _ = _)) _).mono ?_; rintro e w1 ⟨rfl, rfl⟩) | (go_at_call 49; refine (lowest_any _ _ _ ⟨by omega, by omega⟩ ⟨by omega, by omega⟩).mono ?_; rintro e w1 ⟨rfl, hb1⟩; obtain ⟨hc1, hf1⟩ := bcell hb1; try (have hz1 : w.heap.size < w1.heap.size := by (have h := hb1.size; (try simp at h); omega)); try (have hy1 : w.heap.size + 1 < w1.heap.size := by (have h := hb1.size; (try simp at h); omega)); try (have hx1 : w.heap.size + 1 + 1 < w1.heap.size := by (have h := hb1.size; (try simp at h); omega)); try (have hv1 : w.heap.size + 1 + 1 + 1 < w1.heap.size := by (have h := hb1.size; (try simp at h); omega)); try (have hp1 : w.heap.size ≤ w1.heap.size := by omega)))
    refine bodyPost_ret (v := .tuple #[.agg #[.int .i64 (0), .int .i64 (0)], .int .i64 (2)]) (by simp [results, Try.results19, go_sem, *]) rfl ⟨by simp [boT, h1, h2], ?_⟩
    repeat (first | exact Below.refl _ _ | refine bw_drew ?_ | refine bw_drewN ?_ _ | refine bw_set ?_ (by simp; try omega) _ | refine bw_alloc ?_ _ | refine bw_trans ?_ (by assumption) | assumption)
  obtain ⟨y1, y2⟩ := isSi_true.1 h2
  cases h3 : isLu l
  · go_enter Try.func19, Try.ntmps19
    go_wp2_with (first | (go_at_call 45; refine (isSide_is (by assumption) _).mono ?_; rintro e w1 ⟨rfl, rfl⟩) | (go_at_call 48; refine (within_is (show inB _ _ _ = _ by first | exact (h1 : isLu _ = _) | exact (h3 : isLu _ = _) | exact (h2 : isKa _ = _)) _).mono ?_; rintro e w1 ⟨rfl, rfl⟩) | (go_at_call 49; refine (lowest_any _ _ _ ⟨by omega, by omega⟩ ⟨by omega, by omega⟩).mono ?_; rintro e w1 ⟨rfl, hb1⟩; obtain ⟨hc1, hf1⟩ := bcell hb1; try (have hz1 : w.heap.size < w1.heap.size := by (have h := hb1.size; (try simp at h); omega)); try (have hy1 : w.heap.size + 1 < w1.heap.size := by (have h := hb1.size; (try simp at h); omega)); try (have hx1 : w.heap.size + 1 + 1 < w1.heap.size := by (have h := hb1.size; (try simp at h); omega)); try (have hv1 : w.heap.size + 1 + 1 + 1 < w1.heap.size := by (have h := hb1.size; (try simp at h); omega)); try (have hp1 : w.heap.size ≤ w1.heap.size := by omega)))
    refine bodyPost_ret (v := .tuple #[.agg #[.int .i64 (0), .int .i64 (0)], .int .i64 (2)]) (by simp [results, Try.results19, go_sem, *]) rfl ⟨by simp [boT, h1, h2, h3], ?_⟩
    repeat (first | exact Below.refl _ _ | refine bw_drew ?_ | refine bw_drewN ?_ _ | refine bw_set ?_ (by simp; try omega) _ | refine bw_alloc ?_ _ | refine bw_trans ?_ (by assumption) | assumption)
  obtain ⟨l1, l2⟩ := isLu_true.1 h3
  obtain ⟨pm1, pm2⟩ := mul_bd1 x1 x2 y1 y2
  go_enter Try.func19, Try.ntmps19
  go_wp2_with (first | (go_at_call 45; refine (isSide_is (by assumption) _).mono ?_; rintro e w1 ⟨rfl, rfl⟩) | (go_at_call 48; refine (within_is (show inB _ _ _ = _ by first | exact (h1 : isLu _ = _) | exact (h3 : isLu _ = _) | exact (h2 : isKa _ = _)) _).mono ?_; rintro e w1 ⟨rfl, rfl⟩) | (go_at_call 49; refine (lowest_any _ _ _ ⟨by omega, by omega⟩ ⟨by omega, by omega⟩).mono ?_; rintro e w1 ⟨rfl, hb1⟩; obtain ⟨hc1, hf1⟩ := bcell hb1; try (have hz1 : w.heap.size < w1.heap.size := by (have h := hb1.size; (try simp at h); omega)); try (have hy1 : w.heap.size + 1 < w1.heap.size := by (have h := hb1.size; (try simp at h); omega)); try (have hx1 : w.heap.size + 1 + 1 < w1.heap.size := by (have h := hb1.size; (try simp at h); omega)); try (have hv1 : w.heap.size + 1 + 1 + 1 < w1.heap.size := by (have h := hb1.size; (try simp at h); omega)); try (have hp1 : w.heap.size ≤ w1.heap.size := by omega)))
  refine bodyPost_ret (v := .tuple #[.agg #[.int .i64 (lowNum l (x * y)), .int .i64 (lowDen l (x * y))], .int .i64 (0)]) (by simp [results, Try.results19, go_sem, *]) rfl ⟨by simp [boT, h1, h2, h3], ?_⟩
  repeat (first | exact Below.refl _ _ | refine bw_drew ?_ | refine bw_drewN ?_ _ | refine bw_set ?_ (by simp; try omega) _ | refine bw_alloc ?_ _ | refine bw_trans ?_ (by assumption) | assumption)

set_option maxHeartbeats 400000 in
theorem sBrightnessOf_any (l x y : Int) (w : World) :
    Calls Try.prog 18 #[.int .i64 l, .int .i64 x, .int .i64 y] w fun e w' => e = .returned (.tuple #[.agg #[.int .i64 (boT l x y).1, .int .i64 (boT l x y).2.1], .int .i64 (boT l x y).2.2]) ∧ Below w.heap.size w w' := by
  cases h1 : isLu l
  · go_enter Try.func18, Try.ntmps18
    go_wp2_with (first | (go_at_call 44; refine (l12Side_is (by assumption) _).mono ?_; rintro e w1 ⟨rfl, rfl⟩) | (go_at_call 46; refine (l00In_is (show inB _ _ _ = _ by first | exact (h1 : isLu _ = _) | exact (h3 : isLu _ = _) | exact (h2 : isKa _ = _)) _).mono ?_; rintro e w1 ⟨rfl, rfl⟩) | (go_at_call 47; refine (l02Make_any _ _ _ ⟨by omega, by omega⟩ ⟨by omega, by omega⟩).mono ?_; rintro e w1 ⟨rfl, hb1⟩; obtain ⟨hc1, hf1⟩ := bcell hb1; try (have hz1 : w.heap.size < w1.heap.size := by (have h := hb1.size; (try simp at h); omega)); try (have hy1 : w.heap.size + 1 < w1.heap.size := by (have h := hb1.size; (try simp at h); omega)); try (have hx1 : w.heap.size + 1 + 1 < w1.heap.size := by (have h := hb1.size; (try simp at h); omega)); try (have hv1 : w.heap.size + 1 + 1 + 1 < w1.heap.size := by (have h := hb1.size; (try simp at h); omega)); try (have hp1 : w.heap.size ≤ w1.heap.size := by omega)))
    refine bodyPost_ret (v := .tuple #[.agg #[.int .i64 (0), .int .i64 (0)], .int .i64 (2)]) (by simp [results, Try.results18, go_sem, *]) rfl ⟨by simp [boT, h1], ?_⟩
    repeat (first | exact Below.refl _ _ | refine bw_drew ?_ | refine bw_drewN ?_ _ | refine bw_set ?_ (by simp; try omega) _ | refine bw_alloc ?_ _ | refine bw_trans ?_ (by assumption) | assumption)
  obtain ⟨l1, l2⟩ := isLu_true.1 h1
  cases h2 : isSi x
  · go_enter Try.func18, Try.ntmps18
    go_wp2_with (first | (go_at_call 44; refine (l12Side_is (by assumption) _).mono ?_; rintro e w1 ⟨rfl, rfl⟩) | (go_at_call 46; refine (l00In_is (show inB _ _ _ = _ by first | exact (h1 : isLu _ = _) | exact (h3 : isLu _ = _) | exact (h2 : isKa _ = _)) _).mono ?_; rintro e w1 ⟨rfl, rfl⟩) | (go_at_call 47; refine (l02Make_any _ _ _ ⟨by omega, by omega⟩ ⟨by omega, by omega⟩).mono ?_; rintro e w1 ⟨rfl, hb1⟩; obtain ⟨hc1, hf1⟩ := bcell hb1; try (have hz1 : w.heap.size < w1.heap.size := by (have h := hb1.size; (try simp at h); omega)); try (have hy1 : w.heap.size + 1 < w1.heap.size := by (have h := hb1.size; (try simp at h); omega)); try (have hx1 : w.heap.size + 1 + 1 < w1.heap.size := by (have h := hb1.size; (try simp at h); omega)); try (have hv1 : w.heap.size + 1 + 1 + 1 < w1.heap.size := by (have h := hb1.size; (try simp at h); omega)); try (have hp1 : w.heap.size ≤ w1.heap.size := by omega)))
    refine bodyPost_ret (v := .tuple #[.agg #[.int .i64 (0), .int .i64 (0)], .int .i64 (2)]) (by simp [results, Try.results18, go_sem, *]) rfl ⟨by simp [boT, h1, h2], ?_⟩
    repeat (first | exact Below.refl _ _ | refine bw_drew ?_ | refine bw_drewN ?_ _ | refine bw_set ?_ (by simp; try omega) _ | refine bw_alloc ?_ _ | refine bw_trans ?_ (by assumption) | assumption)
  obtain ⟨x1, x2⟩ := isSi_true.1 h2
  cases h3 : isSi y
  · go_enter Try.func18, Try.ntmps18
    go_wp2_with (first | (go_at_call 44; refine (l12Side_is (by assumption) _).mono ?_; rintro e w1 ⟨rfl, rfl⟩) | (go_at_call 46; refine (l00In_is (show inB _ _ _ = _ by first | exact (h1 : isLu _ = _) | exact (h3 : isLu _ = _) | exact (h2 : isKa _ = _)) _).mono ?_; rintro e w1 ⟨rfl, rfl⟩) | (go_at_call 47; refine (l02Make_any _ _ _ ⟨by omega, by omega⟩ ⟨by omega, by omega⟩).mono ?_; rintro e w1 ⟨rfl, hb1⟩; obtain ⟨hc1, hf1⟩ := bcell hb1; try (have hz1 : w.heap.size < w1.heap.size := by (have h := hb1.size; (try simp at h); omega)); try (have hy1 : w.heap.size + 1 < w1.heap.size := by (have h := hb1.size; (try simp at h); omega)); try (have hx1 : w.heap.size + 1 + 1 < w1.heap.size := by (have h := hb1.size; (try simp at h); omega)); try (have hv1 : w.heap.size + 1 + 1 + 1 < w1.heap.size := by (have h := hb1.size; (try simp at h); omega)); try (have hp1 : w.heap.size ≤ w1.heap.size := by omega)))
    refine bodyPost_ret (v := .tuple #[.agg #[.int .i64 (0), .int .i64 (0)], .int .i64 (2)]) (by simp [results, Try.results18, go_sem, *]) rfl ⟨by simp [boT, h1, h2, h3], ?_⟩
    repeat (first | exact Below.refl _ _ | refine bw_drew ?_ | refine bw_drewN ?_ _ | refine bw_set ?_ (by simp; try omega) _ | refine bw_alloc ?_ _ | refine bw_trans ?_ (by assumption) | assumption)
  obtain ⟨y1, y2⟩ := isSi_true.1 h3
  obtain ⟨pm1, pm2⟩ := mul_bd1 x1 x2 y1 y2
  go_enter Try.func18, Try.ntmps18
  go_wp2_with (first | (go_at_call 44; refine (l12Side_is (by assumption) _).mono ?_; rintro e w1 ⟨rfl, rfl⟩) | (go_at_call 46; refine (l00In_is (show inB _ _ _ = _ by first | exact (h1 : isLu _ = _) | exact (h3 : isLu _ = _) | exact (h2 : isKa _ = _)) _).mono ?_; rintro e w1 ⟨rfl, rfl⟩) | (go_at_call 47; refine (l02Make_any _ _ _ ⟨by omega, by omega⟩ ⟨by omega, by omega⟩).mono ?_; rintro e w1 ⟨rfl, hb1⟩; obtain ⟨hc1, hf1⟩ := bcell hb1; try (have hz1 : w.heap.size < w1.heap.size := by (have h := hb1.size; (try simp at h); omega)); try (have hy1 : w.heap.size + 1 < w1.heap.size := by (have h := hb1.size; (try simp at h); omega)); try (have hx1 : w.heap.size + 1 + 1 < w1.heap.size := by (have h := hb1.size; (try simp at h); omega)); try (have hv1 : w.heap.size + 1 + 1 + 1 < w1.heap.size := by (have h := hb1.size; (try simp at h); omega)); try (have hp1 : w.heap.size ≤ w1.heap.size := by omega)))
  refine bodyPost_ret (v := .tuple #[.agg #[.int .i64 (lowNum l (x * y)), .int .i64 (lowDen l (x * y))], .int .i64 (0)]) (by simp [results, Try.results18, go_sem, *]) rfl ⟨by simp [boT, h1, h2, h3], ?_⟩
  repeat (first | exact Below.refl _ _ | refine bw_drew ?_ | refine bw_drewN ?_ _ | refine bw_set ?_ (by simp; try omega) _ | refine bw_alloc ?_ _ | refine bw_trans ?_ (by assumption) | assumption)

set_option maxHeartbeats 400000 in
theorem sCornerLight_any (t h : Int) (w : World) :
    Calls Try.prog 21 #[.int .i64 t, .int .i64 h] w fun e w' => e = .returned (.tuple #[.agg #[.int .i64 (clT t h).1, .int .i64 (clT t h).2.1], .int .i64 (clT t h).2.2]) ∧ Below w.heap.size w w' := by
  cases h1 : isSi t
  · go_enter Try.func21, Try.ntmps21
    go_wp2_with (first | (go_at_call 50; refine (l12Far_is (by assumption) _).mono ?_; rintro e w1 ⟨rfl, rfl⟩) | (go_at_call 46; refine (l00In_is (show inB _ _ _ = _ by first | exact (h1 : isLu _ = _) | exact (h3 : isLu _ = _) | exact (h2 : isKa _ = _)) _).mono ?_; rintro e w1 ⟨rfl, rfl⟩) | (go_at_call 47; refine (l02Make_any _ _ _ ⟨by omega, by omega⟩ ⟨by omega, by omega⟩).mono ?_; rintro e w1 ⟨rfl, hb1⟩; obtain ⟨hc1, hf1⟩ := bcell hb1; try (have hz1 : w.heap.size < w1.heap.size := by (have h := hb1.size; (try simp at h); omega)); try (have hy1 : w.heap.size + 1 < w1.heap.size := by (have h := hb1.size; (try simp at h); omega)); try (have hx1 : w.heap.size + 1 + 1 < w1.heap.size := by (have h := hb1.size; (try simp at h); omega)); try (have hv1 : w.heap.size + 1 + 1 + 1 < w1.heap.size := by (have h := hb1.size; (try simp at h); omega)); try (have hp1 : w.heap.size ≤ w1.heap.size := by omega)))
    refine bodyPost_ret (v := .tuple #[.agg #[.int .i64 (0), .int .i64 (0)], .int .i64 (2)]) (by simp [results, Try.results21, go_sem, *]) rfl ⟨by simp [clT, h1], ?_⟩
    repeat (first | exact Below.refl _ _ | refine bw_drew ?_ | refine bw_drewN ?_ _ | refine bw_set ?_ (by simp; try omega) _ | refine bw_alloc ?_ _ | refine bw_trans ?_ (by assumption) | assumption)
  obtain ⟨t1, t2⟩ := isSi_true.1 h1
  cases h2 : isKa h
  · go_enter Try.func21, Try.ntmps21
    go_wp2_with (first | (go_at_call 50; refine (l12Far_is (by assumption) _).mono ?_; rintro e w1 ⟨rfl, rfl⟩) | (go_at_call 46; refine (l00In_is (show inB _ _ _ = _ by first | exact (h1 : isLu _ = _) | exact (h3 : isLu _ = _) | exact (h2 : isKa _ = _)) _).mono ?_; rintro e w1 ⟨rfl, rfl⟩) | (go_at_call 47; refine (l02Make_any _ _ _ ⟨by omega, by omega⟩ ⟨by omega, by omega⟩).mono ?_; rintro e w1 ⟨rfl, hb1⟩; obtain ⟨hc1, hf1⟩ := bcell hb1; try (have hz1 : w.heap.size < w1.heap.size := by (have h := hb1.size; (try simp at h); omega)); try (have hy1 : w.heap.size + 1 < w1.heap.size := by (have h := hb1.size; (try simp at h); omega)); try (have hx1 : w.heap.size + 1 + 1 < w1.heap.size := by (have h := hb1.size; (try simp at h); omega)); try (have hv1 : w.heap.size + 1 + 1 + 1 < w1.heap.size := by (have h := hb1.size; (try simp at h); omega)); try (have hp1 : w.heap.size ≤ w1.heap.size := by omega)))
    refine bodyPost_ret (v := .tuple #[.agg #[.int .i64 (0), .int .i64 (0)], .int .i64 (2)]) (by simp [results, Try.results21, go_sem, *]) rfl ⟨by simp [clT, h1, h2], ?_⟩
    repeat (first | exact Below.refl _ _ | refine bw_drew ?_ | refine bw_drewN ?_ _ | refine bw_set ?_ (by simp; try omega) _ | refine bw_alloc ?_ _ | refine bw_trans ?_ (by assumption) | assumption)
  obtain ⟨h_1, h_2⟩ := isKa_true.1 h2
  obtain ⟨tt1, tt2⟩ := mul_bd1 t1 t2 t1 t2
  obtain ⟨hh1, hh2⟩ := mul_bd h_1 h_2 h_1 h_2
  obtain ⟨nn1, nn2⟩ := mul_bd1 tt1 tt2 tt1 tt2
  obtain ⟨dd1, dd2⟩ := mul_bd1 (a := t * t + h * h) (b := t * t + h * h) (A := 2000000) (B := 2000000) (by omega) (by omega) (by omega) (by omega)
  go_enter Try.func21, Try.ntmps21
  go_wp2_with (first | (go_at_call 50; refine (l12Far_is (by assumption) _).mono ?_; rintro e w1 ⟨rfl, rfl⟩) | (go_at_call 46; refine (l00In_is (show inB _ _ _ = _ by first | exact (h1 : isLu _ = _) | exact (h3 : isLu _ = _) | exact (h2 : isKa _ = _)) _).mono ?_; rintro e w1 ⟨rfl, rfl⟩) | (go_at_call 47; refine (l02Make_any _ _ _ ⟨by omega, by omega⟩ ⟨by omega, by omega⟩).mono ?_; rintro e w1 ⟨rfl, hb1⟩; obtain ⟨hc1, hf1⟩ := bcell hb1; try (have hz1 : w.heap.size < w1.heap.size := by (have h := hb1.size; (try simp at h); omega)); try (have hy1 : w.heap.size + 1 < w1.heap.size := by (have h := hb1.size; (try simp at h); omega)); try (have hx1 : w.heap.size + 1 + 1 < w1.heap.size := by (have h := hb1.size; (try simp at h); omega)); try (have hv1 : w.heap.size + 1 + 1 + 1 < w1.heap.size := by (have h := hb1.size; (try simp at h); omega)); try (have hp1 : w.heap.size ≤ w1.heap.size := by omega)))
  refine bodyPost_ret (v := .tuple #[.agg #[.int .i64 (lowNum (t * t * (t * t)) ((t * t + h * h) * (t * t + h * h))), .int .i64 (lowDen (t * t * (t * t)) ((t * t + h * h) * (t * t + h * h)))], .int .i64 (0)]) (by simp [results, Try.results21, go_sem, *]) rfl ⟨by simp [clT, h1, h2], ?_⟩
  repeat (first | exact Below.refl _ _ | refine bw_drew ?_ | refine bw_drewN ?_ _ | refine bw_set ?_ (by simp; try omega) _ | refine bw_alloc ?_ _ | refine bw_trans ?_ (by assumption) | assumption)

set_option maxHeartbeats 400000 in
theorem cornerLight_any (t h : Int) (w : World) :
    Calls Try.prog 22 #[.int .i64 t, .int .i64 h] w fun e w' => e = .returned (.tuple #[.agg #[.int .i64 (clT t h).1, .int .i64 (clT t h).2.1], .int .i64 (clT t h).2.2]) ∧ Below w.heap.size w w' := by
  cases h1 : isSi t
  · go_enter Try.func22, Try.ntmps22
    go_wp2_with (first | (go_at_call 45; refine (isSide_is (by assumption) _).mono ?_; rintro e w1 ⟨rfl, rfl⟩) | (go_at_call 48; refine (within_is (show inB _ _ _ = _ by first | exact (h1 : isLu _ = _) | exact (h3 : isLu _ = _) | exact (h2 : isKa _ = _)) _).mono ?_; rintro e w1 ⟨rfl, rfl⟩) | (go_at_call 49; refine (lowest_any _ _ _ ⟨by omega, by omega⟩ ⟨by omega, by omega⟩).mono ?_; rintro e w1 ⟨rfl, hb1⟩; obtain ⟨hc1, hf1⟩ := bcell hb1; try (have hz1 : w.heap.size < w1.heap.size := by (have h := hb1.size; (try simp at h); omega)); try (have hy1 : w.heap.size + 1 < w1.heap.size := by (have h := hb1.size; (try simp at h); omega)); try (have hx1 : w.heap.size + 1 + 1 < w1.heap.size := by (have h := hb1.size; (try simp at h); omega)); try (have hv1 : w.heap.size + 1 + 1 + 1 < w1.heap.size := by (have h := hb1.size; (try simp at h); omega)); try (have hp1 : w.heap.size ≤ w1.heap.size := by omega)))
    refine bodyPost_ret (v := .tuple #[.agg #[.int .i64 (0), .int .i64 (0)], .int .i64 (2)]) (by simp [results, Try.results22, go_sem, *]) rfl ⟨by simp [clT, h1], ?_⟩
    repeat (first | exact Below.refl _ _ | refine bw_drew ?_ | refine bw_drewN ?_ _ | refine bw_set ?_ (by simp; try omega) _ | refine bw_alloc ?_ _ | refine bw_trans ?_ (by assumption) | assumption)
  obtain ⟨t1, t2⟩ := isSi_true.1 h1
  cases h2 : isKa h
  · go_enter Try.func22, Try.ntmps22
    go_wp2_with (first | (go_at_call 45; refine (isSide_is (by assumption) _).mono ?_; rintro e w1 ⟨rfl, rfl⟩) | (go_at_call 48; refine (within_is (show inB _ _ _ = _ by first | exact (h1 : isLu _ = _) | exact (h3 : isLu _ = _) | exact (h2 : isKa _ = _)) _).mono ?_; rintro e w1 ⟨rfl, rfl⟩) | (go_at_call 49; refine (lowest_any _ _ _ ⟨by omega, by omega⟩ ⟨by omega, by omega⟩).mono ?_; rintro e w1 ⟨rfl, hb1⟩; obtain ⟨hc1, hf1⟩ := bcell hb1; try (have hz1 : w.heap.size < w1.heap.size := by (have h := hb1.size; (try simp at h); omega)); try (have hy1 : w.heap.size + 1 < w1.heap.size := by (have h := hb1.size; (try simp at h); omega)); try (have hx1 : w.heap.size + 1 + 1 < w1.heap.size := by (have h := hb1.size; (try simp at h); omega)); try (have hv1 : w.heap.size + 1 + 1 + 1 < w1.heap.size := by (have h := hb1.size; (try simp at h); omega)); try (have hp1 : w.heap.size ≤ w1.heap.size := by omega)))
    refine bodyPost_ret (v := .tuple #[.agg #[.int .i64 (0), .int .i64 (0)], .int .i64 (2)]) (by simp [results, Try.results22, go_sem, *]) rfl ⟨by simp [clT, h1, h2], ?_⟩
    repeat (first | exact Below.refl _ _ | refine bw_drew ?_ | refine bw_drewN ?_ _ | refine bw_set ?_ (by simp; try omega) _ | refine bw_alloc ?_ _ | refine bw_trans ?_ (by assumption) | assumption)
  obtain ⟨h_1, h_2⟩ := isKa_true.1 h2
  obtain ⟨tt1, tt2⟩ := mul_bd1 t1 t2 t1 t2
  obtain ⟨hh1, hh2⟩ := mul_bd h_1 h_2 h_1 h_2
  have g1 : 0 ≤ lowNum (t * t) (t * t + h * h) := lowNum_nonneg (by omega)
  have g2 := (lowNum_bd (n := t * t) (d := t * t + h * h) (B := 1000000) (by omega) (by omega)).2
  have g3 := lowDen_pos (n := t * t) (d := t * t + h * h) (by omega)
  have g4 := lowDen_le (n := t * t) (d := t * t + h * h) (by omega)
  obtain ⟨nn1, nn2⟩ := mul_bd g1 g2 g1 g2
  obtain ⟨dd1, dd2⟩ := mul_bd1 g3 (B := 2000000) (A := 2000000) (by omega) g3 (by omega)
  have HSQ := Lib.hid (low_square (n := t * t) (d := t * t + h * h) (by omega))
  go_enter Try.func22, Try.ntmps22
  go_wp2_with (first | (go_at_call 45; refine (isSide_is (by assumption) _).mono ?_; rintro e w1 ⟨rfl, rfl⟩) | (go_at_call 48; refine (within_is (show inB _ _ _ = _ by first | exact (h1 : isLu _ = _) | exact (h3 : isLu _ = _) | exact (h2 : isKa _ = _)) _).mono ?_; rintro e w1 ⟨rfl, rfl⟩))
  go_wp2_with fail
  refine ((lowest_any _ _ _ ⟨by omega, by omega⟩ ⟨by omega, by omega⟩)).mono ?_
  rintro e w1 ⟨rfl, hb1⟩
  obtain ⟨hc1, hf1⟩ := bcell hb1
  try (have hz1 : w.heap.size < w1.heap.size := by (have h := hb1.size; (try simp at h); omega))
  try (have hy1 : w.heap.size + 1 < w1.heap.size := by (have h := hb1.size; (try simp at h); omega))
  try (have hx1 : w.heap.size + 1 + 1 < w1.heap.size := by (have h := hb1.size; (try simp at h); omega))
  try (have hv1 : w.heap.size + 1 + 1 + 1 < w1.heap.size := by (have h := hb1.size; (try simp at h); omega))
  try (have hp1 : w.heap.size ≤ w1.heap.size := by omega)
  go_wp2_with fail
  refine (lowest_any _ _ _ ⟨by omega, by omega⟩ ⟨by omega, by omega⟩).mono ?_
  rintro e w2 ⟨rfl, hb2⟩
  obtain ⟨hc2, hf2⟩ := bcell hb2
  have hz2 : w.heap.size < w2.heap.size := by (have h := hb2.size; simp at h; omega)
  have hp2 : w.heap.size < w1.heap.size + 1 := by omega
  go_wp2
  refine bodyPost_ret (v := .tuple #[.agg #[.int .i64 (lowNum (lowNum (t * t) (t * t + h * h) * lowNum (t * t) (t * t + h * h)) (lowDen (t * t) (t * t + h * h) * lowDen (t * t) (t * t + h * h))), .int .i64 (lowDen (lowNum (t * t) (t * t + h * h) * lowNum (t * t) (t * t + h * h)) (lowDen (t * t) (t * t + h * h) * lowDen (t * t) (t * t + h * h)))], .int .i64 (0)]) (by simp [results, Try.results22, go_sem, *]) rfl ⟨by simp [clT, HSQ.out.1, HSQ.out.2, h1, h2], ?_⟩
  repeat (first | exact Below.refl _ _ | refine bw_drew ?_ | refine bw_drewN ?_ _ | refine bw_set ?_ (by simp; try omega) _ | refine bw_alloc ?_ _ | refine bw_trans ?_ (by assumption) | assumption)

end Go.Proofs.Ytiplokbcojdcdaa
