/-
  FnLenses: for every input the law returns true.
-/
import Derived.Test.YtclilanlhagppaaLensLQ
import Derived.Laws.StructEq
namespace Go.Proofs.Ytclilanlhagppaa
open Go.RowKit
set_option linter.unusedSimpArgs false
set_option linter.unusedVariables false

theorem full_ok {n d : Int} (hn : 1 ≤ n ∧ n ≤ 1000000) (hd : 1 ≤ d ∧ d ≤ 1000000) :
    ∃ N D g : Int, fullT n d = (N, D, 0) ∧ (1 ≤ N ∧ N ≤ n) ∧ (1 ≤ D ∧ D ≤ d) ∧ 1 ≤ g ∧ N * g = n ∧ D * g = d := by
  have hg := gcdI_pos (a := n) (b := d) (by omega)
  have h1 := @lowNum_mul n d
  have h2 := @lowDen_mul n d
  have h3 := lowDen_pos (n := n) (d := d) (by omega)
  have h4 := lowDen_le (n := n) (d := d) (by omega)
  have h5 := lowNum_nonneg (n := n) (d := d) (by omega)
  have h6 := (lowNum_bd (n := n) (d := d) (B := n) (by omega) (by omega)).2
  have h7 : lowNum n d ≠ 0 := by intro e; rw [e] at h1; omega
  have h8 := low_gcd (n := n) (d := d) (by omega)
  have hv : vFrac (lowNum n d) (lowDen n d) = true := vFrac_true.2 ⟨⟨h3, by omega⟩, ⟨by omega, by omega⟩, h8⟩
  exact ⟨lowNum n d, lowDen n d, gcdI n d, by simp [fullT, chT, chN, chD, chC, hv], ⟨by omega, h6⟩, ⟨h3, h4⟩, hg, h1, h2⟩

/-- Two numbers with one fraction. -/
theorem cross {n d N D g : Int} (h1 : N * g = n) (h2 : D * g = d) : N * d = n * D := by
  rw [← h1, ← h2]; simp only [Int.mul_assoc, Int.mul_comm, Int.mul_left_comm]
theorem recip {f o N D g : Int} (hg : 1 ≤ g) (h1 : N * g = f * o) (h2 : D * g = o - f) : N * o = f * (N + D * o) := by
  have e1 : N * o * g = f * o * o := by rw [show N * o * g = N * g * o by simp only [Int.mul_assoc, Int.mul_comm, Int.mul_left_comm], h1]
  have e2 : f * (N + D * o) * g = f * o * o := by
    rw [show f * (N + D * o) * g = f * (N * g) + f * (D * g * o) by simp only [Int.mul_add, Int.add_mul, Int.mul_assoc, Int.mul_comm, Int.mul_left_comm], h1, h2]
    simp only [Int.sub_mul, Int.mul_sub, Int.mul_assoc, Int.mul_comm, Int.mul_left_comm]
    omega
  exact Int.eq_of_mul_eq_mul_right (by omega : g ≠ 0) (e1.trans e2.symm)
theorem low_one {n : Int} : lowNum n 1 = n ∧ lowDen n 1 = 1 := by
  have h : gcdI n 1 = 1 := by unfold gcdI; simp
  unfold lowNum lowDen
  rw [h]
  simp
theorem low_scale {n d k : Int} (hk : 0 < k) : lowNum (n * k) (d * k) = lowNum n d ∧ lowDen (n * k) (d * k) = lowDen n d := by
  have h : gcdI (n * k) (d * k) = gcdI n d * k := by
    unfold gcdI
    rw [Int.gcd_mul_right]
    have : (k.natAbs : Int) = k := by omega
    simp [this]
  unfold lowNum lowDen
  rw [h]
  exact ⟨Int.mul_tdiv_mul_of_pos_left _ _ hk, Int.mul_tdiv_mul_of_pos_left _ _ hk⟩
theorem low_square {n d : Int} (hd : 0 < d) : lowNum (lowNum n d * lowNum n d) (lowDen n d * lowDen n d) = lowNum (n * n) (d * d) ∧ lowDen (lowNum n d * lowNum n d) (lowDen n d * lowDen n d) = lowDen (n * n) (d * d) := by
  have hg := gcdI_pos (a := n) hd
  have hn := @lowNum_mul n d
  have hd' := @lowDen_mul n d
  have hgg : 0 < gcdI n d * gcdI n d := Int.mul_pos (by omega) (by omega)
  have e1 : n * n = lowNum n d * lowNum n d * (gcdI n d * gcdI n d) := by
    conv => lhs; rw [← hn]
    simp only [Int.mul_assoc, Int.mul_comm, Int.mul_left_comm]
  have e2 : d * d = lowDen n d * lowDen n d * (gcdI n d * gcdI n d) := by
    conv => lhs; rw [← hd']
    simp only [Int.mul_assoc, Int.mul_comm, Int.mul_left_comm]
  have := low_scale (n := lowNum n d * lowNum n d) (d := lowDen n d * lowDen n d) hgg
  rw [← e1, ← e2] at this
  exact ⟨this.1.symm, this.2.symm⟩
theorem full_times {x y : Int} (hx : 1 ≤ x ∧ x ≤ 1000000) (hy : 1 ≤ y) : fullT (x * y) y = (x, 1, 0) := by
  have h := low_scale (n := x) (d := 1) (k := y) (by omega)
  rw [Int.one_mul] at h
  have hv : vFrac x 1 = true := vFrac_true.2 ⟨by omega, by omega, by unfold gcdI; simp⟩
  unfold fullT
  rw [h.1, h.2, low_one.1, low_one.2]
  simp [chT, chN, chD, chC, hv]


theorem IsRow.below {k : IntKind} {w W : World} {a : Option Addr} {l c : Nat} {zs : List Int} (h : IsRow k w a l c zs) (hb : Below w.heap.size w W) : IsRow k W a l c zs := by
  rcases h with h | ⟨x, e, h1, h2, h3, h4, h5⟩
  · exact .inl h
  · exact .inr ⟨x, e, h1, h2, h3, fun i hi => cell_of hb (h4 i hi), h5⟩
theorem bne_eq {a b : Int} (h : a = b) : (a != b) = false := by rw [h]; simp
theorem beq_eq {a b : Int} (h : a = b) : (a == b) = true := by rw [h]; simp
theorem max_of {o : Int} (h : 1 ≤ o) : max 1 o = o := by omega

theorem im_far {f o : Int} (hf : 10 ≤ f ∧ f ≤ 400) (ho : f < o ∧ o ≤ 579) : ∃ N D g : Int, imT f o = (N, D, 0) ∧ (1 ≤ N ∧ N ≤ 1000000) ∧ (1 ≤ D ∧ D ≤ 1000) ∧ 1 ≤ g ∧ N * g = f * o ∧ D * g = o - f := by
  obtain ⟨m1, m2⟩ := mul_bd (a := f) (b := o) (A := 400) (B := 579) (by omega) (by omega) (by omega) (by omega)
  have m3 : 1 * 1 ≤ f * o := Int.mul_le_mul (by omega) (by omega) (by omega) (by omega)
  obtain ⟨N, D, g, h1, h2, h3, h4, h5, h6⟩ := full_ok (n := f * o) (d := o - f) ⟨by omega, by omega⟩ ⟨by omega, by omega⟩
  refine ⟨N, D, g, ?_, ⟨h2.1, by omega⟩, ⟨h3.1, by omega⟩, h4, h5, h6⟩
  have e1 : isFo f = true := isFo_true.2 (by omega)
  have e2 : isTh o = true := isTh_true.2 (by omega)
  unfold imT; rw [e1, e2]; simp only [Bool.and_self, if_true]; rw [if_neg (by omega), h1]
theorem en_far {f t : Int} (hf : 10 ≤ f ∧ f ≤ 400) (ht : f < t ∧ t ≤ 3000) : ∃ N D : Int, enT f t = (N, D, 0) ∧ (1 ≤ N ∧ N ≤ 3000) ∧ (1 ≤ D ∧ D ≤ 400) ∧ N * f = (t - f) * D := by
  obtain ⟨N, D, g, h1, h2, h3, h4, h5, h6⟩ := full_ok (n := t - f) (d := f) ⟨by omega, by omega⟩ ⟨by omega, by omega⟩
  have e1 : isFo f = true := isFo_true.2 (by omega)
  have e2 : isTh t = true := isTh_true.2 (by omega)
  have hb := lowNum_bd (n := t - f) (d := f) (B := 3000) (by omega) (by omega)
  have hc := lowNum_nonneg (n := t - f) (d := f) (by omega)
  have h7 := @lowNum_mul (t - f) f
  have h8 := @lowDen_mul (t - f) f
  have h9 : lowNum (t - f) f ≠ 0 := by intro e; rw [e] at h7; omega
  have h10 := lowDen_pos (n := t - f) (d := f) (by omega)
  have h11 := lowDen_le (n := t - f) (d := f) (by omega)
  refine ⟨lowNum (t - f) f, lowDen (t - f) f, ?_, by omega, by omega, cross h7 h8⟩
  unfold enT; rw [e1, e2]; simp only [Bool.and_self, if_true]; rw [if_neg (by omega)]
theorem sc_far {f t s : Int} (hf : 10 ≤ f ∧ f ≤ 400) (ht : f < t ∧ t ≤ 2410) (hs : 5 ≤ s ∧ s ≤ 150) : ∃ N D g : Int, scT f t s = (N, D, 0) ∧ (1 ≤ N ∧ N ≤ 1000000) ∧ (1 ≤ D ∧ D ≤ 400) ∧ N * f = s * (t - f) * D ∧ 1 ≤ g ∧ N * g = s * (t - f) ∧ D * g = f := by
  obtain ⟨m1, m2⟩ := mul_bd (a := s) (b := t - f) (A := 150) (B := 2400) (by omega) (by omega) (by omega) (by omega)
  have m3 : 1 * 1 ≤ s * (t - f) := Int.mul_le_mul (by omega) (by omega) (by omega) (by omega)
  obtain ⟨N, D, g, h1, h2, h3, h4, h5, h6⟩ := full_ok (n := s * (t - f)) (d := f) ⟨by omega, by omega⟩ ⟨by omega, by omega⟩
  have e1 : isFo f = true := isFo_true.2 (by omega)
  have e2 : isTh t = true := isTh_true.2 (by omega)
  have e3 : isTh s = true := isTh_true.2 (by omega)
  refine ⟨N, D, g, ?_, ⟨h2.1, by omega⟩, ⟨h3.1, by omega⟩, cross h5 h6, h4, h5, h6⟩
  unfold scT; rw [e1, e2, e3]; simp only [Bool.and_self, if_true]; rw [if_neg (by omega), h1]
theorem ff_far {f t s N : Int} (hf : 10 ≤ f ∧ f ≤ 400) (ht : f < t ∧ t ≤ 2410) (hs : 5 ≤ s ∧ s ≤ 150) (hN : 1 ≤ N ∧ N ≤ 100000) (h : N * f = s * (t - f)) : ffT t s N = (f, 1, 0) ∧ tfT f s N = (t, 1, 0) := by
  have e1 : isFo f = true := isFo_true.2 (by omega)
  have e2 : isTh t = true := isTh_true.2 (by omega)
  have e3 : isTh s = true := isTh_true.2 (by omega)
  have e4 : isTh N = true := isTh_true.2 (by omega)
  have hk : t * s = f * (s + N) := by
    rw [Int.mul_add, Int.mul_comm f N, h, Int.mul_sub, Int.mul_comm f s, Int.mul_comm t s]; omega
  refine ⟨?_, ?_⟩
  · unfold ffT; rw [e2, e3, e4]; simp only [Bool.and_self, if_true]; rw [hk, full_times ⟨by omega, by omega⟩ (by omega)]
  · unfold tfT; rw [e1, e3, e4]; simp only [Bool.and_self, if_true]; rw [← hk, full_times ⟨by omega, by omega⟩ (by omega)]

set_option maxRecDepth 100000 in
set_option maxHeartbeats 2000000 in
/-- Too long: true at once. -/
theorem lenses_long (a1 a2 : Option Addr) (l m c1 c2 : Nat) (w : World) (hl : l ≤ maxLen) (hm : m ≤ maxLen) (h : lng l m = true) :
    Calls Try.prog 3 #[.slice a1 l c1, .slice a2 m c2] w fun e w' => e = .returned (.bool true) ∧ Below w.heap.size w w' := by
  go_enter Try.func3, Try.ntmps3
  go_wp2_with (first | (go_at_call 4; refine (a2Long_is _ _ _ _ _ _ _ h hl hm).mono ?_; rintro e w1 ⟨rfl, rfl⟩))
  go_ret
  exact ⟨rfl, Below.refl _ _⟩

end Go.Proofs.Ytclilanlhagppaa
