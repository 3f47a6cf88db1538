/-
  Plain facts on integers that the walks use: ranges as Bools, the greatest common divisor, fractions in lowest terms. No program in sight.
-/
import Derived.WalkKit
namespace Go.Proofs.Ytclilanlhagppaa

/-- low ≤ n and n ≤ high, as a Bool that the walk does not open. -/
def inB (n lo hi : Int) : Bool := decide (lo ≤ n ∧ n ≤ hi)
theorem inB_true {n lo hi : Int} : inB n lo hi = true ↔ lo ≤ n ∧ n ≤ hi := by simp [inB]
theorem inB_false {n lo hi : Int} : inB n lo hi = false ↔ ¬ (lo ≤ n ∧ n ≤ hi) := by unfold inB; exact decide_eq_false_iff_not
theorem inB_of {n lo hi : Int} (h1 : lo ≤ n) (h2 : n ≤ hi) : inB n lo hi = true := inB_true.2 ⟨h1, h2⟩
theorem inB_lo {n lo hi : Int} (h1 : n < lo) : inB n lo hi = false := inB_false.2 (by omega)
theorem inB_hi {n lo hi : Int} (h1 : hi < n) : inB n lo hi = false := inB_false.2 (by omega)

/-- The greatest common divisor, as an integer. -/
def gcdI (a b : Int) : Int := (Int.gcd a b : Int)
theorem gcdI_step (a b : Int) : gcdI b (a.tmod b) = gcdI a b := by
  unfold gcdI Int.gcd
  rw [Int.natAbs_tmod, Nat.gcd_comm b.natAbs, ← Nat.gcd_rec, Nat.gcd_comm]
theorem gcdI_zero (a : Int) : gcdI a 0 = (a.natAbs : Int) := by unfold gcdI; simp
theorem gcdI_nonneg (a b : Int) : 0 ≤ gcdI a b := by unfold gcdI; omega
theorem gcdI_pos {a b : Int} (h : 0 < b) : 1 ≤ gcdI a b := by
  unfold gcdI
  have : 0 < Int.gcd a b := Int.gcd_pos_of_ne_zero_right a (by omega)
  omega
theorem gcdI_le_right {a b : Int} (h : 0 < b) : gcdI a b ≤ b := by
  unfold gcdI
  exact Int.le_of_dvd h (Int.gcd_dvd_right a b)
theorem gcdI_natAbs (a b : Int) : gcdI (a.natAbs : Int) b = gcdI a b := by
  unfold gcdI Int.gcd; simp
theorem tmod_lt_natAbs (a b : Int) (h : b ≠ 0) : (a.tmod b).natAbs < b.natAbs := by
  rw [Int.natAbs_tmod]; exact Nat.mod_lt _ (by omega)

/-- The numerator and the denominator in lowest terms. -/
def lowNum (n d : Int) : Int := n.tdiv (gcdI n d)
def lowDen (n d : Int) : Int := d.tdiv (gcdI n d)
theorem gcdI_dvd_left (a b : Int) : gcdI a b ∣ a := Int.gcd_dvd_left a b
theorem gcdI_dvd_right (a b : Int) : gcdI a b ∣ b := Int.gcd_dvd_right a b
theorem lowDen_pos {n d : Int} (h : 0 < d) : 1 ≤ lowDen n d := by
  unfold lowDen
  have hg := gcdI_pos (a := n) h
  have hle := gcdI_le_right (a := n) h
  rw [Int.tdiv_eq_ediv_of_nonneg (by omega)]
  exact (Int.le_ediv_iff_mul_le (by omega)).2 (by omega)
theorem lowDen_le {n d : Int} (h : 0 < d) : lowDen n d ≤ d := by
  unfold lowDen
  rw [Int.tdiv_eq_ediv_of_nonneg (by omega)]
  exact Int.ediv_le_self _ (by omega)
theorem natAbs_lowNum_le (n d : Int) : (lowNum n d).natAbs ≤ n.natAbs := by
  unfold lowNum
  rw [Int.natAbs_tdiv]
  exact Nat.div_le_self _ _
theorem lowNum_mul {n d : Int} : lowNum n d * gcdI n d = n := Int.tdiv_mul_cancel (gcdI_dvd_left n d)
theorem lowDen_mul {n d : Int} : lowDen n d * gcdI n d = d := Int.tdiv_mul_cancel (gcdI_dvd_right n d)

/-- A fraction is valid: its denominator is from 1 to 10^6, its numerator from -10^6 to 10^6, and it is in lowest terms. -/
def vFrac (n d : Int) : Bool := inB d 1 1000000 && inB n (-1000000) 1000000 && (gcdI n d == 1)
theorem vFrac_true {n d : Int} : vFrac n d = true ↔ (1 ≤ d ∧ d ≤ 1000000) ∧ (-1000000 ≤ n ∧ n ≤ 1000000) ∧ gcdI n d = 1 := by
  simp [vFrac, inB_true, and_assoc]
theorem vFrac_cases (n d : Int) : inB d 1 1000000 = false ∨ (inB d 1 1000000 = true ∧ inB n (-1000000) 1000000 = false) ∨
    (inB d 1 1000000 = true ∧ inB n (-1000000) 1000000 = true ∧ (gcdI n d == 1) = false) ∨ (inB d 1 1000000 = true ∧ inB n (-1000000) 1000000 = true ∧ (gcdI n d == 1) = true) := by
  cases inB d 1 1000000 <;> cases inB n (-1000000) 1000000 <;> cases (gcdI n d == 1) <;> simp

theorem lowNum_bd {n d B : Int} (h1 : -B ≤ n) (h2 : n ≤ B) : -B ≤ lowNum n d ∧ lowNum n d ≤ B := by
  have := natAbs_lowNum_le n d
  omega
theorem lowNum_nonneg {n d : Int} (h : 0 ≤ n) : 0 ≤ lowNum n d := Int.tdiv_nonneg h (gcdI_nonneg n d)
theorem low_gcd {n d : Int} (h : 0 < d) : gcdI (lowNum n d) (lowDen n d) = 1 := by
  have hg := gcdI_pos (a := n) h
  have h1 := @lowNum_mul n d
  have h2 := @lowDen_mul n d
  have h3 : gcdI (lowNum n d * gcdI n d) (lowDen n d * gcdI n d) = gcdI (lowNum n d) (lowDen n d) * gcdI n d := by
    unfold gcdI
    rw [Int.gcd_mul_right]
    simp
  rw [h1, h2] at h3
  have h4 : gcdI (lowNum n d) (lowDen n d) * gcdI n d = 1 * gcdI n d := by omega
  exact Int.eq_of_mul_eq_mul_right (by omega) h4
end Go.Proofs.Ytclilanlhagppaa
