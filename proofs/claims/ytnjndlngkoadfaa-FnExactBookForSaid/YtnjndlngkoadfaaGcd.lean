/-
  The greatest common divisor, in the program and in the reference; absolute values.
-/
import Derived.Test.YtnjndlngkoadfaaBase
import Derived.Test.YtnjndlngkoadfaaCalm
import Derived.LoopTactic
namespace Go.Proofs.Ytnjndlngkoadfaa
open Go.RowKit

theorem l00Size_any (n : Int) (w : World) (h1 : -1000000000000000000 ≤ n) (h2 : n ≤ 1000000000000000000) :
    Calls Try.prog 61 #[.int .i64 n] w fun e w' => e = .returned (.int .i64 (n.natAbs : Int)) ∧ w = w' := by
  by_cases h : n < 0
  · go_enter Try.func61, Try.ntmps61
    go_wp2
    go_ret
    exact ⟨ret_int (by omega), rfl⟩
  · go_enter Try.func61, Try.ntmps61
    go_wp2
    go_ret
    exact ⟨ret_int (by omega), rfl⟩

theorem tmod_bd {p q : Int} (hp : -1000000000000000000 ≤ p ∧ p ≤ 1000000000000000000) : -1000000000000000000 ≤ p.tmod q ∧ p.tmod q ≤ 1000000000000000000 := by
  have h : (p.tmod q).natAbs ≤ p.natAbs := by rw [Int.natAbs_tmod]; exact Nat.mod_le _ _
  omega

set_option maxHeartbeats 400000 in
theorem l00Gcd_any (a b : Int) (w : World) (ha : 0 ≤ a ∧ a ≤ 1000000000000000000) (hb : 0 ≤ b ∧ b ≤ 1000000000000000000) :
    Calls Try.prog 46 #[.int .i64 a, .int .i64 b] w fun e w' => e = .returned (.int .i64 (gcdI a b)) ∧ w = w' := by
  go_enter Try.func46, Try.ntmps46
  go_wp2_with fail
  go_loop [0, 1, 5] (fun x y z => ∃ p q r : Int, Hid (gcdI p q = gcdI a b) ∧ (0 ≤ p ∧ p ≤ 1000000000000000000) ∧ (0 ≤ q ∧ q ≤ 1000000000000000000) ∧ x = .int .i64 p ∧ y = .int .i64 q) (fun _ y _ => (intOf y).natAbs)
  case atStart => exact ⟨a, b, 0, rfl, ha, hb, rfl, rfl⟩
  case round =>
    obtain ⟨p, q, r, hg, hp, hq, rfl, rfl⟩ := hrel
    obtain ⟨hp1, hp2⟩ := hp
    obtain ⟨hq1, hq2⟩ := hq
    by_cases h0 : q = 0
    · subst h0
      go_wp2
      go_ret
      exact ⟨ret_int (by rw [← hg.out, gcdI_zero]; omega), rfl⟩
    · have hne : (q != 0) = true := by simpa using h0
      go_wp2
      go_round
      case rel =>
        have h1 := Int.emod_nonneg p h0
        have h2 := Int.emod_lt_of_pos p (b := q) (by omega)
        exact ⟨q, p % q, p % q, (by rw [← Int.tmod_eq_emod_of_nonneg hp1, gcdI_step]; exact hg.out : gcdI q (p % q) = gcdI a b), ⟨hq1, hq2⟩, ⟨h1, by omega⟩, rfl, rfl⟩
      case measure =>
        have h1 := Int.emod_nonneg p h0
        have h2 := Int.emod_lt_of_pos p (b := q) (by omega)
        simp [intOf]; omega

end Go.Proofs.Ytnjndlngkoadfaa
