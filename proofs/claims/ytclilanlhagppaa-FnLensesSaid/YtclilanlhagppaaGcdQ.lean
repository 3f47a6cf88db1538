/-
  The greatest common divisor, in the program and in the reference; absolute values.
-/
import Derived.Test.YtclilanlhagppaaBaseQ
import Derived.Test.YtclilanlhagppaaCalm
import Derived.LoopTactic
namespace Go.Proofs.Ytclilanlhagppaa
open Go.RowKit

theorem tmod_bd {p q : Int} (hp : -1000000000000000000 ≤ p ∧ p ≤ 1000000000000000000) : -1000000000000000000 ≤ p.tmod q ∧ p.tmod q ≤ 1000000000000000000 := by
  have h : (p.tmod q).natAbs ≤ p.natAbs := by rw [Int.natAbs_tmod]; exact Nat.mod_le _ _
  omega

set_option maxHeartbeats 400000 in
theorem gcd_any (a b : Int) (w : World) (ha : -1000000000000000000 ≤ a ∧ a ≤ 1000000000000000000) (hb : -1000000000000000000 ≤ b ∧ b ≤ 1000000000000000000) :
    Calls Try.prog 18 #[.int .i64 a, .int .i64 b] w fun e w' => e = .returned (.int .i64 (gcdI a b)) ∧ Below w.heap.size w w' := by
  go_enter Try.func18, Try.ntmps18
  go_wp2_with fail
  go_loopw [0, 1] (fun x y wr => ∃ p q : Int, Hid (gcdI p q = gcdI a b) ∧ (-1000000000000000000 ≤ p ∧ p ≤ 1000000000000000000) ∧ (-1000000000000000000 ≤ q ∧ q ≤ 1000000000000000000) ∧ x = .int .i64 p ∧ y = .int .i64 q ∧ Below w.heap.size w wr) (fun _ y _ => (intOf y).natAbs)
  case atStart => exact ⟨a, b, rfl, ha, hb, rfl, rfl, Below.refl _ _⟩
  case round =>
    obtain ⟨p, q, hg, hp, hq, rfl, rfl, hbw⟩ := hrel
    have hpp := hp
    obtain ⟨hp1, hp2⟩ := hp
    obtain ⟨hq1, hq2⟩ := hq
    by_cases h0 : q = 0
    · subst h0
      go_wp2
      all_goals
        go_ret
        exact ⟨ret_int (by rw [← hg.out, gcdI_zero]; omega), hbw⟩
    · have hne : (q != 0) = true := by simpa using h0
      have hn0 : (q == 0) = false := by simpa using h0
      go_wp2_with fail
      refine wp_region_bel (by kernel_rfl) (by kernel_rfl) ?_
      repeat (go_big_quiet_step ((fail)))
      refine wpQuiet_nil ?_
      intro wq hw'
      obtain ⟨tq, hw''⟩ := hw'
      have hwq := tq.2
      rw [← hw''] at hwq
      clear hw'' tq
      obtain ⟨hcwq, hfwq⟩ := bcell hwq
      try (have hzwq : w.heap.size < wq.heap.size := by (have h := hwq.size; (try simp at h); omega))
      try (have hywq : w.heap.size + 1 < wq.heap.size := by (have h := hwq.size; (try simp at h); omega))
      try (have hxwq : w.heap.size + 1 + 1 < wq.heap.size := by (have h := hwq.size; (try simp at h); omega))
      try (have hvwq : w.heap.size + 1 + 1 + 1 < wq.heap.size := by (have h := hwq.size; (try simp at h); omega))
      go_wp2
      go_roundw
      case rel =>
        exact ⟨q, p.tmod q, (by rw [gcdI_step]; exact hg.out : gcdI q (p.tmod q) = gcdI a b), ⟨hq1, hq2⟩, tmod_bd hpp, rfl, rfl, bw_trans hbw hwq⟩
      case measure =>
        simp [intOf]; exact Nat.mod_lt _ (by omega)
end Go.Proofs.Ytclilanlhagppaa
