/-
  The size of scenes.
-/
import Derived.Test.YtnjndlngkoadfaaPc
namespace Go.Proofs.Ytnjndlngkoadfaa
open Go.RowKit

/-- The sum of the poses' sizes of the first k. -/
def szT (xs : List ScE) : Nat → Int
  | 0 => 0
  | k + 1 => szT xs k + ((xs.getD k ScE.zero).f0.size : Int)
theorem szT_nonneg (xs : List ScE) (k : Nat) : 0 ≤ szT xs k := by
  induction k with
  | zero => simp [szT]
  | succ k ih => show 0 ≤ szT xs k + _; omega
theorem szT_mono (xs : List ScE) {j k : Nat} (h : j ≤ k) : szT xs j ≤ szT xs k := by
  induction k with
  | zero => have : j = 0 := by omega
            subst this; exact Int.le_refl _
  | succ k ih =>
    rcases Nat.lt_or_ge j (k + 1) with h1 | h1
    · have := ih (by omega)
      show _ ≤ szT xs k + ((xs.getD k ScE.zero).f0.size : Int)
      omega
    · have : j = k + 1 := by omega
      subst this; exact Int.le_refl _
theorem szScene_any (s : ByteArray) (t left : Int) (w : World) (hs : s.size ≤ 9223372036854775807) (hl : 0 ≤ left ∧ left ≤ 1048576) :
    Calls Try.prog 40 #[.agg #[.string s, .int .i64 t], .int .i64 left] w fun e w' => e = .returned (.int .i64 (if left - (s.size : Int) < 0 then -1 else left - (s.size : Int))) ∧ Below w.heap.size w w' := by
  obtain ⟨l1, l2⟩ := hl
  by_cases h : left - (s.size : Int) < 0
  · rw [if_pos h]
    go_enter Try.func40, Try.ntmps40
    go_wp2
    go_ret
    refine ⟨rfl, ?_⟩
    repeat (first | exact Below.refl _ _ | refine bw_drew ?_ | refine bw_drewN ?_ _ | refine bw_set ?_ (by simp; try omega) _ | refine bw_alloc ?_ _ | refine bw_trans ?_ (by assumption) | assumption)
  · rw [if_neg h]
    go_enter Try.func40, Try.ntmps40
    go_wp2
    go_ret
    refine ⟨rfl, ?_⟩
    repeat (first | exact Below.refl _ _ | refine bw_drew ?_ | refine bw_drewN ?_ _ | refine bw_set ?_ (by simp; try omega) _ | refine bw_alloc ?_ _ | refine bw_trans ?_ (by assumption) | assumption)

def szR (xs : List ScE) (n : Nat) : Int := if 1048576 - (n : Int) - szT xs n < 0 then -1 else 1048576 - (n : Int) - szT xs n
set_option maxHeartbeats 800000 in
theorem Scsz_any (A : Option Addr) (n c : Nat) (xs : List ScE) (w : World) (H : SlSc w A n xs) (hn : n ≤ 1048576) (hz : ∀ k, k < n → (xs.getD k ScE.zero).f0.size ≤ 9223372036854775807) :
    Calls Try.prog 14 #[.slice A n c, .int .i64 1048576] w fun e w' => e = .returned (.int .i64 (szR xs n)) ∧ Below w.heap.size w w' := by
  have HZ := Lib.hid hz
  have h0 : ¬ (1048576 - (n : Int)) < 0 := by omega
  clear hz
  go_enter Try.func14, Try.ntmps14
  go_wp2_with fail
  go_loopw [1, 5] (fun x y wr => ∃ k : Nat, ∃ q : Int, k ≤ n ∧ x = .int .i64 q ∧ y = .int .i64 k ∧ Hid (q = 1048576 - (n : Int) - szT xs k) ∧ (0 ≤ q ∧ q ≤ 1048576) ∧ Below w.heap.size w wr) (fun _ y _ => (n - (intOf y).toNat))
  case atStart => exact ⟨0, _, by omega, rfl, rfl, (by show _ = _ - (0 : Int); omega), ⟨by omega, by omega⟩, Below.refl _ _⟩
  case round =>
    obtain ⟨k, q, hk, rfl, rfl, hq, ⟨q1, q2⟩, hbr⟩ := hrel
    by_cases hlt : k < n
    · obtain ⟨b, off, rfl, hbl, hc0, hc1⟩ := (H.below hbr).get hlt
      have hs := HZ.out k hlt
      have hm := szT_mono xs (show k + 1 ≤ n by omega)
      have hT : szT xs (k + 1) = szT xs k + ((xs.getD k ScE.zero).f0.size : Int) := rfl
      clear H
      generalize xs.getD k ScE.zero = y at *
      by_cases hl : q - (y.f0.size : Int) < 0
      · have HR := Lib.hid (show szR xs n = -1 from if_pos (by have := hq.out; omega))
        have hc := szScene_any y.f0 y.f1 q wr hs ⟨q1, q2⟩
        rw [if_pos hl] at hc
        clear hm hT
        go_wp2_with fail
        refine hc.mono ?_
        rintro e w1 ⟨rfl, hb1⟩
        go_wp2
        go_ret
        exact ⟨ret_int HR.out.symm, bw_trans hbr hb1⟩
      · have HQ := Lib.hid (show q - (y.f0.size : Int) = 1048576 - (n : Int) - szT xs (k + 1) by have := hq.out; omega)
        have hc := szScene_any y.f0 y.f1 q wr hs ⟨q1, q2⟩
        rw [if_neg hl] at hc
        clear hm hT
        go_wp2_with fail
        refine hc.mono ?_
        rintro e w1 ⟨rfl, hb1⟩
        go_wp2_with fail
        go_roundw
        case rel => exact ⟨k + 1, _, by omega, rfl, by go_num, HQ.out, ⟨by omega, by omega⟩, bw_trans hbr hb1⟩
        case measure => simp [intOf]; omega
    · have hkk : k = n := by omega
      subst hkk
      have HR := Lib.hid (show szR xs k = q from by unfold szR; rw [if_neg (by have := hq.out; omega)]; exact hq.out.symm)
      clear H
      go_wp2
      go_ret
      exact ⟨ret_int HR.out.symm, hbr⟩
end Go.Proofs.Ytnjndlngkoadfaa
