/-
  Letters and pages: in the program and in the reference.
-/
import Derived.Test.YtnjndlngkoadfaaBase
import Derived.Test.YtnjndlngkoadfaaCalm
import Derived.LoopTactic
namespace Go.Proofs.Ytnjndlngkoadfaa
open Go.RowKit

/-- All are small letters. -/
def letP (s : ByteArray) : Prop := ∀ (k : Nat) (h : k < s.size), 97 ≤ (s[k].toNat : Int) ∧ (s[k].toNat : Int) ≤ 122
/-- Between one and so many small letters. -/
noncomputable def lnB (s : ByteArray) (most : Int) : Bool := @decide (letP s ∧ 1 ≤ (s.size : Int) ∧ (s.size : Int) ≤ most) (Classical.propDecidable _)
theorem lnB_false1 {s : ByteArray} {most : Int} {k : Nat} (h : k < s.size) (hn : ¬ (97 ≤ (s[k].toNat : Int) ∧ (s[k].toNat : Int) ≤ 122)) : lnB s most = false := by
  unfold lnB; exact @decide_eq_false _ (Classical.propDecidable _) fun ⟨a, _⟩ => hn (a k h)
theorem lnB_false2 {s : ByteArray} {most : Int} (hn : ¬ (1 ≤ (s.size : Int) ∧ (s.size : Int) ≤ most)) : lnB s most = false := by
  unfold lnB; exact @decide_eq_false _ (Classical.propDecidable _) fun ⟨_, a⟩ => hn a
theorem lnB_true {s : ByteArray} {most : Int} (h : letP s) (hn : 1 ≤ (s.size : Int) ∧ (s.size : Int) ≤ most) : lnB s most = true := by
  unfold lnB; exact @decide_eq_true _ (Classical.propDecidable _) ⟨h, hn⟩
theorem lnB_of {s : ByteArray} {most : Int} (h : lnB s most = true) : letP s ∧ 1 ≤ (s.size : Int) ∧ (s.size : Int) ≤ most := by
  unfold lnB at h; exact @of_decide_eq_true _ (Classical.propDecidable _) h

set_option maxHeartbeats 800000 in
theorem isLetters_is {s : ByteArray} {most : Int} {b : Bool} (hb : lnB s most = b) (w : World) (hs : s.size ≤ 9223372036854775807) :
    Calls Try.prog 45 #[.string s, .int .i64 most] w fun e w' => e = .returned (.bool b) ∧ w = w' := by
  have HB := Lib.hid hb
  clear hb
  go_enter Try.func45, Try.ntmps45
  go_wp2_with fail
  go_loop [5] (fun x => ∃ k : Nat, k ≤ s.size ∧ x = .int .i64 k ∧ Hid (∀ (j : Nat) (h : j < s.size), j < k → 97 ≤ (s[j].toNat : Int) ∧ (s[j].toNat : Int) ≤ 122)) (fun x => (s.size - (intOf x).toNat))
  case atStart => exact ⟨0, by omega, rfl, fun j _ hj => absurd hj (by omega)⟩
  case round =>
    obtain ⟨k, hk, rfl, hno⟩ := hrel
    by_cases hlt : k < s.size
    · by_cases h1 : 97 ≤ (s[k].toNat : Int)
      · by_cases h2 : (s[k].toNat : Int) ≤ 122
        · have hn' : ∀ (j : Nat) (h : j < s.size), j < k + 1 → 97 ≤ (s[j].toNat : Int) ∧ (s[j].toNat : Int) ≤ 122 := fun j h hj => by
            rcases Nat.lt_or_ge j k with h' | h'
            · exact hno.out j h h'
            · have : j = k := by omega
              subst this; exact ⟨h1, h2⟩
          have HN := Lib.hid hn'
          clear hn'
          go_wp2
          go_round
          case rel => exact ⟨k + 1, by omega, by go_num, HN.out⟩
          case measure => simp [intOf]; omega
        · have hb' : b = false := by rw [← HB.out]; exact lnB_false1 hlt (fun h => h2 h.2)
          subst hb'
          clear HB
          go_wp2
          go_ret
          exact ⟨rfl, rfl⟩
      · have hb' : b = false := by rw [← HB.out]; exact lnB_false1 hlt (fun h => h1 h.1)
        subst hb'
        clear HB
        go_wp2
        go_ret
        exact ⟨rfl, rfl⟩
    · have hkk : k = s.size := by omega
      subst hkk
      have HL : Hid (letP s) := fun j h => hno.out j h h
      by_cases h1 : 1 ≤ (s.size : Int)
      · by_cases h2 : (s.size : Int) ≤ most
        · have hb' : b = true := by rw [← HB.out]; exact lnB_true HL.out ⟨h1, h2⟩
          subst hb'
          clear HB
          go_wp2
          go_ret
          exact ⟨rfl, rfl⟩
        · have hb' : b = false := by rw [← HB.out]; exact lnB_false2 (fun h => h2 h.2)
          subst hb'
          clear HB
          go_wp2
          go_ret
          exact ⟨rfl, rfl⟩
      · have hb' : b = false := by rw [← HB.out]; exact lnB_false2 (fun h => h1 h.1)
        subst hb'
        clear HB
        go_wp2
        go_ret
        exact ⟨rfl, rfl⟩

set_option maxHeartbeats 800000 in
theorem l08Pages_is {s : ByteArray} {b : Bool} (hb : lnB s 60 = b) (w : World) (hs : s.size ≤ 9223372036854775807) :
    Calls Try.prog 35 #[.string s] w fun e w' => e = .returned (.bool b) ∧ w = w' := by
  have HB := Lib.hid hb
  clear hb
  go_enter Try.func35, Try.ntmps35
  go_wp2_with fail
  go_loop [3] (fun x => ∃ k : Nat, k ≤ s.size ∧ x = .int .i64 k ∧ Hid (∀ (j : Nat) (h : j < s.size), j < k → 97 ≤ (s[j].toNat : Int) ∧ (s[j].toNat : Int) ≤ 122)) (fun x => (s.size - (intOf x).toNat))
  case atStart => exact ⟨0, by omega, rfl, fun j _ hj => absurd hj (by omega)⟩
  case round =>
    obtain ⟨k, hk, rfl, hno⟩ := hrel
    by_cases hlt : k < s.size
    · by_cases h1 : 97 ≤ (s[k].toNat : Int)
      · by_cases h2 : (s[k].toNat : Int) ≤ 122
        · have hn' : ∀ (j : Nat) (h : j < s.size), j < k + 1 → 97 ≤ (s[j].toNat : Int) ∧ (s[j].toNat : Int) ≤ 122 := fun j h hj => by
            rcases Nat.lt_or_ge j k with h' | h'
            · exact hno.out j h h'
            · have : j = k := by omega
              subst this; exact ⟨h1, h2⟩
          have HN := Lib.hid hn'
          clear hn'
          go_wp2
          go_round
          case rel => exact ⟨k + 1, by omega, by go_num, HN.out⟩
          case measure => simp [intOf]; omega
        · have hb' : b = false := by rw [← HB.out]; exact lnB_false1 hlt (fun h => h2 h.2)
          subst hb'
          clear HB
          go_wp2
          go_ret
          exact ⟨rfl, rfl⟩
      · have hb' : b = false := by rw [← HB.out]; exact lnB_false1 hlt (fun h => h1 h.1)
        subst hb'
        clear HB
        go_wp2
        go_ret
        exact ⟨rfl, rfl⟩
    · have hkk : k = s.size := by omega
      subst hkk
      have HL : Hid (letP s) := fun j h => hno.out j h h
      have hbb : inB (s.size : Int) 1 60 = b := by
        rw [← HB.out]
        cases h : inB (s.size : Int) 1 60
        · exact (lnB_false2 (fun h' => by rw [inB_true.2 h'] at h; cases h)).symm
        · exact (lnB_true HL.out (inB_true.1 h)).symm
      clear HB
      go_wp2_with (go_at_call 37; refine (l00In_is hbb _).mono ?_; rintro e w1 ⟨rfl, rfl⟩)
      go_ret
      exact ⟨rfl, rfl⟩
end Go.Proofs.Ytnjndlngkoadfaa
