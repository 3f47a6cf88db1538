/-
  Valid scenes: in the program and in the reference.
-/
import Derived.Test.YtnjndlngkoadfaaPa
import Derived.Test.YtnjndlngkoadfaaSs
import Derived.Test.YtnjndlngkoadfaaAny
namespace Go.Proofs.Ytnjndlngkoadfaa
open Go.RowKit

theorem str_ne {a b : ByteArray} (h : ¬ a = b) : (a.toList == b.toList) = false := by
  cases e : (a.toList == b.toList)
  · rfl
  · exfalso
    apply h
    have e' := eq_of_beq e
    rw [ByteArray.toList_eq, ByteArray.toList_eq] at e'
    cases a; cases b
    simp only [ByteArray.mk.injEq]
    exact Array.toList_inj.1 e'
/-- One scene is good behind the one before. -/
noncomputable def scOk (xs : List ScE) (k : Nat) : Prop := lnB (xs.getD k ScE.zero).f0 1 = true ∧ inB (xs.getD k ScE.zero).f1 1 1000 = true ∧ (0 < k → (xs.getD (k - 1) ScE.zero).f0 ≠ (xs.getD k ScE.zero).f0)
noncomputable def vsB (xs : List ScE) (n : Nat) : Bool := @decide ((∀ k, k < n → scOk xs k) ∧ 1 ≤ n ∧ n ≤ 12) (Classical.propDecidable _)
theorem vs_false1 {xs : List ScE} {n k : Nat} (h : k < n) (hn : ¬ scOk xs k) : vsB xs n = false := by
  unfold vsB; exact @decide_eq_false _ (Classical.propDecidable _) fun ⟨a, _⟩ => hn (a k h)
theorem vs_false2 {xs : List ScE} {n : Nat} (hn : ¬ (1 ≤ n ∧ n ≤ 12)) : vsB xs n = false := by
  unfold vsB; exact @decide_eq_false _ (Classical.propDecidable _) fun ⟨_, a⟩ => hn a
theorem vs_true {xs : List ScE} {n : Nat} (h : ∀ k, k < n → scOk xs k) (hn : 1 ≤ n ∧ n ≤ 12) : vsB xs n = true := by
  unfold vsB; exact @decide_eq_true _ (Classical.propDecidable _) ⟨h, hn⟩
theorem vs_of {xs : List ScE} {n : Nat} (h : vsB xs n = true) : (∀ k, k < n → scOk xs k) ∧ 1 ≤ n ∧ n ≤ 12 := by
  unfold vsB at h; exact @of_decide_eq_true _ (Classical.propDecidable _) h

set_option maxHeartbeats 1600000 in
theorem validScenes_is (A : Option Addr) (n c : Nat) (xs : List ScE) (w : World) (H : SlSc w A n xs) (hn : n ≤ 1048576) {b : Bool} (hb : vsB xs n = b) (hz : ∀ k, k < n → (xs.getD k ScE.zero).f0.size ≤ 9223372036854775807) :
    Calls Try.prog 20 #[.slice A n c] w fun e w' => e = .returned (.bool b) ∧ Below w.heap.size w w' := by
  have HL := Lib.hid H.1
  have HB := Lib.hid hb
  have HZ := Lib.hid hz
  clear hb hz
  go_enter Try.func20, Try.ntmps20
  go_wp2_with fail
  go_loopw [7] (fun x wr => ∃ k : Nat, k ≤ n ∧ x = .int .i64 k ∧ Hid (∀ j, j < k → scOk xs j) ∧ Below w.heap.size w wr) (fun x _ => (n - (intOf x).toNat))
  case atStart => exact ⟨0, by omega, rfl, fun j hj => absurd hj (by omega), Below.refl _ _⟩
  case round =>
    obtain ⟨k, hk, rfl, hno, hbr⟩ := hrel
    by_cases hlt : k < n
    · have HZK := HZ.out k hlt
      have hbad : ¬ scOk xs k → b = false := fun h => by rw [← HB.out]; exact vs_false1 hlt h
      have HBAD := Lib.hid hbad
      clear hbad
      obtain ⟨bb, off, hA, hbl, hc0, hc1⟩ := (H.below hbr).get hlt
      cases h1 : lnB (xs.getD k ScE.zero).f0 1
      · have hb' : b = false := HBAD.out (fun h => by rw [h.1] at h1; cases h1)
        subst hb'; subst hA
        clear HB HBAD H
        generalize xs.getD k ScE.zero = y at *
        go_wp2_with fail
        refine wp_region_bel (by kernel_rfl) (by kernel_rfl) ?_
        repeat (go_big_quiet_step (((go_at_call 45; exact calm_same (isLetters_is h1 _ HZK)))))
        refine wpQuiet_nil ?_
        intro w2 hw'
        obtain ⟨tq, hw''⟩ := hw'
        have hw2 := tq.2
        rw [← hw''] at hw2
        clear hw'' tq
        obtain ⟨hcw2, hfw2⟩ := bcell hw2
        try (have hzw2 : w.heap.size < w2.heap.size := by (have h := hw2.size; (try simp at h); omega))
        try (have hyw2 : w.heap.size + 1 < w2.heap.size := by (have h := hw2.size; (try simp at h); omega))
        try (have hxw2 : w.heap.size + 1 + 1 < w2.heap.size := by (have h := hw2.size; (try simp at h); omega))
        try (have hvw2 : w.heap.size + 1 + 1 + 1 < w2.heap.size := by (have h := hw2.size; (try simp at h); omega))
        go_wp2
        go_ret
        refine ⟨rfl, ?_⟩
        repeat (first | exact Below.refl _ _ | refine bw_drew ?_ | refine bw_drewN ?_ _ | refine bw_set ?_ (by simp; try omega) _ | refine bw_alloc ?_ _ | refine bw_trans ?_ (by assumption) | assumption)
      cases h2 : inB (xs.getD k ScE.zero).f1 1 1000
      · have hb' : b = false := HBAD.out (fun h => by rw [h.2.1] at h2; cases h2)
        subst hb'; subst hA
        clear HB HBAD H
        generalize xs.getD k ScE.zero = y at *
        go_wp2_with fail
        refine wp_region_bel (by kernel_rfl) (by kernel_rfl) ?_
        repeat (go_big_quiet_step (((first | (go_at_call 45; exact calm_same (isLetters_is h1 _ HZK)) | (go_at_call 39; exact calm_same (within_is h2 _))))))
        refine wpQuiet_nil ?_
        intro w2 hw'
        obtain ⟨tq, hw''⟩ := hw'
        have hw2 := tq.2
        rw [← hw''] at hw2
        clear hw'' tq
        obtain ⟨hcw2, hfw2⟩ := bcell hw2
        try (have hzw2 : w.heap.size < w2.heap.size := by (have h := hw2.size; (try simp at h); omega))
        try (have hyw2 : w.heap.size + 1 < w2.heap.size := by (have h := hw2.size; (try simp at h); omega))
        try (have hxw2 : w.heap.size + 1 + 1 < w2.heap.size := by (have h := hw2.size; (try simp at h); omega))
        try (have hvw2 : w.heap.size + 1 + 1 + 1 < w2.heap.size := by (have h := hw2.size; (try simp at h); omega))
        go_wp2
        go_ret
        refine ⟨rfl, ?_⟩
        repeat (first | exact Below.refl _ _ | refine bw_drew ?_ | refine bw_drewN ?_ _ | refine bw_set ?_ (by simp; try omega) _ | refine bw_alloc ?_ _ | refine bw_trans ?_ (by assumption) | assumption)
      cases k with
      | zero =>
        have hok : scOk xs 0 := ⟨h1, h2, fun h => absurd h (by omega)⟩
        have HN := Lib.hid (show ∀ j, j < 0 + 1 → scOk xs j from fun j hj => by (have : j = 0 := by omega); subst this; exact hok)
        subst hA
        clear HB HBAD H hok
        rw [Nat.zero_mul, Nat.add_zero] at hc0
        rw [Nat.zero_mul, Nat.add_zero] at hc1
        generalize xs.getD 0 ScE.zero = y at *
        go_wp2_with fail
        refine wp_region_bel (by kernel_rfl) (by kernel_rfl) ?_
        repeat (go_big_quiet_step (((first | (go_at_call 45; exact calm_same (isLetters_is h1 _ HZK)) | (go_at_call 39; exact calm_same (within_is h2 _))))))
        refine wpQuiet_nil ?_
        intro w2 hw'
        obtain ⟨tq, hw''⟩ := hw'
        have hw2 := tq.2
        rw [← hw''] at hw2
        clear hw'' tq
        obtain ⟨hcw2, hfw2⟩ := bcell hw2
        try (have hzw2 : w.heap.size < w2.heap.size := by (have h := hw2.size; (try simp at h); omega))
        try (have hyw2 : w.heap.size + 1 < w2.heap.size := by (have h := hw2.size; (try simp at h); omega))
        try (have hxw2 : w.heap.size + 1 + 1 < w2.heap.size := by (have h := hw2.size; (try simp at h); omega))
        try (have hvw2 : w.heap.size + 1 + 1 + 1 < w2.heap.size := by (have h := hw2.size; (try simp at h); omega))
        go_wp2
        go_roundw
        case rel =>
          refine ⟨1, by omega, by go_num, HN.out, ?_⟩
          repeat (first | exact Below.refl _ _ | refine bw_drew ?_ | refine bw_drewN ?_ _ | refine bw_set ?_ (by simp; try omega) _ | refine bw_alloc ?_ _ | refine bw_trans ?_ (by assumption) | assumption)
        case measure => simp [intOf]; omega
      | succ j =>
        obtain ⟨bb', off', hA', hbl', hp0, hp1⟩ := (H.below hbr).get (k := j) (by omega)
        have hAA := hA.symm.trans hA'
        injection hAA with hAA
        injection hAA with e1 e2
        subst e1; subst e2
        by_cases h3 : (xs.getD j ScE.zero).f0 = (xs.getD (j + 1) ScE.zero).f0
        · have hb' : b = false := HBAD.out (fun h => h.2.2 (by omega) h3)
          subst hb'; subst hA
          clear HB HBAD H
          rw [h3] at hp0
          generalize xs.getD (j + 1) ScE.zero = y at *
          go_wp2_with fail
          refine wp_region_bel (by kernel_rfl) (by kernel_rfl) ?_
          repeat (go_big_quiet_step (((first | (go_at_call 45; exact calm_same (isLetters_is h1 _ HZK)) | (go_at_call 39; exact calm_same (within_is h2 _))))))
          refine wpQuiet_nil ?_
          intro w2 hw'
          obtain ⟨tq, hw''⟩ := hw'
          have hw2 := tq.2
          rw [← hw''] at hw2
          clear hw'' tq
          obtain ⟨hcw2, hfw2⟩ := bcell hw2
          try (have hzw2 : w.heap.size < w2.heap.size := by (have h := hw2.size; (try simp at h); omega))
          try (have hyw2 : w.heap.size + 1 < w2.heap.size := by (have h := hw2.size; (try simp at h); omega))
          try (have hxw2 : w.heap.size + 1 + 1 < w2.heap.size := by (have h := hw2.size; (try simp at h); omega))
          try (have hvw2 : w.heap.size + 1 + 1 + 1 < w2.heap.size := by (have h := hw2.size; (try simp at h); omega))
          go_wp2
          go_ret
          refine ⟨rfl, ?_⟩
          repeat (first | exact Below.refl _ _ | refine bw_drew ?_ | refine bw_drewN ?_ _ | refine bw_set ?_ (by simp; try omega) _ | refine bw_alloc ?_ _ | refine bw_trans ?_ (by assumption) | assumption)
        · have hok : scOk xs (j + 1) := ⟨h1, h2, fun _ => h3⟩
          have hn' : ∀ i, i < j + 1 + 1 → scOk xs i := fun i hi => by
            rcases Nat.lt_or_ge i (j + 1) with h | h
            · exact hno.out i h
            · have : i = j + 1 := by omega
              subst this; exact hok
          have HN := Lib.hid hn'
          have h3' := str_ne h3
          subst hA
          clear HB HBAD H hok hn'
          generalize xs.getD (j + 1) ScE.zero = y at *
          generalize xs.getD j ScE.zero = z at *
          go_wp2_with fail
          refine wp_region_bel (by kernel_rfl) (by kernel_rfl) ?_
          repeat (go_big_quiet_step (((first | (go_at_call 45; exact calm_same (isLetters_is h1 _ HZK)) | (go_at_call 39; exact calm_same (within_is h2 _))))))
          refine wpQuiet_nil ?_
          intro w2 hw'
          obtain ⟨tq, hw''⟩ := hw'
          have hw2 := tq.2
          rw [← hw''] at hw2
          clear hw'' tq
          obtain ⟨hcw2, hfw2⟩ := bcell hw2
          try (have hzw2 : w.heap.size < w2.heap.size := by (have h := hw2.size; (try simp at h); omega))
          try (have hyw2 : w.heap.size + 1 < w2.heap.size := by (have h := hw2.size; (try simp at h); omega))
          try (have hxw2 : w.heap.size + 1 + 1 < w2.heap.size := by (have h := hw2.size; (try simp at h); omega))
          try (have hvw2 : w.heap.size + 1 + 1 + 1 < w2.heap.size := by (have h := hw2.size; (try simp at h); omega))
          go_wp2
          go_roundw
          case rel =>
            refine ⟨j + 1 + 1, by omega, by go_num, HN.out, ?_⟩
            repeat (first | exact Below.refl _ _ | refine bw_drew ?_ | refine bw_drewN ?_ _ | refine bw_set ?_ (by simp; try omega) _ | refine bw_alloc ?_ _ | refine bw_trans ?_ (by assumption) | assumption)
          case measure => simp [intOf]; omega
    · have hkk : k = n := by omega
      subst hkk
      clear H
      by_cases h1 : 1 ≤ k
      · by_cases h2 : k ≤ 12
        · have d2 : decide ((k : Int) ≤ 12) = true := decide_eq_true (by omega)
          have hb' : b = true := by rw [← HB.out]; exact vs_true hno.out ⟨h1, h2⟩
          subst hb'
          clear HB
          go_wp2
          go_ret
          exact ⟨rfl, hbr⟩
        · have d2 : decide ((k : Int) ≤ 12) = false := decide_eq_false (by omega)
          have hb' : b = false := by rw [← HB.out]; exact vs_false2 (fun h => h2 h.2)
          subst hb'
          clear HB
          go_wp2
          go_ret
          exact ⟨rfl, hbr⟩
      · have hb' : b = false := by rw [← HB.out]; exact vs_false2 (fun h => h1 h.1)
        subst hb'
        clear HB
        go_wp2
        go_ret
        exact ⟨rfl, hbr⟩

theorem ln_size {s : ByteArray} (h : ¬ s.size = 1) : lnB s 1 = false := lnB_false2 (fun h' => h (by omega))
theorem ln_one {s : ByteArray} (h : s.size = 1) (h1 : 97 ≤ (s[0].toNat : Int)) (h2 : (s[0].toNat : Int) ≤ 122) : lnB s 1 = true :=
  lnB_true (fun k hk => by (have : k = 0 := by omega); subst this; exact ⟨h1, h2⟩) (by omega)

set_option maxHeartbeats 1600000 in
theorem l08Ok_is (A : Option Addr) (n c : Nat) (xs : List ScE) (w : World) (H : SlSc w A n xs) (hn : n ≤ 1048576) {b : Bool} (hb : vsB xs n = b) (hz : ∀ k, k < n → (xs.getD k ScE.zero).f0.size ≤ 9223372036854775807) :
    Calls Try.prog 44 #[.slice A n c] w fun e w' => e = .returned (.bool b) ∧ Below w.heap.size w w' := by
  have HL := Lib.hid H.1
  have HB := Lib.hid hb
  have HZ := Lib.hid hz
  clear hb hz
  go_enter Try.func44, Try.ntmps44
  go_wp2_with fail
  go_loopw [3] (fun x wr => ∃ k : Nat, k ≤ n ∧ x = .int .i64 k ∧ Hid (∀ j, j < k → scOk xs j) ∧ Below w.heap.size w wr) (fun x _ => (n - (intOf x).toNat))
  case atStart => exact ⟨0, by omega, rfl, fun j hj => absurd hj (by omega), Below.refl _ _⟩
  case round =>
    obtain ⟨k, hk, rfl, hno, hbr⟩ := hrel
    by_cases hlt : k < n
    · have HZK := HZ.out k hlt
      have hbad : ¬ scOk xs k → b = false := fun h => by rw [← HB.out]; exact vs_false1 hlt h
      have HBAD := Lib.hid hbad
      clear hbad
      obtain ⟨bb, off, hA, hbl, hc0, hc1⟩ := (H.below hbr).get hlt
      by_cases g1 : ¬ (xs.getD k ScE.zero).f0.size = 1
      · have hb' : b = false := HBAD.out (fun h => by have h1 := h.1; rw [ln_size g1] at h1; cases h1)
        have g1' : (((xs.getD k ScE.zero).f0.size : Int) != 1) = true := by simp only [bne_iff_ne, ne_eq]; omega
        subst hb'; subst hA
        clear HB HBAD H
        generalize xs.getD k ScE.zero = y at *
        go_wp2_with fail
        refine wp_region_bel (by kernel_rfl) (by kernel_rfl) ?_
        repeat (go_big_quiet_step ((fail)))
        refine wpQuiet_nil ?_
        intro w2 hw'
        obtain ⟨tq, hw''⟩ := hw'
        have hw2 := tq.2
        rw [← hw''] at hw2
        clear hw'' tq
        obtain ⟨hcw2, hfw2⟩ := bcell hw2
        try (have hzw2 : w.heap.size < w2.heap.size := by (have h := hw2.size; (try simp at h); omega))
        try (have hyw2 : w.heap.size + 1 < w2.heap.size := by (have h := hw2.size; (try simp at h); omega))
        try (have hxw2 : w.heap.size + 1 + 1 < w2.heap.size := by (have h := hw2.size; (try simp at h); omega))
        try (have hvw2 : w.heap.size + 1 + 1 + 1 < w2.heap.size := by (have h := hw2.size; (try simp at h); omega))
        go_wp2
        go_ret
        refine ⟨rfl, ?_⟩
        repeat (first | exact Below.refl _ _ | refine bw_drew ?_ | refine bw_drewN ?_ _ | refine bw_set ?_ (by simp; try omega) _ | refine bw_alloc ?_ _ | refine bw_trans ?_ (by assumption) | assumption)
      have g1 : (xs.getD k ScE.zero).f0.size = 1 := Decidable.not_not.1 g1
      have g0 : 0 < (xs.getD k ScE.zero).f0.size := by omega
      have g1' : (((xs.getD k ScE.zero).f0.size : Int) != 1) = false := by rw [g1]; rfl
      by_cases g2 : 97 ≤ ((xs.getD k ScE.zero).f0[0].toNat : Int)
      case neg =>
        have d2 : decide (((xs.getD k ScE.zero).f0[0].toNat : Int) < 97) = true := decide_eq_true (by omega)
        have hb' : b = false := HBAD.out (fun h => g2 ((lnB_of h.1).1 0 g0).1)
        subst hb'; subst hA
        clear HB HBAD H
        generalize xs.getD k ScE.zero = y at *
        go_wp2_with fail
        refine wp_region_bel (by kernel_rfl) (by kernel_rfl) ?_
        repeat (go_big_quiet_step ((fail)))
        refine wpQuiet_nil ?_
        intro w2 hw'
        obtain ⟨tq, hw''⟩ := hw'
        have hw2 := tq.2
        rw [← hw''] at hw2
        clear hw'' tq
        obtain ⟨hcw2, hfw2⟩ := bcell hw2
        try (have hzw2 : w.heap.size < w2.heap.size := by (have h := hw2.size; (try simp at h); omega))
        try (have hyw2 : w.heap.size + 1 < w2.heap.size := by (have h := hw2.size; (try simp at h); omega))
        try (have hxw2 : w.heap.size + 1 + 1 < w2.heap.size := by (have h := hw2.size; (try simp at h); omega))
        try (have hvw2 : w.heap.size + 1 + 1 + 1 < w2.heap.size := by (have h := hw2.size; (try simp at h); omega))
        go_wp2
        go_ret
        refine ⟨rfl, ?_⟩
        repeat (first | exact Below.refl _ _ | refine bw_drew ?_ | refine bw_drewN ?_ _ | refine bw_set ?_ (by simp; try omega) _ | refine bw_alloc ?_ _ | refine bw_trans ?_ (by assumption) | assumption)
      have d2 : decide (((xs.getD k ScE.zero).f0[0].toNat : Int) < 97) = false := decide_eq_false (by omega)
      by_cases g3 : ((xs.getD k ScE.zero).f0[0].toNat : Int) ≤ 122
      case neg =>
        have d3 : decide (122 < ((xs.getD k ScE.zero).f0[0].toNat : Int)) = true := decide_eq_true (by omega)
        have hb' : b = false := HBAD.out (fun h => g3 ((lnB_of h.1).1 0 g0).2)
        subst hb'; subst hA
        clear HB HBAD H
        generalize xs.getD k ScE.zero = y at *
        go_wp2_with fail
        refine wp_region_bel (by kernel_rfl) (by kernel_rfl) ?_
        repeat (go_big_quiet_step ((fail)))
        refine wpQuiet_nil ?_
        intro w2 hw'
        obtain ⟨tq, hw''⟩ := hw'
        have hw2 := tq.2
        rw [← hw''] at hw2
        clear hw'' tq
        obtain ⟨hcw2, hfw2⟩ := bcell hw2
        try (have hzw2 : w.heap.size < w2.heap.size := by (have h := hw2.size; (try simp at h); omega))
        try (have hyw2 : w.heap.size + 1 < w2.heap.size := by (have h := hw2.size; (try simp at h); omega))
        try (have hxw2 : w.heap.size + 1 + 1 < w2.heap.size := by (have h := hw2.size; (try simp at h); omega))
        try (have hvw2 : w.heap.size + 1 + 1 + 1 < w2.heap.size := by (have h := hw2.size; (try simp at h); omega))
        go_wp2
        go_ret
        refine ⟨rfl, ?_⟩
        repeat (first | exact Below.refl _ _ | refine bw_drew ?_ | refine bw_drewN ?_ _ | refine bw_set ?_ (by simp; try omega) _ | refine bw_alloc ?_ _ | refine bw_trans ?_ (by assumption) | assumption)
      have d3 : decide (122 < ((xs.getD k ScE.zero).f0[0].toNat : Int)) = false := decide_eq_false (by omega)
      have h1 : lnB (xs.getD k ScE.zero).f0 1 = true := ln_one g1 g2 g3
      cases h2 : inB (xs.getD k ScE.zero).f1 1 1000
      case false =>
        have hb' : b = false := HBAD.out (fun h => by rw [h.2.1] at h2; cases h2)
        subst hb'; subst hA
        clear HB HBAD H
        generalize xs.getD k ScE.zero = y at *
        have e3 : decide (122 < (y.f0[0].toNat : Int)) = false := decide_eq_false (by omega)
        have e2 : decide ((y.f0[0].toNat : Int) < 97) = false := decide_eq_false (by omega)
        obtain ⟨q, hq⟩ : ∃ q : Int, (y.f0[0].toNat : Int) = q := ⟨_, rfl⟩
        rw [hq] at e2 e3 g2 g3
        clear d2 d3
        go_wp2_with fail
        have e4 : ¬ (122 < q) := by omega
        have e5 : ¬ (q < 97) := by omega
        refine wp_region_bel (by kernel_rfl) (by kernel_rfl) ?_
        repeat (go_big_quiet_step (((go_at_call 37; exact calm_same (l00In_is h2 _)))))
        refine wpQuiet_nil ?_
        intro w2 hw'
        obtain ⟨tq, hw''⟩ := hw'
        have hw2 := tq.2
        rw [← hw''] at hw2
        clear hw'' tq
        obtain ⟨hcw2, hfw2⟩ := bcell hw2
        try (have hzw2 : w.heap.size < w2.heap.size := by (have h := hw2.size; (try simp at h); omega))
        try (have hyw2 : w.heap.size + 1 < w2.heap.size := by (have h := hw2.size; (try simp at h); omega))
        try (have hxw2 : w.heap.size + 1 + 1 < w2.heap.size := by (have h := hw2.size; (try simp at h); omega))
        try (have hvw2 : w.heap.size + 1 + 1 + 1 < w2.heap.size := by (have h := hw2.size; (try simp at h); omega))
        go_wp2
        go_ret
        refine ⟨rfl, ?_⟩
        repeat (first | exact Below.refl _ _ | refine bw_drew ?_ | refine bw_drewN ?_ _ | refine bw_set ?_ (by simp; try omega) _ | refine bw_alloc ?_ _ | refine bw_trans ?_ (by assumption) | assumption)
      cases k with
      | zero =>
        have hok : scOk xs 0 := ⟨h1, h2, fun h => absurd h (by omega)⟩
        have HN := Lib.hid (show ∀ j, j < 0 + 1 → scOk xs j from fun j hj => by (have : j = 0 := by omega); subst this; exact hok)
        subst hA
        clear HB HBAD H hok
        rw [Nat.zero_mul, Nat.add_zero] at hc0
        rw [Nat.zero_mul, Nat.add_zero] at hc1
        generalize xs.getD 0 ScE.zero = y at *
        have e3 : decide (122 < (y.f0[0].toNat : Int)) = false := decide_eq_false (by omega)
        have e2 : decide ((y.f0[0].toNat : Int) < 97) = false := decide_eq_false (by omega)
        obtain ⟨q, hq⟩ : ∃ q : Int, (y.f0[0].toNat : Int) = q := ⟨_, rfl⟩
        rw [hq] at e2 e3 g2 g3
        clear d2 d3
        go_wp2_with fail
        have e4 : ¬ (122 < q) := by omega
        have e5 : ¬ (q < 97) := by omega
        refine wp_region_bel (by kernel_rfl) (by kernel_rfl) ?_
        repeat (go_big_quiet_step (((go_at_call 37; exact calm_same (l00In_is h2 _)))))
        refine wpQuiet_nil ?_
        intro w2 hw'
        obtain ⟨tq, hw''⟩ := hw'
        have hw2 := tq.2
        rw [← hw''] at hw2
        clear hw'' tq
        obtain ⟨hcw2, hfw2⟩ := bcell hw2
        try (have hzw2 : w.heap.size < w2.heap.size := by (have h := hw2.size; (try simp at h); omega))
        try (have hyw2 : w.heap.size + 1 < w2.heap.size := by (have h := hw2.size; (try simp at h); omega))
        try (have hxw2 : w.heap.size + 1 + 1 < w2.heap.size := by (have h := hw2.size; (try simp at h); omega))
        try (have hvw2 : w.heap.size + 1 + 1 + 1 < w2.heap.size := by (have h := hw2.size; (try simp at h); omega))
        go_wp2
        go_roundw
        case rel =>
          refine ⟨1, by omega, by go_num, HN.out, ?_⟩
          repeat (first | exact Below.refl _ _ | refine bw_drew ?_ | refine bw_drewN ?_ _ | refine bw_set ?_ (by simp; try omega) _ | refine bw_alloc ?_ _ | refine bw_trans ?_ (by assumption) | assumption)
        case measure => simp [intOf]; omega
      | succ j =>
        obtain ⟨bb', off', hA', hbl', hp0, hp1⟩ := (H.below hbr).get (k := j) (by omega)
        have hAA := hA.symm.trans hA'
        injection hAA with hAA
        injection hAA with e1 e2
        subst e1; subst e2
        by_cases h3 : (xs.getD j ScE.zero).f0 = (xs.getD (j + 1) ScE.zero).f0
        · have hb' : b = false := HBAD.out (fun h => h.2.2 (by omega) h3)
          subst hb'; subst hA
          clear HB HBAD H
          rw [h3] at hp0
          generalize xs.getD (j + 1) ScE.zero = y at *
          have e3 : decide (122 < (y.f0[0].toNat : Int)) = false := decide_eq_false (by omega)
          have e2 : decide ((y.f0[0].toNat : Int) < 97) = false := decide_eq_false (by omega)
          obtain ⟨q, hq⟩ : ∃ q : Int, (y.f0[0].toNat : Int) = q := ⟨_, rfl⟩
          rw [hq] at e2 e3 g2 g3
          clear d2 d3
          go_wp2_with fail
          have e4 : ¬ (122 < q) := by omega
          have e5 : ¬ (q < 97) := by omega
          refine wp_region_bel (by kernel_rfl) (by kernel_rfl) ?_
          repeat (go_big_quiet_step (((go_at_call 37; exact calm_same (l00In_is h2 _)))))
          refine wpQuiet_nil ?_
          intro w2 hw'
          obtain ⟨tq, hw''⟩ := hw'
          have hw2 := tq.2
          rw [← hw''] at hw2
          clear hw'' tq
          obtain ⟨hcw2, hfw2⟩ := bcell hw2
          try (have hzw2 : w.heap.size < w2.heap.size := by (have h := hw2.size; (try simp at h); omega))
          try (have hyw2 : w.heap.size + 1 < w2.heap.size := by (have h := hw2.size; (try simp at h); omega))
          try (have hxw2 : w.heap.size + 1 + 1 < w2.heap.size := by (have h := hw2.size; (try simp at h); omega))
          try (have hvw2 : w.heap.size + 1 + 1 + 1 < w2.heap.size := by (have h := hw2.size; (try simp at h); omega))
          go_wp2
          go_ret
          refine ⟨rfl, ?_⟩
          repeat (first | exact Below.refl _ _ | refine bw_drew ?_ | refine bw_drewN ?_ _ | refine bw_set ?_ (by simp; try omega) _ | refine bw_alloc ?_ _ | refine bw_trans ?_ (by assumption) | assumption)
        · have hok : scOk xs (j + 1) := ⟨h1, h2, fun _ => h3⟩
          have hn' : ∀ i, i < j + 1 + 1 → scOk xs i := fun i hi => by
            rcases Nat.lt_or_ge i (j + 1) with h | h
            · exact hno.out i h
            · have : i = j + 1 := by omega
              subst this; exact hok
          have HN := Lib.hid hn'
          have h3' := str_ne h3
          subst hA
          clear HB HBAD H hok hn'
          generalize xs.getD (j + 1) ScE.zero = y at *
          have e3 : decide (122 < (y.f0[0].toNat : Int)) = false := decide_eq_false (by omega)
          have e2 : decide ((y.f0[0].toNat : Int) < 97) = false := decide_eq_false (by omega)
          obtain ⟨q, hq⟩ : ∃ q : Int, (y.f0[0].toNat : Int) = q := ⟨_, rfl⟩
          rw [hq] at e2 e3 g2 g3
          clear d2 d3
          generalize xs.getD j ScE.zero = z at *
          go_wp2_with fail
          have e4 : ¬ (122 < q) := by omega
          have e5 : ¬ (q < 97) := by omega
          refine wp_region_bel (by kernel_rfl) (by kernel_rfl) ?_
          repeat (go_big_quiet_step (((go_at_call 37; exact calm_same (l00In_is h2 _)))))
          refine wpQuiet_nil ?_
          intro w2 hw'
          obtain ⟨tq, hw''⟩ := hw'
          have hw2 := tq.2
          rw [← hw''] at hw2
          clear hw'' tq
          obtain ⟨hcw2, hfw2⟩ := bcell hw2
          try (have hzw2 : w.heap.size < w2.heap.size := by (have h := hw2.size; (try simp at h); omega))
          try (have hyw2 : w.heap.size + 1 < w2.heap.size := by (have h := hw2.size; (try simp at h); omega))
          try (have hxw2 : w.heap.size + 1 + 1 < w2.heap.size := by (have h := hw2.size; (try simp at h); omega))
          try (have hvw2 : w.heap.size + 1 + 1 + 1 < w2.heap.size := by (have h := hw2.size; (try simp at h); omega))
          go_wp2
          go_roundw
          case rel =>
            refine ⟨j + 1 + 1, by omega, by go_num, HN.out, ?_⟩
            repeat (first | exact Below.refl _ _ | refine bw_drew ?_ | refine bw_drewN ?_ _ | refine bw_set ?_ (by simp; try omega) _ | refine bw_alloc ?_ _ | refine bw_trans ?_ (by assumption) | assumption)
          case measure => simp [intOf]; omega
    · have hkk : k = n := by omega
      subst hkk
      clear H
      have hbb : inB (k : Int) 1 12 = b := by
        rw [← HB.out]
        cases h : inB (k : Int) 1 12
        · exact (vs_false2 (fun h' => by rw [inB_true.2 (by omega)] at h; cases h)).symm
        · exact (vs_true hno.out (by have := inB_true.1 h; omega)).symm
      clear HB
      go_wp2_with (go_at_call 37; refine (l00In_is hbb _).mono ?_; rintro e w1 ⟨rfl, rfl⟩)
      go_ret
      exact ⟨rfl, hbr⟩
end Go.Proofs.Ytnjndlngkoadfaa
