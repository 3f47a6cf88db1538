/-
  SameScenes: in the program and in the reference; the law.
-/
import Derived.Test.YtnjndlngkoadfaaPe
import Derived.Laws.StructEq
namespace Go.Proofs.Ytnjndlngkoadfaa
open Go.RowKit

noncomputable def sameB (xs ys : List ScE) : Bool := @decide (xs = ys) (Classical.propDecidable _)
theorem same_true {xs ys : List ScE} (h : xs = ys) : sameB xs ys = true := by unfold sameB; exact @decide_eq_true _ (Classical.propDecidable _) h
theorem same_false {xs ys : List ScE} (h : ¬ xs = ys) : sameB xs ys = false := by unfold sameB; exact @decide_eq_false _ (Classical.propDecidable _) h
theorem sc_ext {x y : ScE} (h0 : x.f0 = y.f0) (h1 : x.f1 = y.f1) : x = y := by cases x; cases y; simp_all
theorem str_eq {a b : ByteArray} (h : a = b) : (a.toList == b.toList) = true := by rw [h]; simp
theorem same_of {xs ys : List ScE} {n : Nat} (hx : xs.length = n) (hy : ys.length = n) (h : ∀ k, k < n → xs.getD k ScE.zero = ys.getD k ScE.zero) : xs = ys := by
  apply List.ext_getElem (by omega)
  intro i h1 h2
  have := h i (by omega)
  rwa [ggetD_lt h1, ggetD_lt h2] at this

set_option maxHeartbeats 800000 in
theorem slEqual_is (A B : Option Addr) (n m c d : Nat) (xs ys : List ScE) (w : World) (HA : SlSc w A n xs) (HB : SlSc w B m ys) (hn : n ≤ 1048576) (hm : m ≤ 1048576) {b : Bool} (hb : sameB xs ys = b) :
    Calls Try.prog 42 #[.slice A n c, .slice B m d] w fun e w' => e = .returned (.bool b) ∧ Below w.heap.size w w' := by
  have HLA := Lib.hid HA.1
  have HLB := Lib.hid HB.1
  have HS := Lib.hid hb
  clear hb
  by_cases hnm : n = m
  case neg =>
    have hb' : b = false := by rw [← HS.out]; exact same_false fun e => hnm (by rw [← HLA.out, ← HLB.out, e])
    subst hb'
    have hne : ((n : Int) != (m : Int)) = true := by simp only [bne_iff_ne, ne_eq]; omega
    clear HA HB HS
    go_enter Try.func42, Try.ntmps42
    go_wp2
    go_ret
    refine ⟨rfl, ?_⟩
    repeat (first | exact Below.refl _ _ | refine bw_drew ?_ | refine bw_drewN ?_ _ | refine bw_set ?_ (by simp; try omega) _ | refine bw_alloc ?_ _ | refine bw_trans ?_ (by assumption) | assumption)
  subst hnm
  have hne : ((n : Int) != (n : Int)) = false := by simp
  have hst : Try.prog.stoodInHeld 51 = false := by kernel_rfl
  have hgt : Try.prog.eqGuardType Try.prog.depth 51 = false := by kernel_rfl
  have hun := Try.underlying51
  go_enter Try.func42, Try.ntmps42
  go_wp2_with fail
  go_loopw [13] (fun x wr => ∃ k : Nat, k ≤ n ∧ x = .int .i64 k ∧ Hid (∀ j, j < k → xs.getD j ScE.zero = ys.getD j ScE.zero) ∧ Below w.heap.size w wr) (fun x _ => (n - (intOf x).toNat))
  case atStart => exact ⟨0, by omega, rfl, fun j hj => absurd hj (by omega), Below.refl _ _⟩
  case round =>
    obtain ⟨k, hk, rfl, hno, hbr⟩ := hrel
    by_cases hlt : k < n
    · obtain ⟨bb, off, rfl, hbl, hc0, hc1⟩ := (HA.below hbr).get hlt
      obtain ⟨bb', off', rfl, hbl', hd0, hd1⟩ := (HB.below hbr).get hlt
      clear HA HB
      by_cases h0 : (xs.getD k ScE.zero).f0 = (ys.getD k ScE.zero).f0
      case neg =>
        have hb' : b = false := by rw [← HS.out]; exact same_false fun e => h0 (by rw [e])
        subst hb'
        have e0 := str_ne h0
        clear HS
        generalize xs.getD k ScE.zero = x at *
        generalize ys.getD k ScE.zero = y at *
        go_wp2_with fail
        refine wp_region_bel (by kernel_rfl) (by kernel_rfl) ?_
        repeat (go_big_quiet_step ((fail)))
        refine wpQuiet_nil ?_
        intro w2 hw'
        obtain ⟨tq, hw''⟩ := hw'
        have hw2 := tq.2
        rw [← hw''] at hw2
        clear hw'' tq
        obtain ⟨hcw2, hfw2⟩ := bcell hw2
        try (have hzw2 : w.heap.size < w2.heap.size := by (have h := hw2.size; (try simp at h); omega))
        try (have hyw2 : w.heap.size + 1 < w2.heap.size := by (have h := hw2.size; (try simp at h); omega))
        try (have hxw2 : w.heap.size + 1 + 1 < w2.heap.size := by (have h := hw2.size; (try simp at h); omega))
        try (have hvw2 : w.heap.size + 1 + 1 + 1 < w2.heap.size := by (have h := hw2.size; (try simp at h); omega))
        go_wp2
        go_ret
        refine ⟨rfl, ?_⟩
        repeat (first | exact Below.refl _ _ | refine bw_drew ?_ | refine bw_drewN ?_ _ | refine bw_set ?_ (by simp; try omega) _ | refine bw_alloc ?_ _ | refine bw_trans ?_ (by assumption) | assumption)
      by_cases h1 : (xs.getD k ScE.zero).f1 = (ys.getD k ScE.zero).f1
      case neg =>
        have hb' : b = false := by rw [← HS.out]; exact same_false fun e => h1 (by rw [e])
        subst hb'
        have e0 := str_eq h0
        have e1 : ((xs.getD k ScE.zero).f1 == (ys.getD k ScE.zero).f1) = false := by simpa using h1
        clear HS h0
        generalize xs.getD k ScE.zero = x at *
        generalize ys.getD k ScE.zero = y at *
        go_wp2_with fail
        refine wp_region_bel (by kernel_rfl) (by kernel_rfl) ?_
        repeat (go_big_quiet_step ((fail)))
        refine wpQuiet_nil ?_
        intro w2 hw'
        obtain ⟨tq, hw''⟩ := hw'
        have hw2 := tq.2
        rw [← hw''] at hw2
        clear hw'' tq
        obtain ⟨hcw2, hfw2⟩ := bcell hw2
        try (have hzw2 : w.heap.size < w2.heap.size := by (have h := hw2.size; (try simp at h); omega))
        try (have hyw2 : w.heap.size + 1 < w2.heap.size := by (have h := hw2.size; (try simp at h); omega))
        try (have hxw2 : w.heap.size + 1 + 1 < w2.heap.size := by (have h := hw2.size; (try simp at h); omega))
        try (have hvw2 : w.heap.size + 1 + 1 + 1 < w2.heap.size := by (have h := hw2.size; (try simp at h); omega))
        go_wp2
        go_ret
        refine ⟨rfl, ?_⟩
        repeat (first | exact Below.refl _ _ | refine bw_drew ?_ | refine bw_drewN ?_ _ | refine bw_set ?_ (by simp; try omega) _ | refine bw_alloc ?_ _ | refine bw_trans ?_ (by assumption) | assumption)
      have hn' : ∀ i, i < k + 1 → xs.getD i ScE.zero = ys.getD i ScE.zero := fun i hi => by
        rcases Nat.lt_or_ge i k with h | h
        · exact hno.out i h
        · have : i = k := by omega
          subst this; exact sc_ext h0 h1
      have HN := Lib.hid hn'
      have e0 := str_eq h0
      have e1 : ((xs.getD k ScE.zero).f1 == (ys.getD k ScE.zero).f1) = true := by simpa using h1
      clear hn' h0 h1
      generalize xs.getD k ScE.zero = x at *
      generalize ys.getD k ScE.zero = y at *
      go_wp2_with fail
      refine wp_region_bel (by kernel_rfl) (by kernel_rfl) ?_
      repeat (go_big_quiet_step ((fail)))
      refine wpQuiet_nil ?_
      intro w2 hw'
      obtain ⟨tq, hw''⟩ := hw'
      have hw2 := tq.2
      rw [← hw''] at hw2
      clear hw'' tq
      obtain ⟨hcw2, hfw2⟩ := bcell hw2
      try (have hzw2 : w.heap.size < w2.heap.size := by (have h := hw2.size; (try simp at h); omega))
      try (have hyw2 : w.heap.size + 1 < w2.heap.size := by (have h := hw2.size; (try simp at h); omega))
      try (have hxw2 : w.heap.size + 1 + 1 < w2.heap.size := by (have h := hw2.size; (try simp at h); omega))
      try (have hvw2 : w.heap.size + 1 + 1 + 1 < w2.heap.size := by (have h := hw2.size; (try simp at h); omega))
      go_wp2
      go_roundw
      case rel =>
        refine ⟨k + 1, by omega, by go_num, HN.out, ?_⟩
        repeat (first | exact Below.refl _ _ | refine bw_drew ?_ | refine bw_drewN ?_ _ | refine bw_set ?_ (by simp; try omega) _ | refine bw_alloc ?_ _ | refine bw_trans ?_ (by assumption) | assumption)
      case measure => simp [intOf]; omega
    · have hkk : k = n := by omega
      subst hkk
      have hb' : b = true := by rw [← HS.out]; exact same_true (same_of HLA.out HLB.out hno.out)
      subst hb'
      clear HA HB HS
      go_wp2
      go_ret
      exact ⟨rfl, hbr⟩

set_option maxHeartbeats 800000 in
theorem sSameScenes_is (A B : Option Addr) (n m c d : Nat) (xs ys : List ScE) (w : World) (HA : SlSc w A n xs) (HB : SlSc w B m ys) (hn : n ≤ 1048576) (hm : m ≤ 1048576) {b : Bool} (hb : sameB xs ys = b) :
    Calls Try.prog 15 #[.slice A n c, .slice B m d] w fun e w' => e = .returned (.bool b) ∧ Below w.heap.size w w' := by
  have HLA := Lib.hid HA.1
  have HLB := Lib.hid HB.1
  have HS := Lib.hid hb
  clear hb
  by_cases hnm : n = m
  case neg =>
    have hb' : b = false := by rw [← HS.out]; exact same_false fun e => hnm (by rw [← HLA.out, ← HLB.out, e])
    subst hb'
    have hne : ((n : Int) != (m : Int)) = true := by simp only [bne_iff_ne, ne_eq]; omega
    clear HA HB HS
    go_enter Try.func15, Try.ntmps15
    go_wp2
    go_ret
    refine ⟨rfl, ?_⟩
    repeat (first | exact Below.refl _ _ | refine bw_drew ?_ | refine bw_drewN ?_ _ | refine bw_set ?_ (by simp; try omega) _ | refine bw_alloc ?_ _ | refine bw_trans ?_ (by assumption) | assumption)
  subst hnm
  have hne : ((n : Int) != (n : Int)) = false := by simp
  have hst : Try.prog.stoodInHeld 51 = false := by kernel_rfl
  have hgt : Try.prog.eqGuardType Try.prog.depth 51 = false := by kernel_rfl
  have hun := Try.underlying51
  go_enter Try.func15, Try.ntmps15
  go_wp2_with fail
  go_loopw [5] (fun x wr => ∃ k : Nat, k ≤ n ∧ x = .int .i64 k ∧ Hid (∀ j, j < k → xs.getD j ScE.zero = ys.getD j ScE.zero) ∧ Below w.heap.size w wr) (fun x _ => (n - (intOf x).toNat))
  case atStart => exact ⟨0, by omega, rfl, fun j hj => absurd hj (by omega), Below.refl _ _⟩
  case round =>
    obtain ⟨k, hk, rfl, hno, hbr⟩ := hrel
    by_cases hlt : k < n
    · obtain ⟨bb, off, rfl, hbl, hc0, hc1⟩ := (HA.below hbr).get hlt
      obtain ⟨bb', off', rfl, hbl', hd0, hd1⟩ := (HB.below hbr).get hlt
      clear HA HB
      by_cases h0 : (xs.getD k ScE.zero).f0 = (ys.getD k ScE.zero).f0
      case neg =>
        have hb' : b = false := by rw [← HS.out]; exact same_false fun e => h0 (by rw [e])
        subst hb'
        have e0 := str_ne h0
        clear HS
        generalize xs.getD k ScE.zero = x at *
        generalize ys.getD k ScE.zero = y at *
        go_wp2_with fail
        refine wp_region_bel (by kernel_rfl) (by kernel_rfl) ?_
        repeat (go_big_quiet_step ((fail)))
        refine wpQuiet_nil ?_
        intro w2 hw'
        obtain ⟨tq, hw''⟩ := hw'
        have hw2 := tq.2
        rw [← hw''] at hw2
        clear hw'' tq
        obtain ⟨hcw2, hfw2⟩ := bcell hw2
        try (have hzw2 : w.heap.size < w2.heap.size := by (have h := hw2.size; (try simp at h); omega))
        try (have hyw2 : w.heap.size + 1 < w2.heap.size := by (have h := hw2.size; (try simp at h); omega))
        try (have hxw2 : w.heap.size + 1 + 1 < w2.heap.size := by (have h := hw2.size; (try simp at h); omega))
        try (have hvw2 : w.heap.size + 1 + 1 + 1 < w2.heap.size := by (have h := hw2.size; (try simp at h); omega))
        go_wp2
        go_ret
        refine ⟨rfl, ?_⟩
        repeat (first | exact Below.refl _ _ | refine bw_drew ?_ | refine bw_drewN ?_ _ | refine bw_set ?_ (by simp; try omega) _ | refine bw_alloc ?_ _ | refine bw_trans ?_ (by assumption) | assumption)
      by_cases h1 : (xs.getD k ScE.zero).f1 = (ys.getD k ScE.zero).f1
      case neg =>
        have hb' : b = false := by rw [← HS.out]; exact same_false fun e => h1 (by rw [e])
        subst hb'
        have e0 := str_eq h0
        have e1 : ((xs.getD k ScE.zero).f1 == (ys.getD k ScE.zero).f1) = false := by simpa using h1
        clear HS h0
        generalize xs.getD k ScE.zero = x at *
        generalize ys.getD k ScE.zero = y at *
        go_wp2_with fail
        refine wp_region_bel (by kernel_rfl) (by kernel_rfl) ?_
        repeat (go_big_quiet_step ((fail)))
        refine wpQuiet_nil ?_
        intro w2 hw'
        obtain ⟨tq, hw''⟩ := hw'
        have hw2 := tq.2
        rw [← hw''] at hw2
        clear hw'' tq
        obtain ⟨hcw2, hfw2⟩ := bcell hw2
        try (have hzw2 : w.heap.size < w2.heap.size := by (have h := hw2.size; (try simp at h); omega))
        try (have hyw2 : w.heap.size + 1 < w2.heap.size := by (have h := hw2.size; (try simp at h); omega))
        try (have hxw2 : w.heap.size + 1 + 1 < w2.heap.size := by (have h := hw2.size; (try simp at h); omega))
        try (have hvw2 : w.heap.size + 1 + 1 + 1 < w2.heap.size := by (have h := hw2.size; (try simp at h); omega))
        go_wp2
        go_ret
        refine ⟨rfl, ?_⟩
        repeat (first | exact Below.refl _ _ | refine bw_drew ?_ | refine bw_drewN ?_ _ | refine bw_set ?_ (by simp; try omega) _ | refine bw_alloc ?_ _ | refine bw_trans ?_ (by assumption) | assumption)
      have hn' : ∀ i, i < k + 1 → xs.getD i ScE.zero = ys.getD i ScE.zero := fun i hi => by
        rcases Nat.lt_or_ge i k with h | h
        · exact hno.out i h
        · have : i = k := by omega
          subst this; exact sc_ext h0 h1
      have HN := Lib.hid hn'
      have e0 := str_eq h0
      have e1 : ((xs.getD k ScE.zero).f1 == (ys.getD k ScE.zero).f1) = true := by simpa using h1
      clear hn' h0 h1
      generalize xs.getD k ScE.zero = x at *
      generalize ys.getD k ScE.zero = y at *
      go_wp2_with fail
      refine wp_region_bel (by kernel_rfl) (by kernel_rfl) ?_
      repeat (go_big_quiet_step ((fail)))
      refine wpQuiet_nil ?_
      intro w2 hw'
      obtain ⟨tq, hw''⟩ := hw'
      have hw2 := tq.2
      rw [← hw''] at hw2
      clear hw'' tq
      obtain ⟨hcw2, hfw2⟩ := bcell hw2
      try (have hzw2 : w.heap.size < w2.heap.size := by (have h := hw2.size; (try simp at h); omega))
      try (have hyw2 : w.heap.size + 1 < w2.heap.size := by (have h := hw2.size; (try simp at h); omega))
      try (have hxw2 : w.heap.size + 1 + 1 < w2.heap.size := by (have h := hw2.size; (try simp at h); omega))
      try (have hvw2 : w.heap.size + 1 + 1 + 1 < w2.heap.size := by (have h := hw2.size; (try simp at h); omega))
      go_wp2
      go_roundw
      case rel =>
        refine ⟨k + 1, by omega, by go_num, HN.out, ?_⟩
        repeat (first | exact Below.refl _ _ | refine bw_drew ?_ | refine bw_drewN ?_ _ | refine bw_set ?_ (by simp; try omega) _ | refine bw_alloc ?_ _ | refine bw_trans ?_ (by assumption) | assumption)
      case measure => simp [intOf]; omega
    · have hkk : k = n := by omega
      subst hkk
      have hb' : b = true := by rw [← HS.out]; exact same_true (same_of HLA.out HLB.out hno.out)
      subst hb'
      clear HA HB HS
      go_wp2
      go_ret
      exact ⟨rfl, hbr⟩

theorem iSameScenes_is (A B : Option Addr) (n m c d : Nat) (xs ys : List ScE) (w : World) (HA : SlSc w A n xs) (HB : SlSc w B m ys) (hn : n ≤ 1048576) (hm : m ≤ 1048576) {b : Bool} (hb : sameB xs ys = b) :
    Calls Try.prog 17 #[.slice A n c, .slice B m d] w fun e w' => e = .returned (.bool b) ∧ Below w.heap.size w w' := by
  have hc := fun W => slEqual_is A B n m c d xs ys W
  go_enter Try.func17, Try.ntmps17
  go_wp2_with fail
  refine (hc _ HA HB hn hm hb).mono ?_
  rintro e w1 ⟨rfl, hb1⟩
  go_wp2
  go_ret
  exact ⟨rfl, hb1⟩
def szQ (z : Int) (xs : List ScE) (n : Nat) : Int := if z - (n : Int) - szT xs n < 0 then -1 else z - (n : Int) - szT xs n
set_option maxHeartbeats 800000 in
theorem Scszq_any (z : Int) (A : Option Addr) (n c : Nat) (xs : List ScE) (w : World) (H : SlSc w A n xs) (hn : (n : Int) ≤ z) (hz9 : z ≤ 1048576) (hz : ∀ k, k < n → (xs.getD k ScE.zero).f0.size ≤ 9223372036854775807) :
    Calls Try.prog 14 #[.slice A n c, .int .i64 z] w fun e w' => e = .returned (.int .i64 (szQ z xs n)) ∧ Below w.heap.size w w' := by
  have HZ := Lib.hid hz
  have h0 : ¬ (z - (n : Int)) < 0 := by omega
  clear hz
  go_enter Try.func14, Try.ntmps14
  go_wp2_with fail
  go_loopw [1, 5] (fun x y wr => ∃ k : Nat, ∃ q : Int, k ≤ n ∧ x = .int .i64 q ∧ y = .int .i64 k ∧ Hid (q = z - (n : Int) - szT xs k) ∧ (0 ≤ q ∧ q ≤ 1048576) ∧ Below w.heap.size w wr) (fun _ y _ => (n - (intOf y).toNat))
  case atStart => exact ⟨0, _, by omega, rfl, rfl, (by show _ = _ - (0 : Int); omega), ⟨by omega, by omega⟩, Below.refl _ _⟩
  case round =>
    obtain ⟨k, q, hk, rfl, rfl, hq, ⟨q1, q2⟩, hbr⟩ := hrel
    by_cases hlt : k < n
    · obtain ⟨b, off, rfl, hbl, hc0, hc1⟩ := (H.below hbr).get hlt
      have hs := HZ.out k hlt
      have hm := szT_mono xs (show k + 1 ≤ n by omega)
      have hT : szT xs (k + 1) = szT xs k + ((xs.getD k ScE.zero).f0.size : Int) := rfl
      clear H
      generalize xs.getD k ScE.zero = y at *
      by_cases hl : q - (y.f0.size : Int) < 0
      · have HR := Lib.hid (show szQ z xs n = -1 from if_pos (by have := hq.out; omega))
        have hc := szScene_any y.f0 y.f1 q wr hs ⟨q1, q2⟩
        rw [if_pos hl] at hc
        clear hm hT
        go_wp2_with fail
        refine hc.mono ?_
        rintro e w1 ⟨rfl, hb1⟩
        go_wp2
        go_ret
        exact ⟨ret_int HR.out.symm, bw_trans hbr hb1⟩
      · have HQ := Lib.hid (show q - (y.f0.size : Int) = z - (n : Int) - szT xs (k + 1) by have := hq.out; omega)
        have hc := szScene_any y.f0 y.f1 q wr hs ⟨q1, q2⟩
        rw [if_neg hl] at hc
        clear hm hT
        go_wp2_with fail
        refine hc.mono ?_
        rintro e w1 ⟨rfl, hb1⟩
        go_wp2_with fail
        go_roundw
        case rel => exact ⟨k + 1, _, by omega, rfl, by go_num, HQ.out, ⟨by omega, by omega⟩, bw_trans hbr hb1⟩
        case measure => simp [intOf]; omega
    · have hkk : k = n := by omega
      subst hkk
      have HR := Lib.hid (show szQ z xs k = q from by unfold szQ; rw [if_neg (by have := hq.out; omega)]; exact hq.out.symm)
      clear H
      go_wp2
      go_ret
      exact ⟨ret_int HR.out.symm, hbr⟩

theorem ScszqNo_any (z : Int) (A : Option Addr) (l c : Nat) (w : World) (hm : l ≤ 9223372036854775807) (hz0 : 0 ≤ z) (hz9 : z ≤ 1048576) (hl : ¬ (l : Int) ≤ z) :
    Calls Try.prog 14 #[.slice A l c, .int .i64 z] w fun e w' => e = .returned (.int .i64 (-1)) ∧ Below w.heap.size w w' := by
  have h1 : (z - (l : Int)) < 0 := by omega
  go_enter Try.func14, Try.ntmps14
  go_wp2
  go_ret
  refine ⟨rfl, ?_⟩
  repeat (first | exact Below.refl _ _ | refine bw_drew ?_ | refine bw_drewN ?_ _ | refine bw_set ?_ (by simp; try omega) _ | refine bw_alloc ?_ _ | refine bw_trans ?_ (by assumption) | assumption)
theorem szR_bd {xs : List ScE} {n : Nat} : szR xs n ≤ 1048576 := by unfold szR; have := szT_nonneg xs n; split <;> omega

set_option maxRecDepth 100000 in
set_option maxHeartbeats 1600000 in
theorem law_SameScenes (a a' : Option Addr) (l l' c c' : Nat) (xs ys : List ScE) (w : World) (hm : l ≤ 9223372036854775807) (hm' : l' ≤ 9223372036854775807) (H0 : SlSc w a l xs) (H0' : SlSc w a' l' ys)
    (hz : ∀ k, k < l → (xs.getD k ScE.zero).f0.size ≤ 9223372036854775807) (hz' : ∀ k, k < l' → (ys.getD k ScE.zero).f0.size ≤ 9223372036854775807) :
    Calls Try.prog 4 #[.slice a l c, .slice a' l' c'] w fun e w' => e = .returned (.bool true) ∧ Below w.heap.size w w' := by
  have HZ' := Lib.hid hz'
  by_cases hn : l ≤ 1048576
  case neg =>
    clear H0 H0' hz hz'
    go_enter Try.func4, Try.ntmps4
    go_wp2_with fail
    refine (ScszNo_any a l c _ hm hn).mono ?_
    rintro e w0 ⟨rfl, hB0⟩
    go_wp2
    go_ret
    exact ⟨rfl, hB0⟩
  have hsz := Scsz_any a l c xs w H0 hn hz
  have hr9 := szR_bd (xs := xs) (n := l)
  clear hz hz'
  by_cases hneg : szR xs l < 0
  · generalize szR xs l = r at *
    clear H0 H0'
    go_enter Try.func4, Try.ntmps4
    go_wp2_with fail
    refine hsz.mono ?_
    rintro e w0 ⟨rfl, hB0⟩
    go_wp2
    go_ret
    exact ⟨rfl, hB0⟩
  generalize szR xs l = r at *
  by_cases hn' : (l' : Int) ≤ r
  case neg =>
    clear H0 H0'
    go_enter Try.func4, Try.ntmps4
    go_wp2_with fail
    refine hsz.mono ?_
    rintro e w0 ⟨rfl, hB0⟩
    go_wp2_with fail
    refine (ScszqNo_any r a' l' c' _ hm' (by omega) hr9 (by omega)).mono ?_
    rintro e w1 ⟨rfl, hB1⟩
    go_wp2
    go_ret
    exact ⟨rfl, bw_trans hB0 hB1⟩
  have hsz' := fun W hW => Scszq_any r a' l' c' ys W (H0'.below hW) hn' hr9 HZ'.out
  by_cases hneg' : szQ r ys l' < 0
  · generalize szQ r ys l' = r' at *
    have HQ := Lib.hid hsz'
    clear H0 H0' hsz'
    go_enter Try.func4, Try.ntmps4
    go_wp2_with fail
    refine hsz.mono ?_
    rintro e w0 ⟨rfl, hB0⟩
    go_wp2_with fail
    refine (HQ.out _ hB0).mono ?_
    rintro e w1 ⟨rfl, hB1⟩
    go_wp2
    go_ret
    exact ⟨rfl, bw_trans hB0 hB1⟩
  generalize szQ r ys l' = r' at *
  have HQ := Lib.hid hsz'
  have hl' : l' ≤ 1048576 := by omega
  clear hsz'
  go_enter Try.func4, Try.ntmps4
  go_wp2_with fail
  refine hsz.mono ?_
  rintro e w0 ⟨rfl, hB0⟩
  go_wp2_with fail
  refine (HQ.out _ hB0).mono ?_
  rintro e w1 ⟨rfl, hb1⟩
  have hB1 := bw_trans hB0 hb1
  clear hb1 HQ
  go_wp2_with fail
  refine (SctoS_any a l c xs _ (H0.below hB1) hn).mono ?_
  rintro e w2 ⟨rfl, HS, hb2⟩
  have hB2 := bw_trans hB1 hb2
  clear hb2
  go_wp2_with fail
  refine (SctoS_any a' l' c' ys _ (H0'.below hB2) hl').mono ?_
  rintro e w3 ⟨rfl, HS', hb3⟩
  have hB3 := bw_trans hB2 hb3
  have HS3 := HS.below hb3
  clear hb3 HS
  go_wp2_with fail
  refine (sSameScenes_is _ _ _ _ _ _ xs ys _ HS3 HS' hn hl' rfl).mono ?_
  rintro e w4 ⟨rfl, hb4⟩
  have hB4 := bw_trans hB3 hb4
  clear hb4 HS3 HS'
  go_wp2_with fail
  refine (SctoS_any a l c xs _ (H0.below hB4) hn).mono ?_
  rintro e w5 ⟨rfl, HM, hb5⟩
  have hB5 := bw_trans hB4 hb5
  clear hb5
  go_wp2_with fail
  refine (SctoS_any a' l' c' ys _ (H0'.below hB5) hl').mono ?_
  rintro e w6 ⟨rfl, HM', hb6⟩
  have hB6 := bw_trans hB5 hb6
  have HM6 := HM.below hb6
  clear hb6 HM
  go_wp2_with fail
  refine (iSameScenes_is _ _ _ _ _ _ xs ys _ HM6 HM' hn hl' rfl).mono ?_
  rintro e w7 ⟨rfl, hb7⟩
  have hB7 := bw_trans hB6 hb7
  have HM7 := HM6.below hb7
  have HM7' := HM'.below hb7
  clear hb7 HM6 HM'
  go_wp2_with fail
  refine (SctoS_any a l c xs _ (H0.below hB7) hn).mono ?_
  rintro e w8 ⟨rfl, HQ, hb8⟩
  have HM8 := HM7.below hb8
  have HM8' := HM7'.below hb8
  have hB8 := bw_trans hB7 hb8
  clear hb8 HM7 HM7'
  go_wp2_with fail
  refine (SceqS_any _ _ _ _ _ xs _ HM8 HQ hn).mono ?_
  rintro e w9 ⟨rfl, hb9⟩
  have HM9' := HM8'.below hb9
  have hB9 := bw_trans hB8 hb9
  clear hb9 HM8 HM8' HQ
  go_wp2_with fail
  refine (SctoS_any a' l' c' ys _ (H0'.below hB9) hl').mono ?_
  rintro e w10 ⟨rfl, HQ', hb10⟩
  have HMt := HM9'.below hb10
  have hB10 := bw_trans hB9 hb10
  clear hb10 HM9'
  go_wp2_with fail
  refine (SceqS_any _ _ _ _ _ ys _ HMt HQ' hl').mono ?_
  rintro e w11 ⟨rfl, hb11⟩
  clear HMt HQ' H0 H0'
  go_wp2
  go_ret
  exact ⟨rfl, bw_trans hB10 hb11⟩
end Go.Proofs.Ytnjndlngkoadfaa
