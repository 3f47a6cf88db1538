/-
  Lists of numbers compared: in the library, in the reference.
-/
import Derived.Test.YthhilkahfgpncaaHm
import Derived.Test.YthhilkahfgpncaaAny
import Derived.Deep.LoopGhost
namespace Go.Proofs.Ythhilkahfgpncaa
open Go.RowKit

/-- The first list is less by its first number that differs. -/
noncomputable def lxB (a b : List Int) : Bool := @decide (∃ k, k < a.length ∧ (∀ j, j < k → a.getD j 0 = b.getD j 0) ∧ a.getD k 0 < b.getD k 0) (Classical.propDecidable _)
theorem lx_lt {a b : List Int} {k : Nat} (hk : k < a.length) (he : ∀ j, j < k → a.getD j 0 = b.getD j 0) (h : a.getD k 0 < b.getD k 0) : lxB a b = true := by
  unfold lxB; exact @decide_eq_true _ (Classical.propDecidable _) ⟨k, hk, he, h⟩
theorem lx_gt {a b : List Int} {k : Nat} (he : ∀ j, j < k → a.getD j 0 = b.getD j 0) (h : b.getD k 0 < a.getD k 0) : lxB a b = false := by
  unfold lxB
  refine @decide_eq_false _ (Classical.propDecidable _) fun ⟨i, _, h2, h3⟩ => ?_
  rcases Nat.lt_or_ge i k with h4 | h4
  · have := he i h4; omega
  · rcases Nat.lt_or_ge k i with h5 | h5
    · have := h2 k h5; omega
    · have : i = k := by omega
      subst this; omega
theorem lx_eq {a b : List Int} (he : ∀ j, j < a.length → a.getD j 0 = b.getD j 0) : lxB a b = false := by
  unfold lxB
  refine @decide_eq_false _ (Classical.propDecidable _) fun ⟨i, h1, _, h3⟩ => ?_
  have := he i h1; omega
noncomputable def lsL (a b : List Int) : Bool := decide (a.length < b.length) || (decide (a.length = b.length) && lxB a b)
theorem ls_short {a b : List Int} (h : a.length < b.length) : lsL a b = true := by unfold lsL; rw [decide_eq_true h]; rfl
theorem ls_long {a b : List Int} (h : b.length < a.length) : lsL a b = false := by unfold lsL; rw [decide_eq_false (by omega), decide_eq_false (by omega)]; rfl
theorem ls_same {a b : List Int} (h : a.length = b.length) : lsL a b = lxB a b := by unfold lsL; rw [decide_eq_false (by omega), decide_eq_true h]; simp

theorem isNaN_any (x : Int) (w : World) :
    Calls Try.prog 102 #[.int .i64 x] w fun e w' => e = .returned (.bool false) ∧ w = w' := by
  go_enter Try.func102, Try.ntmps102
  go_wp2
  go_ret
  exact ⟨by simp, rfl⟩
theorem cmp_lt {x y : Int} (h : x < y) (w : World) :
    Calls Try.prog 101 #[.int .i64 x, .int .i64 y] w fun e w' => e = .returned (.int .i64 (-1)) ∧ w = w' := by
  go_enter Try.func101, Try.ntmps101
  go_wp2_with (go_at_call 102; refine (isNaN_any _ _).mono ?_; rintro e w1 ⟨rfl, rfl⟩)
  go_ret
  exact ⟨rfl, rfl⟩
theorem cmp_gt {x y : Int} (h : y < x) (w : World) :
    Calls Try.prog 101 #[.int .i64 x, .int .i64 y] w fun e w' => e = .returned (.int .i64 1) ∧ w = w' := by
  have h' : ¬ x < y := by omega
  go_enter Try.func101, Try.ntmps101
  go_wp2_with (go_at_call 102; refine (isNaN_any _ _).mono ?_; rintro e w1 ⟨rfl, rfl⟩)
  go_ret
  exact ⟨rfl, rfl⟩
theorem cmp_eq (x : Int) (w : World) :
    Calls Try.prog 101 #[.int .i64 x, .int .i64 x] w fun e w' => e = .returned (.int .i64 0) ∧ w = w' := by
  have h' : ¬ x < x := by omega
  go_enter Try.func101, Try.ntmps101
  go_wp2_with (go_at_call 102; refine (isNaN_any _ _).mono ?_; rintro e w1 ⟨rfl, rfl⟩)
  go_ret
  exact ⟨rfl, rfl⟩

/-- Returns a number that is below 0 just where r says so. -/
def GivesSign (r : Bool) (w : World) (e : Ending) (w' : World) : Prop := ∃ c : Int, e = .returned (.int .i64 c) ∧ decide (c < 0) = r ∧ w = w'
set_option maxHeartbeats 800000 in
theorem compare_any (A B : Option Addr) (n c d : Nat) (xs ys : List Int) (w : World) (HA : SlI w A n xs) (HB : SlI w B n ys) (hn : n ≤ 1048576) :
    Calls Try.prog 90 #[.slice A n c, .slice B n d] w (GivesSign (lxB xs ys) w) := by
  have HLA := Lib.hid HA.length
  have HLB := Lib.hid HB.length
  go_enter Try.func90, Try.ntmps90
  go_wp2_with fail
  go_loopg [11] n (fun gh x wr => ∃ k : Nat, k ≤ n ∧ gh = n - k ∧ x = .int .i64 k ∧ Hid (∀ j, j < k → xs.getD j 0 = ys.getD j 0) ∧ w = wr)
  case atStart => exact ⟨0, by omega, by omega, rfl, fun j hj => absurd hj (by omega), rfl⟩
  case round =>
    obtain ⟨k, hk, rfl, rfl, hno, rfl⟩ := hrel
    by_cases hlt : k < n
    · obtain ⟨b, off, rfl, hbl, hc⟩ := HA.get hlt
      obtain ⟨b', off', rfl, hbl', hc'⟩ := HB.get hlt
      clear HA HB
      have hik : ¬ ((n : Int) ≤ (k : Int)) := by omega
      have hik2 : (k : Int) < (n : Int) := by omega
      rcases Int.lt_trichotomy (xs.getD k 0) (ys.getD k 0) with h | h | h
      · have HR := Lib.hid (lx_lt (by rw [HLA.out]; exact hlt) hno.out h)
        generalize xs.getD k 0 = x at *
        generalize ys.getD k 0 = y at *
        go_wp2_with (go_at_call 101; refine (cmp_lt h _).mono ?_; rintro e w1 ⟨rfl, rfl⟩)
        go_ret
        exact ⟨-1, rfl, by rw [HR.out]; rfl, rfl⟩
      · have hn' : ∀ j, j < k + 1 → xs.getD j 0 = ys.getD j 0 := fun j hj => by
          rcases Nat.lt_or_ge j k with h' | h'
          · exact hno.out j h'
          · have : j = k := by omega
            subst this; exact h
        have HN := Lib.hid hn'
        rw [← h] at hc'
        clear hn' h
        generalize xs.getD k 0 = x at *
        go_wp2_with (go_at_call 101; refine (cmp_eq _ _).mono ?_; rintro e w1 ⟨rfl, rfl⟩)
        go_roundg (n - (k + 1))
        case rel => exact ⟨k + 1, by omega, rfl, by go_num, HN.out, rfl⟩
        case measure => omega
      · have HR := Lib.hid (lx_gt hno.out h)
        generalize xs.getD k 0 = x at *
        generalize ys.getD k 0 = y at *
        go_wp2_with (go_at_call 101; refine (cmp_gt h _).mono ?_; rintro e w1 ⟨rfl, rfl⟩)
        go_ret
        exact ⟨1, rfl, by rw [HR.out]; rfl, rfl⟩
    · have hkk : k = n := by omega
      subst hkk
      have HR := Lib.hid (lx_eq (a := xs) (b := ys) fun j hj => hno.out j (by rw [← HLA.out]; exact hj))
      clear HA HB
      have hik : ¬ ((k : Int) < (k : Int)) := by omega
      go_wp2
      go_ret
      exact ⟨0, rfl, by rw [HR.out]; rfl, rfl⟩

set_option maxHeartbeats 800000 in
theorem l11Less_is (A B : Option Addr) (n m c d : Nat) (xs ys : List Int) (w : World) (HA : SlI w A n xs) (HB : SlI w B m ys) (hn : n ≤ 1048576) (hm : m ≤ 1048576) {r : Bool} (hr : lsL xs ys = r) :
    Calls Try.prog 80 #[.slice A n c, .slice B m d] w fun e w' => e = .returned (.bool r) ∧ Below w.heap.size w w' := by
  have HLA := Lib.hid HA.length
  have HLB := Lib.hid HB.length
  have HS := Lib.hid hr
  clear hr
  by_cases hnm : n = m
  case neg =>
    have hne : ((n : Int) != (m : Int)) = true := by simp only [bne_iff_ne, ne_eq]; omega
    by_cases hlt : n < m
    · have hb' : r = true := by rw [← HS.out]; exact ls_short (by rw [HLA.out, HLB.out]; exact hlt)
      subst hb'
      have d1 : decide ((n : Int) < (m : Int)) = true := decide_eq_true (by omega)
      clear HA HB HS
      go_enter Try.func80, Try.ntmps80
      go_wp2
      go_ret
      exact ⟨by first | rfl | exact ret_bool d1, Below.refl _ _⟩
    · have hb' : r = false := by rw [← HS.out]; exact ls_long (by rw [HLA.out, HLB.out]; omega)
      subst hb'
      have d1 : decide ((n : Int) < (m : Int)) = false := decide_eq_false (by omega)
      clear HA HB HS
      go_enter Try.func80, Try.ntmps80
      go_wp2
      go_ret
      exact ⟨by first | rfl | exact ret_bool d1, Below.refl _ _⟩
  subst hnm
  have hxx : lxB xs ys = r := by rw [← HS.out]; exact (ls_same (by rw [HLA.out, HLB.out])).symm
  have HX := Lib.hid hxx
  have hne : ((n : Int) != (n : Int)) = false := by simp
  clear hxx HS
  go_enter Try.func80, Try.ntmps80
  go_wp2_with fail
  go_loopg [5] n (fun gh x wr => ∃ k : Nat, k ≤ n ∧ gh = n - k ∧ x = .int .i64 k ∧ Hid (∀ j, j < k → xs.getD j 0 = ys.getD j 0) ∧ Below w.heap.size w wr)
  case atStart => exact ⟨0, by omega, by omega, rfl, fun j hj => absurd hj (by omega), Below.refl _ _⟩
  case round =>
    obtain ⟨k, hk, rfl, rfl, hno, hbr⟩ := hrel
    by_cases hlt : k < n
    · obtain ⟨b, off, rfl, hbl, hc⟩ := (HA.below hbr).get hlt
      obtain ⟨b', off', rfl, hbl', hc'⟩ := (HB.below hbr).get hlt
      clear HA HB
      have hik2 : (k : Int) < (n : Int) := by omega
      rcases Int.lt_trichotomy (xs.getD k 0) (ys.getD k 0) with h | h | h
      · have HR := Lib.hid (lx_lt (by rw [HLA.out]; exact hlt) hno.out h)
        have hb' : r = true := HX.out.symm.trans HR.out
        subst hb'
        have hq : (xs.getD k 0 != ys.getD k 0) = true := by simp only [bne_iff_ne, ne_eq]; omega
        clear HX HR
        generalize xs.getD k 0 = x at *
        generalize ys.getD k 0 = y at *
        go_wp2_with fail
        refine wp_region_bel (by kernel_rfl) (by kernel_rfl) ?_
        repeat (go_big_quiet_step ((fail)))
        refine wpQuiet_nil ?_
        intro w2 hw'
        obtain ⟨tq, hw''⟩ := hw'
        have hw2 := tq.2
        rw [← hw''] at hw2
        clear hw'' tq
        obtain ⟨hcw2, hfw2⟩ := bcell hw2
        try (have hzw2 : w.heap.size < w2.heap.size := by (have h := hw2.size; (try simp at h); omega))
        try (have hyw2 : w.heap.size + 1 < w2.heap.size := by (have h := hw2.size; (try simp at h); omega))
        try (have hxw2 : w.heap.size + 1 + 1 < w2.heap.size := by (have h := hw2.size; (try simp at h); omega))
        try (have hvw2 : w.heap.size + 1 + 1 + 1 < w2.heap.size := by (have h := hw2.size; (try simp at h); omega))
        have hbl2 := Nat.lt_of_lt_of_le hbl hw2.size
        have hbl2' := Nat.lt_of_lt_of_le hbl' hw2.size
        go_wp2_with fail
        refine wp_region_bel (by kernel_rfl) (by kernel_rfl) ?_
        repeat (go_big_quiet_step ((fail)))
        refine wpQuiet_nil ?_
        intro w3 hw'
        obtain ⟨tq, hw''⟩ := hw'
        have hw3 := tq.2
        rw [← hw''] at hw3
        clear hw'' tq
        obtain ⟨hcw3, hfw3⟩ := bcell hw3
        try (have hzw3 : w.heap.size < w3.heap.size := by (have h := hw3.size; (try simp at h); omega))
        try (have hyw3 : w.heap.size + 1 < w3.heap.size := by (have h := hw3.size; (try simp at h); omega))
        try (have hxw3 : w.heap.size + 1 + 1 < w3.heap.size := by (have h := hw3.size; (try simp at h); omega))
        try (have hvw3 : w.heap.size + 1 + 1 + 1 < w3.heap.size := by (have h := hw3.size; (try simp at h); omega))
        go_wp2
        go_ret
        exact ⟨rfl, bw_trans (bw_trans hbr hw2) hw3⟩
      · have hn' : ∀ j, j < k + 1 → xs.getD j 0 = ys.getD j 0 := fun j hj => by
          rcases Nat.lt_or_ge j k with h' | h'
          · exact hno.out j h'
          · have : j = k := by omega
            subst this; exact h
        have HN := Lib.hid hn'
        rw [← h] at hc'
        clear hn' h
        generalize xs.getD k 0 = x at *
        go_wp2_with fail
        refine wp_region_bel (by kernel_rfl) (by kernel_rfl) ?_
        repeat (go_big_quiet_step ((fail)))
        refine wpQuiet_nil ?_
        intro w2 hw'
        obtain ⟨tq, hw''⟩ := hw'
        have hw2 := tq.2
        rw [← hw''] at hw2
        clear hw'' tq
        obtain ⟨hcw2, hfw2⟩ := bcell hw2
        try (have hzw2 : w.heap.size < w2.heap.size := by (have h := hw2.size; (try simp at h); omega))
        try (have hyw2 : w.heap.size + 1 < w2.heap.size := by (have h := hw2.size; (try simp at h); omega))
        try (have hxw2 : w.heap.size + 1 + 1 < w2.heap.size := by (have h := hw2.size; (try simp at h); omega))
        try (have hvw2 : w.heap.size + 1 + 1 + 1 < w2.heap.size := by (have h := hw2.size; (try simp at h); omega))
        go_wp2_with fail
        go_roundg (n - (k + 1))
        case rel => exact ⟨k + 1, by omega, rfl, by go_num, HN.out, bw_trans hbr hw2⟩
        case measure => omega
      · have HR := Lib.hid (lx_gt hno.out h)
        have hb' : r = false := HX.out.symm.trans HR.out
        subst hb'
        have hq : (xs.getD k 0 != ys.getD k 0) = true := by simp only [bne_iff_ne, ne_eq]; omega
        have hq2 : ¬ (xs.getD k 0 < ys.getD k 0) := by omega
        clear HX HR
        generalize xs.getD k 0 = x at *
        generalize ys.getD k 0 = y at *
        go_wp2_with fail
        refine wp_region_bel (by kernel_rfl) (by kernel_rfl) ?_
        repeat (go_big_quiet_step ((fail)))
        refine wpQuiet_nil ?_
        intro w2 hw'
        obtain ⟨tq, hw''⟩ := hw'
        have hw2 := tq.2
        rw [← hw''] at hw2
        clear hw'' tq
        obtain ⟨hcw2, hfw2⟩ := bcell hw2
        try (have hzw2 : w.heap.size < w2.heap.size := by (have h := hw2.size; (try simp at h); omega))
        try (have hyw2 : w.heap.size + 1 < w2.heap.size := by (have h := hw2.size; (try simp at h); omega))
        try (have hxw2 : w.heap.size + 1 + 1 < w2.heap.size := by (have h := hw2.size; (try simp at h); omega))
        try (have hvw2 : w.heap.size + 1 + 1 + 1 < w2.heap.size := by (have h := hw2.size; (try simp at h); omega))
        have hbl2 := Nat.lt_of_lt_of_le hbl hw2.size
        have hbl2' := Nat.lt_of_lt_of_le hbl' hw2.size
        go_wp2_with fail
        refine wp_region_bel (by kernel_rfl) (by kernel_rfl) ?_
        repeat (go_big_quiet_step ((fail)))
        refine wpQuiet_nil ?_
        intro w3 hw'
        obtain ⟨tq, hw''⟩ := hw'
        have hw3 := tq.2
        rw [← hw''] at hw3
        clear hw'' tq
        obtain ⟨hcw3, hfw3⟩ := bcell hw3
        try (have hzw3 : w.heap.size < w3.heap.size := by (have h := hw3.size; (try simp at h); omega))
        try (have hyw3 : w.heap.size + 1 < w3.heap.size := by (have h := hw3.size; (try simp at h); omega))
        try (have hxw3 : w.heap.size + 1 + 1 < w3.heap.size := by (have h := hw3.size; (try simp at h); omega))
        try (have hvw3 : w.heap.size + 1 + 1 + 1 < w3.heap.size := by (have h := hw3.size; (try simp at h); omega))
        go_wp2
        go_ret
        exact ⟨by first | rfl | exact ret_bool (decide_eq_false (by omega)), bw_trans (bw_trans hbr hw2) hw3⟩
    · have hkk : k = n := by omega
      subst hkk
      have HR := Lib.hid (lx_eq (a := xs) (b := ys) fun j hj => hno.out j (by rw [← HLA.out]; exact hj))
      have hb' : r = false := HX.out.symm.trans HR.out
      subst hb'
      clear HA HB HX HR
      go_wp2
      go_ret
      exact ⟨rfl, hbr⟩
end Go.Proofs.Ythhilkahfgpncaa
