/-
  FnLenses where the object is not farther than the focal length: true.
-/
import Derived.Test.YtclilanlhagppaaLensN
namespace Go.Proofs.Ytclilanlhagppaa
open Go.RowKit
set_option linter.unusedVariables false

set_option maxRecDepth 100000 in
set_option maxHeartbeats 1600000 in
theorem lenses_nearF (a1 a2 : Option Addr) (l m c1 c2 : Nat) (w : World) (x y f o : Int) (hf : 10 * (1 + x) = f) (ho : f + y - 20 = o) (f1 : 10 ≤ f) (f2 : f ≤ 400) (o1 : o ≤ 579) (o2 : -10 ≤ o) (hn : o ≤ f) (hp : 1 < o) (x1 : 0 ≤ x) (x2 : x ≤ 39) (y1 : 0 ≤ y) (y2 : y ≤ 199)
    (C0 : Hid (∀ W : World, Calls Try.prog 4 #[.slice a1 l c1, .slice a2 m c2] W fun e w' => e = .returned (.bool false) ∧ W = w'))
    (CX : Hid (∀ W : World, Below w.heap.size w W → Calls Try.prog 5 #[.slice a1 l c1, .int .i64 0, .int .i64 40] W fun e w' => e = .returned (.int .i64 x) ∧ W = w'))
    (CY : Hid (∀ W : World, Below w.heap.size w W → Calls Try.prog 5 #[.slice a2 m c2, .int .i64 0, .int .i64 200] W fun e w' => e = .returned (.int .i64 y) ∧ W = w')) :
    Calls Try.prog 3 #[.slice a1 l c1, .slice a2 m c2] w fun e w' => e = .returned (.bool true) ∧ Below w.heap.size w w' := by
  have him : imT f o = (0, 0, 6) := by
    have e1 : isFo f = true := isFo_true.2 (by omega)
    have e2 : isTh o = true := isTh_true.2 (by omega)
    unfold imT; rw [e1, e2]; simp; omega
  have C1 := imageAt_any f o
  have C2 := objectFor_any f o
  rw [him] at C1 C2
  have HC1 := Lib.hid C1
  have HC2 := Lib.hid C2
  clear C1 C2 him
  go_enter Try.func3, Try.ntmps3
  go_wp2_with fail
  refine (C0.out _).mono ?_
  rintro e w' ⟨rfl, rfl⟩
  go_wp2_with fail
  refine (CX.out _ (Below.refl _ _)).mono ?_
  rintro e w' ⟨rfl, rfl⟩
  go_wp2_with fail
  refine (CY.out _ (Below.refl _ _)).mono ?_
  rintro e w' ⟨rfl, rfl⟩
  go_wp2_with fail
  refine (HC1.out _).mono ?_
  rintro e w1 ⟨rfl, hb1⟩
  obtain ⟨hc1, hf1⟩ := bcell hb1
  go_wp2_with fail
  refine (HC2.out _).mono ?_
  rintro e w2 ⟨rfl, hb2⟩
  obtain ⟨hc2, hf2⟩ := bcell hb2
  go_wp2
  go_ret
  refine ⟨rfl, ?_⟩
  repeat (first | exact Below.refl _ _ | refine bw_drew ?_ | refine bw_drewN ?_ _ | refine bw_set ?_ (by simp; try omega) _ | refine bw_alloc ?_ _ | refine bw_trans ?_ (by assumption) | assumption)

set_option maxRecDepth 100000 in
set_option maxHeartbeats 1600000 in
theorem lenses_nearN (a1 a2 : Option Addr) (l m c1 c2 : Nat) (w : World) (x y f o : Int) (hf : 10 * (1 + x) = f) (ho : f + y - 20 = o) (f1 : 10 ≤ f) (f2 : f ≤ 400) (o1 : o ≤ 579) (o2 : -10 ≤ o) (hn : o ≤ f) (hp : o ≤ 1) (x1 : 0 ≤ x) (x2 : x ≤ 39) (y1 : 0 ≤ y) (y2 : y ≤ 199)
    (C0 : Hid (∀ W : World, Calls Try.prog 4 #[.slice a1 l c1, .slice a2 m c2] W fun e w' => e = .returned (.bool false) ∧ W = w'))
    (CX : Hid (∀ W : World, Below w.heap.size w W → Calls Try.prog 5 #[.slice a1 l c1, .int .i64 0, .int .i64 40] W fun e w' => e = .returned (.int .i64 x) ∧ W = w'))
    (CY : Hid (∀ W : World, Below w.heap.size w W → Calls Try.prog 5 #[.slice a2 m c2, .int .i64 0, .int .i64 200] W fun e w' => e = .returned (.int .i64 y) ∧ W = w')) :
    Calls Try.prog 3 #[.slice a1 l c1, .slice a2 m c2] w fun e w' => e = .returned (.bool true) ∧ Below w.heap.size w w' := by
  have him : imT f 1 = (0, 0, 6) := by
    have e1 : isFo f = true := isFo_true.2 (by omega)
    have e2 : isTh 1 = true := isTh_true.2 (by omega)
    unfold imT; rw [e1, e2]; simp; omega
  have C1 := imageAt_any f 1
  have C2 := objectFor_any f 1
  rw [him] at C1 C2
  have HC1 := Lib.hid C1
  have HC2 := Lib.hid C2
  clear C1 C2 him
  go_enter Try.func3, Try.ntmps3
  go_wp2_with fail
  refine (C0.out _).mono ?_
  rintro e w' ⟨rfl, rfl⟩
  go_wp2_with fail
  refine (CX.out _ (Below.refl _ _)).mono ?_
  rintro e w' ⟨rfl, rfl⟩
  go_wp2_with fail
  refine (CY.out _ (Below.refl _ _)).mono ?_
  rintro e w' ⟨rfl, rfl⟩
  go_wp2_with fail
  refine (HC1.out _).mono ?_
  rintro e w1 ⟨rfl, hb1⟩
  obtain ⟨hc1, hf1⟩ := bcell hb1
  go_wp2_with fail
  refine (HC2.out _).mono ?_
  rintro e w2 ⟨rfl, hb2⟩
  obtain ⟨hc2, hf2⟩ := bcell hb2
  go_wp2
  go_ret
  refine ⟨rfl, ?_⟩
  repeat (first | exact Below.refl _ _ | refine bw_drew ?_ | refine bw_drewN ?_ _ | refine bw_set ?_ (by simp; try omega) _ | refine bw_alloc ?_ _ | refine bw_trans ?_ (by assumption) | assumption)

end Go.Proofs.Ytclilanlhagppaa
