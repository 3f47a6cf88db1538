/-
  The law of ValidWheels.
-/
import Derived.Test.YtjgigmlhnnkjiaaWa
namespace Go.Proofs.Ytjgigmlhnnkjiaa
open Go.RowKit

theorem sValidWheels_is (crank : Int) (A : Option Addr) (n c : Nat) (xs : List WhE) (w : World) (H : SlWh w A n xs) (hn : n ≤ 1048576) {b : Bool} (hb : vwB crank xs n = b) :
    Calls Try.prog 11 #[.int .i64 crank, .slice A n c] w fun e w' => e = .returned (.bool b) ∧ Below w.heap.size w w' := by
  go_enter Try.func11, Try.ntmps11
  go_wp2_with fail
  refine (l14Ok_is crank A n c xs _ H hn hb).mono ?_
  rintro e w1 ⟨rfl, hb1⟩
  go_wp2
  go_ret
  exact ⟨rfl, hb1⟩

theorem Whsz_any (A : Option Addr) (l c : Nat) (w : World) (hl : l ≤ 1048576) :
    Calls Try.prog 10 #[.slice A l c, .int .i64 1048576] w fun e w' => e = .returned (.int .i64 (1048576 - (l : Int))) ∧ Below w.heap.size w w' := by
  have h1 : ¬ (1048576 - (l : Int)) < 0 := by omega
  go_enter Try.func10, Try.ntmps10
  go_wp2
  go_ret
  refine ⟨rfl, ?_⟩
  repeat (first | exact Below.refl _ _ | refine bw_drew ?_ | refine bw_drewN ?_ _ | refine bw_set ?_ (by simp; try omega) _ | refine bw_alloc ?_ _ | refine bw_trans ?_ (by assumption) | assumption)
theorem WhszNo_any (A : Option Addr) (l c : Nat) (w : World) (hm : l ≤ 9223372036854775807) (hl : ¬ l ≤ 1048576) :
    Calls Try.prog 10 #[.slice A l c, .int .i64 1048576] w fun e w' => e = .returned (.int .i64 (-1)) ∧ Below w.heap.size w w' := by
  have h1 : (1048576 - (l : Int)) < 0 := by omega
  go_enter Try.func10, Try.ntmps10
  go_wp2
  go_ret
  refine ⟨rfl, ?_⟩
  repeat (first | exact Below.refl _ _ | refine bw_drew ?_ | refine bw_drewN ?_ _ | refine bw_set ?_ (by simp; try omega) _ | refine bw_alloc ?_ _ | refine bw_trans ?_ (by assumption) | assumption)

set_option maxRecDepth 100000 in
set_option maxHeartbeats 800000 in
theorem law_ValidWheels (crank : Int) (a : Option Addr) (l c : Nat) (xs : List WhE) (w : World) (hm : l ≤ 9223372036854775807) (H0 : SlWh w a l xs) :
    Calls Try.prog 3 #[.int .i64 crank, .slice a l c] w fun e w' => e = .returned (.bool true) ∧ Below w.heap.size w w' := by
  by_cases hn : l ≤ 1048576
  · have hni : ¬ (1048576 - (l : Int)) < 0 := by omega
    go_enter Try.func3, Try.ntmps3
    go_wp2_with fail
    refine (Whsz_any a l c _ hn).mono ?_
    rintro e w0 ⟨rfl, hB0⟩
    go_wp2_with fail
    refine (WhtoS_any a l c xs _ (H0.below hB0) hn).mono ?_
    rintro e w1 ⟨rfl, HS, hb1⟩
    have hB1 := bw_trans hB0 hb1
    clear hb1
    go_wp2_with fail
    refine (sValidWheels_is crank _ _ _ xs  _ HS hn rfl).mono ?_
    rintro e w2 ⟨rfl, hb2⟩
    have hB2 := bw_trans hB1 hb2
    clear hb2 HS
    go_wp2_with fail
    refine (WhtoS_any a l c xs _ (H0.below hB2) hn).mono ?_
    rintro e w3 ⟨rfl, HM, hb3⟩
    have hB3 := bw_trans hB2 hb3
    clear hb3
    go_wp2_with fail
    refine (validWheels_is crank _ _ _ xs  _ HM hn rfl).mono ?_
    rintro e w4 ⟨rfl, hb4⟩
    have hB4 := bw_trans hB3 hb4
    have HM4 := HM.below hb4
    clear hb4 HM
    go_wp2_with fail
    refine (WhtoS_any a l c xs _ (H0.below hB4) hn).mono ?_
    rintro e w5 ⟨rfl, HQ, hb5⟩
    have HM5 := HM4.below hb5
    have hB5 := bw_trans hB4 hb5
    clear hb5 HM4
    go_wp2_with fail
    refine (WheqS_any _ _ _ _ _ xs _ HM5 HQ hn).mono ?_
    rintro e w6 ⟨rfl, hb6⟩
    clear HM5 HQ H0
    go_wp2
    go_ret
    exact ⟨rfl, bw_trans hB5 hb6⟩
  · clear H0
    go_enter Try.func3, Try.ntmps3
    go_wp2_with fail
    refine (WhszNo_any a l c _ hm hn).mono ?_
    rintro e w0 ⟨rfl, hB0⟩
    go_wp2
    go_ret
    exact ⟨rfl, hB0⟩
end Go.Proofs.Ytjgigmlhnnkjiaa
