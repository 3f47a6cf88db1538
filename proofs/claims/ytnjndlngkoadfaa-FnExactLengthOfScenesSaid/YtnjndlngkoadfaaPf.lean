/-
  LengthOfScenes: in the program and in the reference; the law.
-/
import Derived.Test.YtnjndlngkoadfaaPe
namespace Go.Proofs.Ytnjndlngkoadfaa
open Go.RowKit

/-- The sum of the first k ticks. -/
def loT (xs : List ScE) : Nat → Int
  | 0 => 0
  | k + 1 => loT xs k + (xs.getD k ScE.zero).f1
theorem loT_bd {xs : List ScE} {n k : Nat} (h : ∀ k, k < n → scOk xs k) (hk : k ≤ n) : 0 ≤ loT xs k ∧ loT xs k ≤ 1000 * (k : Int) := by
  induction k with
  | zero => simp [loT]
  | succ k ih =>
    have h1 := ih (by omega)
    have h2 := inB_true.1 (h k (by omega)).2.1
    show 0 ≤ loT xs k + _ ∧ loT xs k + _ ≤ _
    omega
noncomputable def loC (xs : List ScE) (n : Nat) : Int := if vsB xs n then 0 else 1
noncomputable def loN (xs : List ScE) (n : Nat) : Int := if vsB xs n then loT xs n else 0
theorem lo_no {xs : List ScE} {n : Nat} (h : vsB xs n = false) : loN xs n = 0 ∧ loC xs n = 1 := by unfold loN loC; rw [h]; exact ⟨rfl, rfl⟩
theorem lo_yes {xs : List ScE} {n : Nat} (h : vsB xs n = true) : loN xs n = loT xs n ∧ loC xs n = 0 := by unfold loN loC; rw [h]; exact ⟨rfl, rfl⟩

set_option maxHeartbeats 800000 in
theorem iLengthOfScenes_any (A : Option Addr) (n c : Nat) (xs : List ScE) (w : World) (H : SlSc w A n xs) (hn : n ≤ 1048576) (hz : ∀ k, k < n → (xs.getD k ScE.zero).f0.size ≤ 9223372036854775807) :
    Calls Try.prog 22 #[.slice A n c] w fun e w' => e = .returned (.tuple #[.int .i64 (loN xs n), .int .i64 (loC xs n)]) ∧ Below w.heap.size w w' := by
  cases hv : vsB xs n
  · have HR := Lib.hid (lo_no hv)
    have HV := Lib.hid hv
    clear hv
    go_enter Try.func22, Try.ntmps22
    go_wp2_with fail
    refine (validScenes_is A n c xs _ H hn HV.out hz).mono ?_
    rintro e w1 ⟨rfl, hb1⟩
    go_wp2
    go_ret2
    exact ⟨by rw [HR.out.1, HR.out.2]; rfl, hb1⟩
  · have HR := Lib.hid (lo_yes hv)
    obtain ⟨hok, h1, h2⟩ := vs_of hv
    have HV := Lib.hid hv
    have HK := Lib.hid hok
    clear hv hok
    go_enter Try.func22, Try.ntmps22
    go_wp2_with fail
    refine (validScenes_is A n c xs _ H hn HV.out hz).mono ?_
    rintro e w1 ⟨rfl, hb1⟩
    clear hz
    go_wp2_with fail
    go_loopw [4, 12] (fun x y wr => ∃ k : Nat, k ≤ n ∧ x = .int .i64 (loT xs k) ∧ y = .int .i64 k ∧ Below w.heap.size w wr) (fun _ y _ => (n - (intOf y).toNat))
    case atStart => exact ⟨0, by omega, rfl, rfl, hb1⟩
    case round =>
      obtain ⟨k, hk, rfl, rfl, hbr⟩ := hrel
      by_cases hlt : k < n
      · obtain ⟨b, off, rfl, hbl, hc0, hc1⟩ := (H.below hbr).get hlt
        clear H
        obtain ⟨t1, t2⟩ := inB_true.1 (HK.out k hlt).2.1
        obtain ⟨l1, l2⟩ := loT_bd (xs := xs) HK.out (k := k) (by omega)
        have hq : loT xs (k + 1) = loT xs k + (xs.getD k ScE.zero).f1 := rfl
        have HQ := Lib.hid hq
        clear hq
        generalize xs.getD k ScE.zero = y at *
        generalize loT xs k = p at *
        go_wp2
        go_roundw
        case rel =>
          refine ⟨k + 1, by omega, by rw [HQ.out], by go_num, ?_⟩
          repeat (first | exact Below.refl _ _ | refine bw_drew ?_ | refine bw_drewN ?_ _ | refine bw_set ?_ (by simp; try omega) _ | refine bw_alloc ?_ _ | refine bw_trans ?_ (by assumption) | assumption)
        case measure => simp [intOf]; omega
      · have hkk : k = n := by omega
        subst hkk
        clear H
        go_wp2
        go_ret2
        refine ⟨by rw [HR.out.1, HR.out.2]; rfl, ?_⟩
        repeat (first | exact Below.refl _ _ | refine bw_drew ?_ | refine bw_drewN ?_ _ | refine bw_set ?_ (by simp; try omega) _ | refine bw_alloc ?_ _ | refine bw_trans ?_ (by assumption) | assumption)

set_option maxHeartbeats 800000 in
theorem sLengthOfScenes_any (A : Option Addr) (n c : Nat) (xs : List ScE) (w : World) (H : SlSc w A n xs) (hn : n ≤ 1048576) (hz : ∀ k, k < n → (xs.getD k ScE.zero).f0.size ≤ 9223372036854775807) :
    Calls Try.prog 21 #[.slice A n c] w fun e w' => e = .returned (.tuple #[.int .i64 (loN xs n), .int .i64 (loC xs n)]) ∧ Below w.heap.size w w' := by
  cases hv : vsB xs n
  · have HR := Lib.hid (lo_no hv)
    have HV := Lib.hid hv
    clear hv
    go_enter Try.func21, Try.ntmps21
    go_wp2_with fail
    refine (l08Ok_is A n c xs _ H hn HV.out hz).mono ?_
    rintro e w1 ⟨rfl, hb1⟩
    go_wp2
    go_ret2
    exact ⟨by rw [HR.out.1, HR.out.2]; rfl, hb1⟩
  · have HR := Lib.hid (lo_yes hv)
    obtain ⟨hok, h1, h2⟩ := vs_of hv
    have HV := Lib.hid hv
    have HK := Lib.hid hok
    clear hv hok
    go_enter Try.func21, Try.ntmps21
    go_wp2_with fail
    refine (l08Ok_is A n c xs _ H hn HV.out hz).mono ?_
    rintro e w1 ⟨rfl, hb1⟩
    clear hz
    go_wp2_with fail
    go_loopw [4, 5] (fun x y wr => ∃ k : Nat, k ≤ n ∧ x = .int .i64 (loT xs k) ∧ y = .int .i64 k ∧ Below w.heap.size w wr) (fun _ y _ => (n - (intOf y).toNat))
    case atStart => exact ⟨0, by omega, rfl, rfl, hb1⟩
    case round =>
      obtain ⟨k, hk, rfl, rfl, hbr⟩ := hrel
      by_cases hlt : k < n
      · obtain ⟨b, off, rfl, hbl, hc0, hc1⟩ := (H.below hbr).get hlt
        clear H
        obtain ⟨t1, t2⟩ := inB_true.1 (HK.out k hlt).2.1
        obtain ⟨l1, l2⟩ := loT_bd (xs := xs) HK.out (k := k) (by omega)
        have hq : loT xs (k + 1) = loT xs k + (xs.getD k ScE.zero).f1 := rfl
        have HQ := Lib.hid hq
        clear hq
        generalize xs.getD k ScE.zero = y at *
        generalize loT xs k = p at *
        go_wp2
        go_roundw
        case rel =>
          refine ⟨k + 1, by omega, by rw [HQ.out], by go_num, ?_⟩
          repeat (first | exact Below.refl _ _ | refine bw_drew ?_ | refine bw_drewN ?_ _ | refine bw_set ?_ (by simp; try omega) _ | refine bw_alloc ?_ _ | refine bw_trans ?_ (by assumption) | assumption)
        case measure => simp [intOf]; omega
      · have hkk : k = n := by omega
        subst hkk
        clear H
        go_wp2
        go_ret2
        refine ⟨by rw [HR.out.1, HR.out.2]; rfl, ?_⟩
        repeat (first | exact Below.refl _ _ | refine bw_drew ?_ | refine bw_drewN ?_ _ | refine bw_set ?_ (by simp; try omega) _ | refine bw_alloc ?_ _ | refine bw_trans ?_ (by assumption) | assumption)

set_option maxRecDepth 100000 in
set_option maxHeartbeats 800000 in
theorem law_LengthOfScenes (a : Option Addr) (l c : Nat) (xs : List ScE) (w : World) (hm : l ≤ 9223372036854775807) (H0 : SlSc w a l xs) (hz : ∀ k, k < l → (xs.getD k ScE.zero).f0.size ≤ 9223372036854775807) :
    Calls Try.prog 6 #[.slice a l c] w fun e w' => e = .returned (.bool true) ∧ Below w.heap.size w w' := by
  by_cases hn : l ≤ 1048576
  · have HZ := Lib.hid hz
    have hsz := Scsz_any a l c xs w H0 hn hz
    clear hz
    by_cases hneg : szR xs l < 0
    · generalize szR xs l = r at *
      clear H0
      go_enter Try.func6, Try.ntmps6
      go_wp2_with fail
      refine hsz.mono ?_
      rintro e w0 ⟨rfl, hB0⟩
      go_wp2
      go_ret
      exact ⟨rfl, hB0⟩
    generalize szR xs l = r at *
    go_enter Try.func6, Try.ntmps6
    go_wp2_with fail
    refine hsz.mono ?_
    rintro e w0 ⟨rfl, hB0⟩
    go_wp2_with fail
    refine (SctoS_any a l c xs _ (H0.below hB0) hn).mono ?_
    rintro e w1 ⟨rfl, HS, hb1⟩
    have hB1 := bw_trans hB0 hb1
    clear hb1
    go_wp2_with fail
    refine (sLengthOfScenes_any  _ _ _ xs  _ HS hn HZ.out).mono ?_
    rintro e w2 ⟨rfl, hb2⟩
    have hB2 := bw_trans hB1 hb2
    clear hb2 HS
    go_wp2_with fail
    refine (SctoS_any a l c xs _ (H0.below hB2) hn).mono ?_
    rintro e w3 ⟨rfl, HM, hb3⟩
    have hB3 := bw_trans hB2 hb3
    clear hb3
    go_wp2_with fail
    refine (iLengthOfScenes_any  _ _ _ xs  _ HM hn HZ.out).mono ?_
    rintro e w4 ⟨rfl, hb4⟩
    have hB4 := bw_trans hB3 hb4
    have HM4 := HM.below hb4
    clear hb4 HM
    go_wp2_with fail
    refine (SctoS_any a l c xs _ (H0.below hB4) hn).mono ?_
    rintro e w5 ⟨rfl, HQ, hb5⟩
    have HM5 := HM4.below hb5
    have hB5 := bw_trans hB4 hb5
    clear hb5 HM4
    go_wp2_with fail
    refine (SceqS_any _ _ _ _ _ xs _ HM5 HQ hn).mono ?_
    rintro e w6 ⟨rfl, hb6⟩
    clear HM5 HQ H0
    go_wp2
    go_ret
    exact ⟨rfl, bw_trans hB5 hb6⟩
  · clear H0 hz
    go_enter Try.func6, Try.ntmps6
    go_wp2_with fail
    refine (ScszNo_any a l c _ hm hn).mono ?_
    rintro e w0 ⟨rfl, hB0⟩
    go_wp2
    go_ret
    exact ⟨rfl, hB0⟩
end Go.Proofs.Ytnjndlngkoadfaa
