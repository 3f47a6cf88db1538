/-
  Pages of scenes: how many each scene has, their sum, and by how many ticks they are wrong; in the program and in the reference.
-/
import Derived.Test.YtnjndlngkoadfaaPg
import Derived.Test.YtnjndlngkoadfaaApp
import Derived.Test.YtnjndlngkoadfaaGcd
namespace Go.Proofs.Ytnjndlngkoadfaa
open Go.RowKit

/-- A quotient, rounded to the nearest integer. -/
def rnd (a b : Int) : Int := (2 * a + b) / (2 * b)
theorem rnd_bd {a b : Int} (ha : 0 ≤ a) (hb : 1 ≤ b) : 0 ≤ rnd a b ∧ rnd a b ≤ a + 1 := by
  unfold rnd
  refine ⟨Int.ediv_nonneg (by omega) (by omega), ?_⟩
  have h := Int.mul_le_mul_of_nonneg_left hb ha
  refine Int.ediv_le_of_le_mul (by omega) ?_
  have e : (a + 1) * (2 * b) = 2 * (a * b) + 2 * b := by rw [Int.add_mul, Int.one_mul, Int.mul_left_comm]
  rw [e]; omega
theorem rounded_any (a b : Int) (w : World) (ha : 0 ≤ a ∧ a ≤ 1000000) (hb : 1 ≤ b ∧ b ≤ 1000000) :
    Calls Try.prog 63 #[.int .i64 a, .int .i64 b] w fun e w' => e = .returned (.int .i64 (rnd a b)) ∧ w = w' := by
  obtain ⟨a1, a2⟩ := ha
  obtain ⟨b1, b2⟩ := hb
  have s1 : 0 ≤ 2 * a + b := by omega
  have e0 := Int.emod_nonneg (2 * a + b) (show 2 * b ≠ 0 by omega)
  have e1 := Int.emod_lt_of_pos (2 * a + b) (show 0 < 2 * b by omega)
  have HR := Lib.hid (show rnd a b = (2 * a + b) / (2 * b) from rfl)
  go_enter Try.func63, Try.ntmps63
  go_wp2
  go_ret
  exact ⟨ret_int HR.out.symm, rfl⟩
theorem l00Floor_any (a b : Int) (w : World) (ha : 0 ≤ a ∧ a ≤ 1000000000) (hb : 1 ≤ b ∧ b ≤ 1000000000) :
    Calls Try.prog 72 #[.int .i64 a, .int .i64 b] w fun e w' => e = .returned (.int .i64 (a / b)) ∧ w = w' := by
  obtain ⟨a1, a2⟩ := ha
  obtain ⟨b1, b2⟩ := hb
  have e0 := Int.emod_nonneg a (show b ≠ 0 by omega)
  have e1 := Int.emod_lt_of_pos a (show 0 < b by omega)
  go_enter Try.func72, Try.ntmps72
  go_wp2
  go_ret
  exact ⟨rfl, rfl⟩
theorem l00Round_any (a b : Int) (w : World) (ha : 0 ≤ a ∧ a ≤ 1000000) (hb : 1 ≤ b ∧ b ≤ 1000000) :
    Calls Try.prog 65 #[.int .i64 a, .int .i64 b] w fun e w' => e = .returned (.int .i64 (rnd a b)) ∧ w = w' := by
  obtain ⟨a1, a2⟩ := ha
  obtain ⟨b1, b2⟩ := hb
  have HR := Lib.hid (show rnd a b = (2 * a + b) / (2 * b) from rfl)
  go_enter Try.func65, Try.ntmps65
  go_wp2_with (go_at_call 72; refine (l00Floor_any _ _ _ ⟨by omega, by omega⟩ ⟨by omega, by omega⟩).mono ?_; rintro e w1 ⟨rfl, rfl⟩)
  go_ret
  exact ⟨ret_int HR.out.symm, rfl⟩
theorem apart_any (a b : Int) (w : World) (ha : -1000000000000 ≤ a ∧ a ≤ 1000000000000) (hb : -1000000000000 ≤ b ∧ b ≤ 1000000000000) :
    Calls Try.prog 62 #[.int .i64 a, .int .i64 b] w fun e w' => e = .returned (.int .i64 ((a - b).natAbs : Int)) ∧ w = w' := by
  obtain ⟨a1, a2⟩ := ha
  obtain ⟨b1, b2⟩ := hb
  go_enter Try.func62, Try.ntmps62
  go_wp2
  all_goals
    go_ret
    exact ⟨ret_int (by omega), rfl⟩
theorem l00Max_le {a b : Int} (h : a ≤ b) (w : World) :
    Calls Try.prog 64 #[.int .i64 a, .int .i64 b] w fun e w' => e = .returned (.int .i64 b) ∧ w = w' := by
  go_enter Try.func64, Try.ntmps64
  go_wp2
  all_goals
    go_ret
    exact ⟨ret_int (by omega), rfl⟩
theorem l00Max_gt {a b : Int} (h : ¬ a ≤ b) (w : World) :
    Calls Try.prog 64 #[.int .i64 a, .int .i64 b] w fun e w' => e = .returned (.int .i64 a) ∧ w = w' := by
  go_enter Try.func64, Try.ntmps64
  go_wp2
  all_goals
    go_ret
    exact ⟨ret_int (by omega), rfl⟩

/-- How many pages a scene of t ticks has. -/
def pgN (t each : Int) : Int := if 1 ≤ rnd t each then rnd t each else 1
theorem pgN_yes {t each : Int} (h : 1 ≤ rnd t each) : pgN t each = rnd t each := if_pos h
theorem pgN_no {t each : Int} (h : ¬ 1 ≤ rnd t each) : pgN t each = 1 := if_neg h
theorem pgN_bd {t each : Int} (ht : 1 ≤ t ∧ t ≤ 1000) (he : 1 ≤ each) : 1 ≤ pgN t each ∧ pgN t each ≤ 1001 := by
  have := rnd_bd (a := t) (b := each) (by omega) he
  unfold pgN; split <;> omega
/-- The ticks of all scenes are from 1 to 1000. -/
def tkOk (xs : List ScE) (n : Nat) : Prop := ∀ k, k < n → 1 ≤ (xs.getD k ScE.zero).f1 ∧ (xs.getD k ScE.zero).f1 ≤ 1000
theorem tk_of {xs : List ScE} {n : Nat} (h : ∀ k, k < n → scOk xs k) : tkOk xs n := fun k hk => inB_true.1 (h k hk).2.1
/-- The pages of the first k scenes. -/
def pgL (xs : List ScE) (each : Int) (k : Nat) : List Int := (List.range k).map fun i => pgN (xs.getD i ScE.zero).f1 each
theorem pgL_len (xs : List ScE) (each : Int) (k : Nat) : (pgL xs each k).length = k := by simp [pgL]
theorem pgL_succ (xs : List ScE) (each : Int) (k : Nat) : pgL xs each (k + 1) = pgL xs each k ++ [pgN (xs.getD k ScE.zero).f1 each] := by simp [pgL, List.range_succ]
theorem pgL_at {xs : List ScE} {each : Int} {n k : Nat} (h : k < n) : (pgL xs each n).getD k 0 = pgN (xs.getD k ScE.zero).f1 each := by
  simp [pgL, List.getD_eq_getElem?_getD, h]
/-- The sum of the first k pages, and by how much they are wrong. -/
def pgT (xs : List ScE) (each : Int) : Nat → Int
  | 0 => 0
  | k + 1 => pgT xs each k + pgN (xs.getD k ScE.zero).f1 each
def erT (xs : List ScE) (each : Int) : Nat → Int
  | 0 => 0
  | k + 1 => erT xs each k + ((pgN (xs.getD k ScE.zero).f1 each * each - (xs.getD k ScE.zero).f1).natAbs : Int)
theorem pgT_bd {xs : List ScE} {each : Int} {n k : Nat} (h : tkOk xs n) (he : 1 ≤ each) (hk : k ≤ n) : 0 ≤ pgT xs each k ∧ pgT xs each k ≤ 1001 * (k : Int) := by
  induction k with
  | zero => simp [pgT]
  | succ k ih =>
    have h1 := ih (by omega)
    have h2 := pgN_bd (h k (by omega)) he
    show 0 ≤ pgT xs each k + _ ∧ pgT xs each k + _ ≤ _
    omega
theorem pgM_bd {t each : Int} (ht : 1 ≤ t ∧ t ≤ 1000) (he : 1 ≤ each ∧ each ≤ 100) : 0 ≤ pgN t each * each ∧ pgN t each * each ≤ 100100 := by
  have h2 := pgN_bd ht he.1
  refine ⟨Int.mul_nonneg (by omega) (by omega), ?_⟩
  exact Int.mul_le_mul (c := 1001) (d := 100) h2.2 he.2 (by omega) (by omega)
theorem erT_bd {xs : List ScE} {each : Int} {n k : Nat} (h : tkOk xs n) (he : 1 ≤ each ∧ each ≤ 100) (hk : k ≤ n) : 0 ≤ erT xs each k ∧ erT xs each k ≤ 200000 * (k : Int) := by
  induction k with
  | zero => simp [erT]
  | succ k ih =>
    have h1 := ih (by omega)
    have h2 := pgM_bd (h k (by omega)) he
    have h3 := h k (by omega)
    show 0 ≤ erT xs each k + _ ∧ erT xs each k + _ ≤ _
    omega

/-- What returns a slice of integers that reads as ys. -/
def GivesInts (ys : List Int) (w : World) (e : Ending) (w' : World) : Prop := ∃ A c, e = .returned (.slice A ys.length c) ∧ SlI w' A ys.length ys ∧ Below w.heap.size w w'

set_option maxHeartbeats 800000 in
theorem pagesOf_any (A : Option Addr) (n c : Nat) (xs : List ScE) (each : Int) (w : World) (H : SlSc w A n xs) (hn : n ≤ 12) (ht : tkOk xs n) (he : 1 ≤ each ∧ each ≤ 100) :
    Calls Try.prog 57 #[.slice A n c, .int .i64 each] w (GivesInts (pgL xs each n) w) := by
  obtain ⟨he1, he2⟩ := he
  have HT := Lib.hid ht
  clear ht
  go_enter Try.func57, Try.ntmps57
  go_wp2_with fail
  go_loopw [5, 11] (fun v x wr => ∃ k : Nat, k ≤ n ∧ x = .int .i64 k ∧ OwnI wr w.heap.size v (pgL xs each k) ∧ Below w.heap.size w wr) (fun _ x _ => (n - (intOf x).toNat))
  case atStart => exact ⟨0, by omega, rfl, OwnI.lit w (Nat.le_refl _), bw_alloc (Below.refl _ _) _⟩
  case round =>
    obtain ⟨k, hk, rfl, hown, hbr⟩ := hrel
    have HO := Lib.hid hown
    have hlen := pgL_len xs each k
    have HL := Lib.hid hlen
    clear hown hlen
    by_cases hlt : k < n
    · obtain ⟨b, off, rfl, hbl, hc0, hc1⟩ := (H.below hbr).get hlt
      clear H
      obtain ⟨t1, t2⟩ := HT.out k hlt
      have hsz := hbr.size
      have HS := Lib.hid (pgL_succ xs each k)
      have HY := Lib.hid (@pgN_yes (xs.getD k ScE.zero).f1 each)
      have HN := Lib.hid (@pgN_no (xs.getD k ScE.zero).f1 each)
      have hr := rnd_bd (a := (xs.getD k ScE.zero).f1) (b := each) (by omega) he1
      generalize xs.getD k ScE.zero = y at *
      go_wp2_with fail
      refine (rounded_any _ _ _ ⟨by omega, by omega⟩ ⟨by omega, by omega⟩).mono ?_
      rintro e w' ⟨rfl, rfl⟩
      by_cases h1 : 1 ≤ rnd y.f1 each
      · have HP := Lib.hid (HY.out (by omega))
        generalize rnd y.f1 each = r at *
        go_wp2_with (at_builtin; refine wpAppI rfl _ _ rfl _ _ _ rfl ((HO.out.alloc _).alloc _) _ (r) rfl (by go_simp) (by rw [HL.out]; omega) (by simp; omega) ?_; intro v1 w1 hown1 hg1 hb1)
        go_roundw
        case rel => exact ⟨k + 1, by omega, by go_num, by rw [HS.out, HP.out]; exact hown1, bw_from (bw_alloc (bw_alloc hbr _) _) hb1⟩
        case measure => simp [intOf]; omega
      · have HP := Lib.hid (HN.out (by omega))
        generalize rnd y.f1 each = r at *
        go_wp2_with (at_builtin; refine wpAppI rfl _ _ rfl _ _ _ rfl ((HO.out.alloc _).alloc _) _ (1) rfl (by go_simp) (by rw [HL.out]; omega) (by simp; omega) ?_; intro v1 w1 hown1 hg1 hb1)
        go_roundw
        case rel => exact ⟨k + 1, by omega, by go_num, by rw [HS.out, HP.out]; exact hown1, bw_from (bw_alloc (bw_alloc hbr _) _) hb1⟩
        case measure => simp [intOf]; omega
    · have hkk : k = n := by omega
      subst hkk
      clear H
      obtain ⟨A', c', rfl⟩ := HO.out.form
      have hs := Lib.hid HO.out.sl.2
      go_wp2
      go_ret
      exact ⟨A', c', rfl, hs.out, hbr⟩

set_option maxHeartbeats 800000 in
theorem sumOf_any (A : Option Addr) (n m c : Nat) (xs : List ScE) (each : Int) (w : World) (hm : m = n) (H : SlI w A n (pgL xs each n)) (hn : n ≤ 12) (ht : tkOk xs n) (he : 1 ≤ each ∧ each ≤ 100) :
    Calls Try.prog 56 #[.slice A m c] w fun e w' => e = .returned (.int .i64 (pgT xs each n)) ∧ Below w.heap.size w w' := by
  subst hm
  obtain ⟨he1, he2⟩ := he
  have HT := Lib.hid ht
  clear ht
  go_enter Try.func56, Try.ntmps56
  go_wp2_with fail
  go_loopw [3, 8] (fun x y wr => ∃ k : Nat, k ≤ m ∧ x = .int .i64 (pgT xs each k) ∧ y = .int .i64 k ∧ Below w.heap.size w wr) (fun _ y _ => (m - (intOf y).toNat))
  case atStart => exact ⟨0, by omega, rfl, rfl, Below.refl _ _⟩
  case round =>
    obtain ⟨k, hk, rfl, rfl, hbr⟩ := hrel
    obtain ⟨p1, p2⟩ := pgT_bd (xs := xs) (k := k) HT.out he1 hk
    by_cases hlt : k < m
    · obtain ⟨b, off, rfl, hbl, hc0⟩ := (H.below hbr).get hlt
      clear H
      rw [pgL_at hlt] at hc0
      obtain ⟨q1, q2⟩ := pgN_bd (HT.out k hlt) he1
      have HQ := Lib.hid (show pgT xs each (k + 1) = pgT xs each k + pgN (xs.getD k ScE.zero).f1 each from rfl)
      generalize pgN (xs.getD k ScE.zero).f1 each = y at *
      generalize pgT xs each k = p at *
      go_wp2
      go_roundw
      case rel =>
        refine ⟨k + 1, by omega, by rw [HQ.out], by go_num, ?_⟩
        repeat (first | exact Below.refl _ _ | refine bw_drew ?_ | refine bw_drewN ?_ _ | refine bw_set ?_ (by simp; try omega) _ | refine bw_alloc ?_ _ | refine bw_trans ?_ (by assumption) | assumption)
      case measure => simp [intOf]; omega
    · have hkk : k = m := by omega
      subst hkk
      clear H
      go_wp2
      go_ret
      refine ⟨rfl, ?_⟩
      repeat (first | exact Below.refl _ _ | refine bw_drew ?_ | refine bw_drewN ?_ _ | refine bw_set ?_ (by simp; try omega) _ | refine bw_alloc ?_ _ | refine bw_trans ?_ (by assumption) | assumption)

set_option maxHeartbeats 800000 in
theorem errorOf_any (A : Option Addr) (n c : Nat) (xs : List ScE) (each : Int) (w : World) (H : SlSc w A n xs) (hn : n ≤ 12) (ht : tkOk xs n) (he : 1 ≤ each ∧ each ≤ 100) :
    Calls Try.prog 54 #[.slice A n c, .int .i64 each] w fun e w' => e = .returned (.int .i64 (erT xs each n)) ∧ Below w.heap.size w w' := by
  have HT := Lib.hid ht
  have HE := Lib.hid he
  obtain ⟨he1, he2⟩ := he
  clear ht
  go_enter Try.func54, Try.ntmps54
  go_wp2_with fail
  refine (pagesOf_any A n c xs each _ H hn HT.out HE.out).mono ?_
  rintro e w1 ⟨A', c', rfl, HS, hb1⟩
  have HL := pgL_len xs each n
  rw [HL] at HS
  rw [HL]
  clear HL
  go_wp2_with fail
  go_loopw [5, 12] (fun x y wr => ∃ k : Nat, k ≤ n ∧ x = .int .i64 (erT xs each k) ∧ y = .int .i64 k ∧ Below w.heap.size w wr ∧ Below w1.heap.size w1 wr) (fun _ y _ => (n - (intOf y).toNat))
  case atStart => exact ⟨0, by omega, rfl, rfl, hb1, Below.refl _ _⟩
  case round =>
    obtain ⟨k, hk, rfl, rfl, hbr, hbr1⟩ := hrel
    obtain ⟨p1, p2⟩ := erT_bd (xs := xs) (k := k) HT.out HE.out hk
    by_cases hlt : k < n
    · obtain ⟨b, off, rfl, hbl, hc0⟩ := (HS.below hbr1).get hlt
      obtain ⟨b', off', rfl, hbl', hd0, hd1⟩ := (H.below hbr).get hlt
      clear H HS
      rw [pgL_at hlt] at hc0
      obtain ⟨q1, q2⟩ := pgN_bd (HT.out k hlt) he1
      obtain ⟨m1, m2⟩ := pgM_bd (HT.out k hlt) HE.out
      obtain ⟨t1, t2⟩ := HT.out k hlt
      have HQ := Lib.hid (show erT xs each (k + 1) = erT xs each k + ((pgN (xs.getD k ScE.zero).f1 each * each - (xs.getD k ScE.zero).f1).natAbs : Int) from rfl)
      generalize xs.getD k ScE.zero = z at *
      generalize pgN z.f1 each = y at *
      generalize erT xs each k = p at *
      go_wp2_with fail
      refine (apart_any _ _ _ ⟨by omega, by omega⟩ ⟨by omega, by omega⟩).mono ?_
      rintro e w' ⟨rfl, rfl⟩
      go_wp2
      go_roundw
      case rel =>
        exact ⟨k + 1, by omega, by rw [HQ.out], by go_num, hbr, hbr1⟩
      case measure => simp [intOf]; omega
    · have hkk : k = n := by omega
      subst hkk
      clear H HS
      go_wp2
      go_ret
      exact ⟨rfl, hbr⟩
end Go.Proofs.Ytnjndlngkoadfaa
