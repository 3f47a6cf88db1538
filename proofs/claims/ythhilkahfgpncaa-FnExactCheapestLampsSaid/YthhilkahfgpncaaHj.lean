/-
  Valid halls: in the program and in the reference; the law.
-/
import Derived.Test.YthhilkahfgpncaaSh
import Derived.Test.YthhilkahfgpncaaAny
import Derived.Test.YthhilkahfgpncaaHc
namespace Go.Proofs.Ythhilkahfgpncaa
open Go.RowKit

def hvB (y : LhE) : Bool := vHa y.f0 y.f1 y.f2
def badH (y : LhE) : Bool := !hvB y
theorem hvClos_any (y : LhE) (w : World) :
    Calls Try.prog 61 #[.agg #[.int .i64 (y.f0), .int .i64 (y.f1), .int .i64 (y.f2)]] w fun e w' => e = .returned (.bool (badH y)) ∧ Below w.heap.size w w' := by
  obtain ⟨a, b, d⟩ := y
  cases h : vHa a b d
  · have h' : badH ⟨a, b, d⟩ = true := by unfold badH hvB; rw [h]; rfl
    have HH := Lib.hid h'
    clear h'
    go_enter Try.func61, Try.ntmps61
    go_wp2_with fail
    refine ((validHall_is h _)).mono ?_
    rintro e w1 ⟨rfl, hb1⟩
    obtain ⟨hc1, hf1⟩ := bcell hb1
    try (have hz1 : w.heap.size < w1.heap.size := by (have h := hb1.size; (try simp at h); omega))
    try (have hy1 : w.heap.size + 1 < w1.heap.size := by (have h := hb1.size; (try simp at h); omega))
    try (have hx1 : w.heap.size + 1 + 1 < w1.heap.size := by (have h := hb1.size; (try simp at h); omega))
    try (have hv1 : w.heap.size + 1 + 1 + 1 < w1.heap.size := by (have h := hb1.size; (try simp at h); omega))
    try (have hp1 : w.heap.size ≤ w1.heap.size := by omega)
    go_wp2
    go_ret
    refine ⟨ret_bool HH.out.symm, ?_⟩
    repeat (first | exact Below.refl _ _ | refine bw_drew ?_ | refine bw_drewN ?_ _ | refine bw_set ?_ (by simp; try omega) _ | refine bw_alloc ?_ _ | refine bw_trans ?_ (by assumption) | assumption)
  · have h' : badH ⟨a, b, d⟩ = false := by unfold badH hvB; rw [h]; rfl
    have HH := Lib.hid h'
    clear h'
    go_enter Try.func61, Try.ntmps61
    go_wp2_with fail
    refine ((validHall_is h _)).mono ?_
    rintro e w1 ⟨rfl, hb1⟩
    obtain ⟨hc1, hf1⟩ := bcell hb1
    try (have hz1 : w.heap.size < w1.heap.size := by (have h := hb1.size; (try simp at h); omega))
    try (have hy1 : w.heap.size + 1 < w1.heap.size := by (have h := hb1.size; (try simp at h); omega))
    try (have hx1 : w.heap.size + 1 + 1 < w1.heap.size := by (have h := hb1.size; (try simp at h); omega))
    try (have hv1 : w.heap.size + 1 + 1 + 1 < w1.heap.size := by (have h := hb1.size; (try simp at h); omega))
    try (have hp1 : w.heap.size ≤ w1.heap.size := by omega)
    go_wp2
    go_ret
    refine ⟨ret_bool HH.out.symm, ?_⟩
    repeat (first | exact Below.refl _ _ | refine bw_drew ?_ | refine bw_drewN ?_ _ | refine bw_set ?_ (by simp; try omega) _ | refine bw_alloc ?_ _ | refine bw_trans ?_ (by assumption) | assumption)

set_option maxHeartbeats 800000 in
theorem hvIdx_any (p : LhE → Bool)  (A : Option Addr) (n c : Nat) (xs : List LhE) (w : World) (H : SlLh w A n xs) (hn : n ≤ 1048576)
    (hcl : ∀ (y : LhE) W, Below w.heap.size w W → Calls Try.prog 61 #[.agg #[.int .i64 (y.f0), .int .i64 (y.f1), .int .i64 (y.f2)]] W fun e w' => e = .returned (.bool (p y)) ∧ Below W.heap.size W w') :
    Calls Try.prog 92 #[.slice A n c, .func (.func 61) #[] #[]] w fun e w' => e = .returned (.int .i64 (gidx p xs)) ∧ Below w.heap.size w w' := by
  have HL := Lib.hid H.1
  have HC := Lib.hid hcl
  clear hcl
  go_enter Try.func92, Try.ntmps92
  go_wp2_with fail
  go_loopw [8] (fun x wr => ∃ k : Nat, k ≤ n ∧ x = .int .i64 k ∧ Hid (∀ j, j < k → p (xs.getD j LhE.zero) = false) ∧ Below w.heap.size w wr) (fun x _ => (n - (intOf x).toNat))
  case atStart => exact ⟨0, by omega, rfl, fun j hj => absurd hj (by omega), Below.refl _ _⟩
  case round =>
    obtain ⟨k, hk, rfl, hno, hbr⟩ := hrel
    by_cases hlt : k < n
    · obtain ⟨b, off, rfl, hbl, hc0, hc1, hc2⟩ := (H.below hbr).get hlt
      clear H
      cases hp : p (xs.getD k LhE.zero)
      · have hn' : ∀ j, j < k + 1 → p (xs.getD j LhE.zero) = false := fun j hj => by
          rcases Nat.lt_or_ge j k with h | h
          · exact hno.out j h
          · have : j = k := by omega
            subst this; exact hp
        have HN := Lib.hid hn'
        clear hn'
        generalize xs.getD k LhE.zero = y at *
        go_wp2_with fail
        refine (HC.out y _ hbr).mono ?_
        rw [hp]
        rintro e w1 ⟨rfl, hb1⟩
        go_wp2_with fail
        go_roundw
        case rel => exact ⟨k + 1, by omega, by go_num, HN.out, bw_trans hbr hb1⟩
        case measure => simp [intOf]; omega
      · have HF := Lib.hid (gidx_at (by rw [HL.out]; exact hlt) hp hno.out)
        generalize xs.getD k LhE.zero = y at *
        go_wp2_with fail
        refine (HC.out y _ hbr).mono ?_
        rw [hp]
        rintro e w1 ⟨rfl, hb1⟩
        go_wp2
        go_ret
        exact ⟨ret_int (by rw [HF.out]), bw_trans hbr hb1⟩
    · have hkk : k = n := by omega
      subst hkk
      have HF := Lib.hid (gidx_none (fun j hj => hno.out j (by rw [← HL.out]; exact hj)))
      clear H
      go_wp2
      go_ret
      exact ⟨ret_int (by rw [HF.out]), hbr⟩

set_option maxHeartbeats 800000 in
theorem hvCon_any (p : LhE → Bool)  (A : Option Addr) (n c : Nat) (xs : List LhE) (w : World) (H : SlLh w A n xs) (hn : n ≤ 1048576) {b : Bool} (hb : xs.any p = b)
    (hcl : ∀ (y : LhE) W, Below w.heap.size w W → Calls Try.prog 61 #[.agg #[.int .i64 (y.f0), .int .i64 (y.f1), .int .i64 (y.f2)]] W fun e w' => e = .returned (.bool (p y)) ∧ Below W.heap.size W w') :
    Calls Try.prog 60 #[.slice A n c, .func (.func 61) #[] #[]] w fun e w' => e = .returned (.bool b) ∧ Below w.heap.size w w' := by
  have HF := Lib.hid (gidx_any p xs)
  have HB := Lib.hid hb
  clear hb
  go_enter Try.func60, Try.ntmps60
  go_wp2_with fail
  refine (hvIdx_any p  A n c xs w H hn hcl).mono ?_
  rintro e w1 ⟨rfl, hb1⟩
  go_wp2
  go_ret
  exact ⟨ret_bool (by rw [← HB.out, ← HF.out]), hb1⟩

/-- Valid halls. -/
def vhB (xs : List LhE) (n : Nat) : Bool := decide (n ≤ 8) && !xs.any badH
theorem vh_false2 {xs : List LhE} {n : Nat} (h : ¬ n ≤ 8) : vhB xs n = false := by unfold vhB; rw [decide_eq_false h]; simp
theorem vh_false3 {xs : List LhE} {n : Nat} (h : xs.any badH = true) : vhB xs n = false := by unfold vhB; rw [h]; simp
theorem vh_true {xs : List LhE} {n : Nat} (h2 : n ≤ 8) (h3 : xs.any badH = false) : vhB xs n = true := by unfold vhB; rw [h3, decide_eq_true h2]; rfl

set_option maxHeartbeats 800000 in
theorem validLensHalls_is (A : Option Addr) (n c : Nat) (xs : List LhE) (w : World) (H : SlLh w A n xs) (hn : n ≤ 1048576) {b : Bool} (hb : vhB xs n = b) :
    Calls Try.prog 22 #[.slice A n c] w fun e w' => e = .returned (.bool b) ∧ Below w.heap.size w w' := by
  by_cases h2 : n ≤ 8
  · have d2 : decide ((n : Int) ≤ 8) = true := decide_eq_true (by omega)
    cases h3 : xs.any badH
    · rw [vh_true h2 h3] at hb
      subst hb
      have H3 := Lib.hid h3
      clear h3
      go_enter Try.func22, Try.ntmps22
      go_wp2_with fail
      refine (hvCon_any badH A n c xs _ H hn H3.out (fun y W _ => hvClos_any y W)).mono ?_
      rintro e w1 ⟨rfl, hb1⟩
      go_wp2
      go_ret
      exact ⟨rfl, hb1⟩
    · rw [vh_false3 h3] at hb
      subst hb
      have H3 := Lib.hid h3
      clear h3
      go_enter Try.func22, Try.ntmps22
      go_wp2_with fail
      refine (hvCon_any badH A n c xs _ H hn H3.out (fun y W _ => hvClos_any y W)).mono ?_
      rintro e w1 ⟨rfl, hb1⟩
      go_wp2
      go_ret
      exact ⟨rfl, hb1⟩
  · have d2 : decide ((n : Int) ≤ 8) = false := decide_eq_false (by omega)
    rw [vh_false2 h2] at hb
    subst hb
    go_enter Try.func22, Try.ntmps22
    go_wp2_with fail
    go_ret
    exact ⟨rfl, Below.refl _ _⟩

set_option maxHeartbeats 800000 in
theorem l11Ok_is (A : Option Addr) (n c : Nat) (xs : List LhE) (w : World) (H : SlLh w A n xs) (hn : n ≤ 1048576) {b : Bool} (hb : vhB xs n = b) :
    Calls Try.prog 59 #[.slice A n c] w fun e w' => e = .returned (.bool b) ∧ Below w.heap.size w w' := by
  have HL := Lib.hid H.1
  have HB := Lib.hid hb
  clear hb
  go_enter Try.func59, Try.ntmps59
  go_wp2_with fail
  go_loopw [3] (fun x wr => ∃ k : Nat, k ≤ n ∧ x = .int .i64 k ∧ Hid (∀ j, j < k → badH (xs.getD j LhE.zero) = false) ∧ Below w.heap.size w wr) (fun x _ => (n - (intOf x).toNat))
  case atStart => exact ⟨0, by omega, rfl, fun j hj => absurd hj (by omega), Below.refl _ _⟩
  case round =>
    obtain ⟨k, hk, rfl, hno, hbr⟩ := hrel
    by_cases hlt : k < n
    · obtain ⟨bb, off, rfl, hbl, hc0, hc1, hc2⟩ := (H.below hbr).get hlt
      clear H
      cases hp : vHa (xs.getD k LhE.zero).f0 (xs.getD k LhE.zero).f1 (xs.getD k LhE.zero).f2
      · have hbad : b = false := by
          rw [← HB.out]
          exact vh_false3 (gany_true (d := LhE.zero) (k := k) (by rw [HL.out]; exact hlt) (by unfold badH hvB; rw [hp]; rfl))
        subst hbad
        clear HB
        generalize xs.getD k LhE.zero = y at *
        go_wp2_with fail
        refine (l11One_is hp bb (off + k * 3) _ hc0 hc1 hc2).mono ?_
        rintro e w1 ⟨rfl, hb1⟩
        go_wp2
        go_ret
        exact ⟨rfl, bw_trans hbr hb1⟩
      · have hn' : ∀ j, j < k + 1 → badH (xs.getD j LhE.zero) = false := fun j hj => by
          rcases Nat.lt_or_ge j k with h | h
          · exact hno.out j h
          · have : j = k := by omega
            subst this; unfold badH hvB; rw [hp]; rfl
        have HN := Lib.hid hn'
        clear hn'
        generalize xs.getD k LhE.zero = y at *
        go_wp2_with fail
        refine (l11One_is hp bb (off + k * 3) _ hc0 hc1 hc2).mono ?_
        rintro e w1 ⟨rfl, hb1⟩
        go_wp2_with fail
        go_roundw
        case rel => exact ⟨k + 1, by omega, by go_num, HN.out, bw_trans hbr hb1⟩
        case measure => simp [intOf]; omega
    · have hkk : k = n := by omega
      subst hkk
      have HA := Lib.hid (gany_false (p := badH) (xs := xs) (fun j hj => hno.out j (by rw [← HL.out]; exact hj)))
      clear H
      by_cases h2 : k ≤ 8
      · have d2 : decide ((k : Int) ≤ 8) = true := decide_eq_true (by omega)
        have hb' : b = true := by rw [← HB.out]; exact vh_true h2 HA.out
        subst hb'
        clear HB
        go_wp2
        go_ret
        exact ⟨rfl, hbr⟩
      · have d2 : decide ((k : Int) ≤ 8) = false := decide_eq_false (by omega)
        have hb' : b = false := by rw [← HB.out]; exact vh_false2 h2
        subst hb'
        clear HB
        go_wp2
        go_ret
        exact ⟨rfl, hbr⟩
theorem sValidLensHalls_is (A : Option Addr) (n c : Nat) (xs : List LhE) (w : World) (H : SlLh w A n xs) (hn : n ≤ 1048576) {b : Bool} (hb : vhB xs n = b) :
    Calls Try.prog 20 #[.slice A n c] w fun e w' => e = .returned (.bool b) ∧ Below w.heap.size w w' := by
  go_enter Try.func20, Try.ntmps20
  go_wp2_with fail
  refine (l11Ok_is A n c xs _ H hn hb).mono ?_
  rintro e w1 ⟨rfl, hb1⟩
  go_wp2
  go_ret
  exact ⟨rfl, hb1⟩

theorem Lhsz_any (A : Option Addr) (l c : Nat) (w : World) (hl : l ≤ 1048576) :
    Calls Try.prog 19 #[.slice A l c, .int .i64 1048576] w fun e w' => e = .returned (.int .i64 (1048576 - (l : Int))) ∧ Below w.heap.size w w' := by
  have h1 : ¬ (1048576 - (l : Int)) < 0 := by omega
  go_enter Try.func19, Try.ntmps19
  go_wp2
  go_ret
  refine ⟨rfl, ?_⟩
  repeat (first | exact Below.refl _ _ | refine bw_drew ?_ | refine bw_drewN ?_ _ | refine bw_set ?_ (by simp; try omega) _ | refine bw_alloc ?_ _ | refine bw_trans ?_ (by assumption) | assumption)
theorem LhszNo_any (A : Option Addr) (l c : Nat) (w : World) (hm : l ≤ 9223372036854775807) (hl : ¬ l ≤ 1048576) :
    Calls Try.prog 19 #[.slice A l c, .int .i64 1048576] w fun e w' => e = .returned (.int .i64 (-1)) ∧ Below w.heap.size w w' := by
  have h1 : (1048576 - (l : Int)) < 0 := by omega
  go_enter Try.func19, Try.ntmps19
  go_wp2
  go_ret
  refine ⟨rfl, ?_⟩
  repeat (first | exact Below.refl _ _ | refine bw_drew ?_ | refine bw_drewN ?_ _ | refine bw_set ?_ (by simp; try omega) _ | refine bw_alloc ?_ _ | refine bw_trans ?_ (by assumption) | assumption)

set_option maxRecDepth 100000 in
set_option maxHeartbeats 800000 in
theorem law_ValidLensHalls (a : Option Addr) (l c : Nat) (xs : List LhE) (w : World) (hm : l ≤ 9223372036854775807) (H0 : SlLh w a l xs) :
    Calls Try.prog 4 #[.slice a l c] w fun e w' => e = .returned (.bool true) ∧ Below w.heap.size w w' := by
  by_cases hn : l ≤ 1048576
  · have hni : ¬ (1048576 - (l : Int)) < 0 := by omega
    go_enter Try.func4, Try.ntmps4
    go_wp2_with fail
    refine (Lhsz_any a l c _ hn).mono ?_
    rintro e w0 ⟨rfl, hB0⟩
    go_wp2_with fail
    refine (LhtoS_any a l c xs _ (H0.below hB0) hn).mono ?_
    rintro e w1 ⟨rfl, HS, hb1⟩
    have hB1 := bw_trans hB0 hb1
    clear hb1
    go_wp2_with fail
    refine (sValidLensHalls_is  _ _ _ xs  _ HS hn rfl).mono ?_
    rintro e w2 ⟨rfl, hb2⟩
    have hB2 := bw_trans hB1 hb2
    clear hb2 HS
    go_wp2_with fail
    refine (LhtoS_any a l c xs _ (H0.below hB2) hn).mono ?_
    rintro e w3 ⟨rfl, HM, hb3⟩
    have hB3 := bw_trans hB2 hb3
    clear hb3
    go_wp2_with fail
    refine (validLensHalls_is  _ _ _ xs  _ HM hn rfl).mono ?_
    rintro e w4 ⟨rfl, hb4⟩
    have hB4 := bw_trans hB3 hb4
    have HM4 := HM.below hb4
    clear hb4 HM
    go_wp2_with fail
    refine (LhtoS_any a l c xs _ (H0.below hB4) hn).mono ?_
    rintro e w5 ⟨rfl, HQ, hb5⟩
    have HM5 := HM4.below hb5
    have hB5 := bw_trans hB4 hb5
    clear hb5 HM4
    go_wp2_with fail
    refine (LheqS_any _ _ _ _ _ xs _ HM5 HQ hn).mono ?_
    rintro e w6 ⟨rfl, hb6⟩
    clear HM5 HQ H0
    go_wp2
    go_ret
    exact ⟨rfl, bw_trans hB5 hb6⟩
  · clear H0
    go_enter Try.func4, Try.ntmps4
    go_wp2_with fail
    refine (LhszNo_any a l c _ hm hn).mono ?_
    rintro e w0 ⟨rfl, hB0⟩
    go_wp2
    go_ret
    exact ⟨rfl, hB0⟩
end Go.Proofs.Ythhilkahfgpncaa
