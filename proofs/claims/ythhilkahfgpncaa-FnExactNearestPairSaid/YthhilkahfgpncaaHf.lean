/-
  The nearest lens: in the program and in the reference; the law.
-/
import Derived.Test.YthhilkahfgpncaaHb
import Derived.Test.YthhilkahfgpncaaRowE
import Derived.Test.YthhilkahfgpncaaGcd
namespace Go.Proofs.Ythhilkahfgpncaa
open Go.RowKit

theorem SlI.cell {w : World} {n j b off : Nat} {xs : List Int} (h : SlI w (some ⟨b, off, none⟩) n xs) (hj : j < n) : w.cell? ⟨b, off + j, none⟩ = some (.int .i64 (xs.getD j 0)) := by
  obtain ⟨b', off', e, _, hc⟩ := h.get hj
  injection e with e
  injection e with e1 e2
  subst e1; subst e2; exact hc
theorem toInts_is (A : Option Addr) (n c : Nat) (xs : List Int) (w : World) (H : SlI w A n xs) (hn : n ≤ 1048576) :
    Calls Try.prog 25 #[.slice A n c] w fun e w' => e = .returned (.slice (some ⟨w.heap.size, 0, none⟩) n n) ∧ w.alloc (.cells (xs.map (Value.int .i64)).toArray 2) = w' :=
  (toInts_any A n c xs w H hn).mono fun _ _ ⟨h1, h2⟩ => ⟨h1, h2.symm⟩

theorem apart_any (a b : Int) (w : World) (ha : -1000000000000 ≤ a ∧ a ≤ 1000000000000) (hb : -1000000000000 ≤ b ∧ b ≤ 1000000000000) :
    Calls Try.prog 67 #[.int .i64 a, .int .i64 b] w fun e w' => e = .returned (.int .i64 ((a - b).natAbs : Int)) ∧ w = w' := by
  obtain ⟨a1, a2⟩ := ha
  obtain ⟨b1, b2⟩ := hb
  go_enter Try.func67, Try.ntmps67
  go_wp2
  all_goals
    go_ret
    exact ⟨ret_int (by omega), rfl⟩

/-- The code of lenses and a wanted focal length. -/
def liC (xs : List Int) (n : Nat) (wd least : Int) : Int := if lkB xs n 12 && isFo wd then (if (n : Int) < least then 3 else 0) else 2

set_option maxHeartbeats 800000 in
theorem l10List_any (A : Option Addr) (n c : Nat) (xs : List Int) (wd least : Int) (w : World) (H : SlI w A n xs) (hn : n ≤ 1048576) :
    Calls Try.prog 63 #[.slice A n c, .int .i64 wd, .int .i64 least] w fun e w' => e = .returned (.int .i64 (liC xs n wd least)) ∧ w = w' := by
  have HL := Lib.hid H.length
  go_enter Try.func63, Try.ntmps63
  go_wp2_with fail
  go_loop [7] (fun x => ∃ k : Nat, k ≤ n ∧ x = .int .i64 k ∧ Hid (∀ j, j < k → notFo (xs.getD j 0) = false)) (fun x => (n - (intOf x).toNat))
  case atStart => exact ⟨0, by omega, rfl, fun j hj => absurd hj (by omega)⟩
  case round =>
    obtain ⟨k, hk, rfl, hno⟩ := hrel
    by_cases hlt : k < n
    · obtain ⟨b, off, rfl, hbl, hc⟩ := H.get hlt
      cases hp : isFo (xs.getD k 0)
      · have hbad : liC xs n wd least = 2 := by
          have h1 : notFo (xs.getD k 0) = true := by unfold notFo; rw [hp]; rfl
          have h2 := any_true (by rw [HL.out]; exact hlt) h1
          unfold liC lkB allFo; rw [h2]; simp
        have HB := Lib.hid hbad
        clear hbad H
        generalize xs.getD k 0 = x at *
        go_wp2_with (go_at_call 93; refine (l10Focal_is hp _).mono ?_; rintro e w1 ⟨rfl, rfl⟩)
        go_ret
        exact ⟨ret_int HB.out.symm, rfl⟩
      · have hn' : ∀ j, j < k + 1 → notFo (xs.getD j 0) = false := fun j hj => by
          rcases Nat.lt_or_ge j k with h | h
          · exact hno.out j h
          · have : j = k := by omega
            subst this; unfold notFo; rw [hp]; rfl
        have HN := Lib.hid hn'
        clear hn' H
        generalize xs.getD k 0 = x at hc hp
        go_wp2_with (go_at_call 93; refine (l10Focal_is hp _).mono ?_; rintro e w1 ⟨rfl, rfl⟩)
        go_round
        case rel => exact ⟨k + 1, by omega, by go_num, HN.out⟩
        case measure => simp [intOf]; omega
    · have hkk : k = n := by omega
      subst hkk
      have hall : allFo xs = true := by
        have := any_false (p := notFo) (xs := xs) (fun j hj => hno.out j (by rw [← HL.out]; exact hj))
        unfold allFo; rw [this]; rfl
      have HA := Lib.hid hall
      clear hall H
      cases h1 : isFo wd
      · go_wp2_with (go_at_call 93; refine (l10Focal_is h1 _).mono ?_; rintro e w1 ⟨rfl, rfl⟩)
        go_ret
        exact ⟨ret_int (by simp [liC, h1]), rfl⟩
      by_cases h2 : (k : Int) ≤ 12
      · have d1 : decide (12 < (k : Int)) = false := decide_eq_false (by omega)
        by_cases h3 : (k : Int) < least
        · go_wp2_with (go_at_call 93; refine (l10Focal_is h1 _).mono ?_; rintro e w1 ⟨rfl, rfl⟩)
          go_ret
          exact ⟨ret_int (by simp [liC, lkB, HA.out, h1, show (k : Int) ≤ 12 from by omega, show (k : Int) < least from by omega]), rfl⟩
        · go_wp2_with (go_at_call 93; refine (l10Focal_is h1 _).mono ?_; rintro e w1 ⟨rfl, rfl⟩)
          go_ret
          exact ⟨ret_int (by simp [liC, lkB, HA.out, h1, show (k : Int) ≤ 12 from by omega, show ¬ (k : Int) < least from by omega]), rfl⟩
      · have d1 : decide (12 < (k : Int)) = true := decide_eq_true (by omega)
        go_wp2_with (go_at_call 93; refine (l10Focal_is h1 _).mono ?_; rintro e w1 ⟨rfl, rfl⟩)
        go_ret
        exact ⟨ret_int (by simp [liC, lkB, show ¬ (k : Int) ≤ 12 from by omega]), rfl⟩
/-- The place of the nearest of the first k numbers. -/
def nbT (xs : List Int) (wd : Int) : Nat → Nat
  | 0 => 0
  | k + 1 => if (xs.getD k 0 - wd).natAbs < (xs.getD (nbT xs wd k) 0 - wd).natAbs then k else nbT xs wd k
theorem nbT_lt (xs : List Int) (wd : Int) (k : Nat) : nbT xs wd k ≤ k - 1 := by
  induction k with
  | zero => simp [nbT]
  | succ k ih => unfold nbT; split <;> omega
theorem nbT_yes {xs : List Int} {wd : Int} {k : Nat} (h : (xs.getD k 0 - wd).natAbs < (xs.getD (nbT xs wd k) 0 - wd).natAbs) : nbT xs wd (k + 1) = k := by
  conv => lhs; unfold nbT
  rw [if_pos h]
theorem nbT_no {xs : List Int} {wd : Int} {k : Nat} (h : ¬ (xs.getD k 0 - wd).natAbs < (xs.getD (nbT xs wd k) 0 - wd).natAbs) : nbT xs wd (k + 1) = nbT xs wd k := by
  conv => lhs; unfold nbT
  rw [if_neg h]
def nlN (xs : List Int) (n : Nat) (wd : Int) : Int := if liC xs n wd 1 = 0 then (nbT xs wd n : Int) else 0
theorem li_one (xs : List Int) (n : Nat) (wd : Int) : (liC xs n wd 1 = 2 ∧ (lkB xs n 12 && isFo wd) = false) ∨ (liC xs n wd 1 = 3 ∧ lkB xs n 12 = true ∧ isFo wd = true ∧ n = 0) ∨ (liC xs n wd 1 = 0 ∧ lkB xs n 12 = true ∧ isFo wd = true ∧ 1 ≤ n ∧ n ≤ 12) := by
  unfold liC
  cases h1 : lkB xs n 12 <;> cases h2 : isFo wd <;> simp
  unfold lkB at h1
  rw [Bool.and_eq_true, decide_eq_true_iff] at h1
  omega

set_option maxRecDepth 100000 in
set_option maxHeartbeats 800000 in
theorem nearestLens_any (A : Option Addr) (n c : Nat) (xs : List Int) (wd : Int) (w : World) (H : SlI w A n xs) (hn : n ≤ 1048576) :
    Calls Try.prog 26 #[.slice A n c, .int .i64 wd] w fun e w' => e = .returned (.tuple #[.int .i64 (nlN xs n wd), .int .i64 (liC xs n wd 1)]) ∧ Below w.heap.size w w' := by
  rcases li_one xs n wd with ⟨h1, h2⟩ | ⟨h1, h2, h3, h4⟩ | ⟨h1, h2, h3, h4, h5⟩
  case inl =>
    cases hk : lkB xs n 12
    · have H1 := Lib.hid h1
      clear h1 h2
      go_enter Try.func26, Try.ntmps26
      go_wp2_with fail
      refine (lensesOk_is A n c xs _ _ H hn hk).mono ?_
      rintro e w1 ⟨rfl, hb1⟩
      go_wp2
      go_ret2
      exact ⟨by simp [nlN, H1.out], hb1⟩
    · have hf : isFo wd = false := by rw [hk] at h2; simpa using h2
      have H1 := Lib.hid h1
      clear h1 h2
      go_enter Try.func26, Try.ntmps26
      go_wp2_with fail
      refine (lensesOk_is A n c xs _ _ H hn hk).mono ?_
      rintro e w1 ⟨rfl, hb1⟩
      go_wp2_with (go_at_call 66; refine (isFocal_is hf _).mono ?_; rintro e w1 ⟨rfl, rfl⟩)
      go_ret2
      exact ⟨by simp [nlN, H1.out], hb1⟩
  case inr.inl =>
    subst h4
    have H1 := Lib.hid h1
    clear h1
    go_enter Try.func26, Try.ntmps26
    go_wp2_with fail
    refine (lensesOk_is A 0 c xs _ _ H hn h2).mono ?_
    rintro e w1 ⟨rfl, hb1⟩
    go_wp2_with (go_at_call 66; refine (isFocal_is h3 _).mono ?_; rintro e w1 ⟨rfl, rfl⟩)
    go_ret2
    exact ⟨by simp [nlN, H1.out], hb1⟩
  case inr.inr =>
    have hN : nlN xs n wd = (nbT xs wd n : Int) := by unfold nlN; rw [if_pos h1]
    have HN := Lib.hid hN
    have H1 := Lib.hid h1
    have hall : allFo xs = true := by unfold lkB at h2; rw [Bool.and_eq_true] at h2; exact h2.2
    have HA := Lib.hid hall
    have HL := Lib.hid H.length
    obtain ⟨d1, d2⟩ := isFo_true.1 h3
    have hz : ((n : Int) == 0) = false := by simp; omega
    clear h1 hN hall
    go_enter Try.func26, Try.ntmps26
    go_wp2_with fail
    refine (lensesOk_is A n c xs _ _ H hn h2).mono ?_
    rintro e w1 ⟨rfl, hb1⟩
    go_wp2_with (go_at_call 66; refine (isFocal_is h3 _).mono ?_; rintro e w1 ⟨rfl, rfl⟩)
    clear h2 h3
    go_loopw [6, 24] (fun x y wr => ∃ k j : Nat, k ≤ n ∧ x = .int .i64 j ∧ y = .int .i64 k ∧ Hid (nbT xs wd k = j) ∧ Below w.heap.size w wr) (fun _ y _ => (n - (intOf y).toNat))
    case atStart => exact ⟨0, 0, by omega, rfl, rfl, rfl, hb1⟩
    case round =>
      obtain ⟨k, j, hk, rfl, rfl, hj, hbr⟩ := hrel
      by_cases hlt : k < n
      · have hjk := nbT_lt xs wd k
        rw [hj.out] at hjk
        have hjn : j < n := by omega
        obtain ⟨b, off, rfl, hbl, hc⟩ := (H.below hbr).get hlt
        have hc' := (H.below hbr).cell hjn
        clear H hjk
        obtain ⟨x1, x2⟩ := allFo_at HA.out (k := k) (by rw [HL.out]; exact hlt)
        obtain ⟨y1, y2⟩ := allFo_at HA.out (k := j) (by rw [HL.out]; exact hjn)
        have hik : (k : Int) < (n : Int) := by omega
        have hij : (j : Int) < (n : Int) := by omega
        have hyes : (xs.getD k 0 - wd).natAbs < (xs.getD j 0 - wd).natAbs → nbT xs wd (k + 1) = k := fun h => nbT_yes (by rw [hj.out]; exact h)
        have hno : ¬ (xs.getD k 0 - wd).natAbs < (xs.getD j 0 - wd).natAbs → nbT xs wd (k + 1) = j := fun h => (nbT_no (by rw [hj.out]; exact h)).trans hj.out
        have HYES := Lib.hid hyes
        have HNO := Lib.hid hno
        clear hyes hno
        generalize xs.getD k 0 = x at *
        generalize xs.getD j 0 = y at *
        by_cases hxy : (x - wd).natAbs < (y - wd).natAbs
        · have HQ := Lib.hid (HYES.out hxy)
          have hxy' : (((x - wd).natAbs : Nat) : Int) < (((y - wd).natAbs : Nat) : Int) := by omega
          clear hxy HYES HNO
          go_wp2_with fail
          refine wp_region_bel (by kernel_rfl) (by kernel_rfl) ?_
          repeat (go_big_quiet_step (((go_at_call 67; exact calm_same (apart_any _ _ _ ⟨by omega, by omega⟩ ⟨by omega, by omega⟩)))))
          refine wpQuiet_nil ?_
          intro w2 hw'
          obtain ⟨tq, hw''⟩ := hw'
          have hw2 := tq.2
          rw [← hw''] at hw2
          clear hw'' tq
          obtain ⟨hcw2, hfw2⟩ := bcell hw2
          try (have hzw2 : w.heap.size < w2.heap.size := by (have h := hw2.size; (try simp at h); omega))
          try (have hyw2 : w.heap.size + 1 < w2.heap.size := by (have h := hw2.size; (try simp at h); omega))
          try (have hxw2 : w.heap.size + 1 + 1 < w2.heap.size := by (have h := hw2.size; (try simp at h); omega))
          try (have hvw2 : w.heap.size + 1 + 1 + 1 < w2.heap.size := by (have h := hw2.size; (try simp at h); omega))
          go_wp2_with fail
          go_roundw
          case rel => exact ⟨k + 1, k, by omega, rfl, by go_num, HQ.out, bw_trans hbr hw2⟩
          case measure => simp [intOf]; omega
        · have HQ := Lib.hid (HNO.out hxy)
          have hxy' : ¬ (((x - wd).natAbs : Nat) : Int) < (((y - wd).natAbs : Nat) : Int) := by omega
          clear hxy HYES HNO
          go_wp2_with fail
          refine wp_region_bel (by kernel_rfl) (by kernel_rfl) ?_
          repeat (go_big_quiet_step (((go_at_call 67; exact calm_same (apart_any _ _ _ ⟨by omega, by omega⟩ ⟨by omega, by omega⟩)))))
          refine wpQuiet_nil ?_
          intro w2 hw'
          obtain ⟨tq, hw''⟩ := hw'
          have hw2 := tq.2
          rw [← hw''] at hw2
          clear hw'' tq
          obtain ⟨hcw2, hfw2⟩ := bcell hw2
          try (have hzw2 : w.heap.size < w2.heap.size := by (have h := hw2.size; (try simp at h); omega))
          try (have hyw2 : w.heap.size + 1 < w2.heap.size := by (have h := hw2.size; (try simp at h); omega))
          try (have hxw2 : w.heap.size + 1 + 1 < w2.heap.size := by (have h := hw2.size; (try simp at h); omega))
          try (have hvw2 : w.heap.size + 1 + 1 + 1 < w2.heap.size := by (have h := hw2.size; (try simp at h); omega))
          go_wp2_with fail
          go_roundw
          case rel => exact ⟨k + 1, j, by omega, rfl, by go_num, HQ.out, bw_trans hbr hw2⟩
          case measure => simp [intOf]; omega
      · have hkk : k = n := by omega
        subst hkk
        clear H
        go_wp2
        go_ret2
        exact ⟨by rw [HN.out, H1.out, hj.out]; rfl, hbr⟩
end Go.Proofs.Ythhilkahfgpncaa
