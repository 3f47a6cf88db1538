/-
  The nearest pair of lenses: plain law; in the reference.
-/
import Derived.Test.YthhilkahfgpncaaHf
import Derived.Test.YthhilkahfgpncaaHq
import Derived.Test.YthhilkahfgpncaaFrac
namespace Go.Proofs.Ythhilkahfgpncaa
open Go.RowKit

/-- How far a pair is from what is wanted: a number and what it is divided by. -/
def nnP (xs : List Int) (wd : Int) (p : Nat × Nat) : Int := ((xs.getD p.1 0 * xs.getD p.2 0 - wd * (xs.getD p.1 0 + xs.getD p.2 0)).natAbs : Int)
def ddP (xs : List Int) (p : Nat × Nat) : Int := xs.getD p.1 0 + xs.getD p.2 0
/-- The same in lowest terms. -/
def onP (xs : List Int) (wd : Int) (p : Nat × Nat) : Int := ((lowNum (xs.getD p.1 0 * xs.getD p.2 0) (ddP xs p) - wd * lowDen (xs.getD p.1 0 * xs.getD p.2 0) (ddP xs p)).natAbs : Int)
def odP (xs : List Int) (p : Nat × Nat) : Int := lowDen (xs.getD p.1 0 * xs.getD p.2 0) (ddP xs p)
def lsP (xs : List Int) (wd : Int) (p q : Nat × Nat) : Bool := decide (nnP xs wd p * ddP xs q < nnP xs wd q * ddP xs p)
def inT (xs : List Int) (wd : Int) (i : Nat) : Nat → Nat × Nat → Nat × Nat
  | 0, s => s
  | j + 1, s => if lsP xs wd (i, i + 1 + j) (inT xs wd i j s) then (i, i + 1 + j) else inT xs wd i j s
def ouT (xs : List Int) (wd : Int) (n : Nat) : Nat → Nat × Nat
  | 0 => (0, 1)
  | i + 1 => inT xs wd i (n - (i + 1)) (ouT xs wd n i)
theorem in_yes {xs : List Int} {wd : Int} {i j : Nat} {s : Nat × Nat} (h : lsP xs wd (i, i + 1 + j) (inT xs wd i j s) = true) : inT xs wd i (j + 1) s = (i, i + 1 + j) := if_pos h
theorem in_no {xs : List Int} {wd : Int} {i j : Nat} {s : Nat × Nat} (h : lsP xs wd (i, i + 1 + j) (inT xs wd i j s) = false) : inT xs wd i (j + 1) s = inT xs wd i j s := if_neg (by rw [h]; simp)
theorem in_lt {xs : List Int} {wd : Int} {i j n : Nat} {s : Nat × Nat} (hs : s.1 < n ∧ s.2 < n) (hj : i + 1 + j ≤ n) : (inT xs wd i j s).1 < n ∧ (inT xs wd i j s).2 < n := by
  induction j with
  | zero => exact hs
  | succ j ih =>
    have := ih (by omega)
    cases h : lsP xs wd (i, i + 1 + j) (inT xs wd i j s)
    · rw [in_no h]; exact this
    · rw [in_yes h]; exact ⟨by show i < n; omega, by show i + 1 + j < n; omega⟩
theorem ou_lt {xs : List Int} {wd : Int} {n i : Nat} (hn : 2 ≤ n) (hi : i ≤ n) : (ouT xs wd n i).1 < n ∧ (ouT xs wd n i).2 < n := by
  induction i with
  | zero => exact ⟨by show 0 < n; omega, by show 1 < n; omega⟩
  | succ i ih => exact in_lt (ih (by omega)) (by omega)
theorem fo2 {xs : List Int} (h : foAll xs) {p : Nat × Nat} {n : Nat} (hl : xs.length = n) (hp : p.1 < n ∧ p.2 < n) : (1 ≤ xs.getD p.1 0 ∧ xs.getD p.1 0 ≤ 2000) ∧ (1 ≤ xs.getD p.2 0 ∧ xs.getD p.2 0 ≤ 2000) :=
  ⟨h p.1 (by omega), h p.2 (by omega)⟩
theorem mulB {a b A B : Int} (ha : 0 ≤ a) (hA : a ≤ A) (hb : 0 ≤ b) (hB : b ≤ B) : 0 ≤ a * b ∧ a * b ≤ A * B :=
  ⟨Int.mul_nonneg ha hb, Int.mul_le_mul hA hB hb (by omega)⟩
theorem abs_mul_nat (a g : Int) (hg : 0 ≤ g) : ((a * g).natAbs : Int) = (a.natAbs : Int) * g := by
  rw [Int.natAbs_mul, Int.natCast_mul, Int.natAbs_of_nonneg hg]
theorem on_nn (xs : List Int) (wd : Int) (p : Nat × Nat) : onP xs wd p * gcdI (xs.getD p.1 0 * xs.getD p.2 0) (ddP xs p) = nnP xs wd p ∧ odP xs p * gcdI (xs.getD p.1 0 * xs.getD p.2 0) (ddP xs p) = ddP xs p := by
  have h1 := @lowNum_mul (xs.getD p.1 0 * xs.getD p.2 0) (ddP xs p)
  have h2 := @lowDen_mul (xs.getD p.1 0 * xs.getD p.2 0) (ddP xs p)
  have hg := gcdI_nonneg (xs.getD p.1 0 * xs.getD p.2 0) (ddP xs p)
  refine ⟨?_, h2⟩
  unfold onP nnP
  rw [← abs_mul_nat _ _ hg, Int.sub_mul, Int.mul_assoc, h1, h2]
  rfl
/-- Fractions in lowest terms compare as the pairs themselves. -/
theorem on_ls {xs : List Int} {wd : Int} {p q : Nat × Nat} (hp : 1 ≤ ddP xs p) (hq : 1 ≤ ddP xs q) : (onP xs wd p * odP xs q < onP xs wd q * odP xs p) ↔ nnP xs wd p * ddP xs q < nnP xs wd q * ddP xs p := by
  obtain ⟨a1, a2⟩ := on_nn xs wd p
  obtain ⟨b1, b2⟩ := on_nn xs wd q
  have g1 := gcdI_pos (a := xs.getD p.1 0 * xs.getD p.2 0) (b := ddP xs p) (by omega)
  have g2 := gcdI_pos (a := xs.getD q.1 0 * xs.getD q.2 0) (b := ddP xs q) (by omega)
  generalize gcdI (xs.getD p.1 0 * xs.getD p.2 0) (ddP xs p) = g at *
  generalize gcdI (xs.getD q.1 0 * xs.getD q.2 0) (ddP xs q) = h at *
  have e1 : nnP xs wd p * ddP xs q = onP xs wd p * odP xs q * (g * h) := by
    rw [← a1, ← b2, Int.mul_assoc, Int.mul_assoc, Int.mul_left_comm g]
  have e2 : nnP xs wd q * ddP xs p = onP xs wd q * odP xs p * (g * h) := by
    rw [← b1, ← a2, Int.mul_assoc, Int.mul_assoc, Int.mul_left_comm h, Int.mul_comm h g]
  rw [e1, e2]
  have gh : 0 < g * h := Int.mul_pos (by omega) (by omega)
  exact ⟨fun hh => Int.mul_lt_mul_of_pos_right hh gh, fun hh => Int.lt_of_mul_lt_mul_right hh (by omega)⟩
def npR (xs : List Int) (n : Nat) (wd : Int) : Int × Int × Int := if liC xs n wd 2 = 0 then (((ouT xs wd n n).1 : Int), ((ouT xs wd n n).2 : Int), 0) else (0, 0, liC xs n wd 2)
theorem np_yes {xs : List Int} {n : Nat} {wd : Int} (h : liC xs n wd 2 = 0) : npR xs n wd = (((ouT xs wd n n).1 : Int), ((ouT xs wd n n).2 : Int), 0) := if_pos h
theorem np_no {xs : List Int} {n : Nat} {wd : Int} (h : ¬ liC xs n wd 2 = 0) : npR xs n wd = (0, 0, liC xs n wd 2) := if_neg h
theorem li_two (xs : List Int) (n : Nat) (wd : Int) : (liC xs n wd 2 = 2 ∧ (lkB xs n 12 && isFo wd) = false) ∨ (liC xs n wd 2 = 3 ∧ lkB xs n 12 = true ∧ isFo wd = true ∧ n < 2) ∨ (liC xs n wd 2 = 0 ∧ lkB xs n 12 = true ∧ isFo wd = true ∧ 2 ≤ n ∧ n ≤ 12) := by
  unfold liC
  cases h1 : lkB xs n 12 <;> cases h2 : isFo wd <;> simp
  unfold lkB at h1
  rw [Bool.and_eq_true, decide_eq_true_iff] at h1
  omega

theorem l10Off_any (a b wd : Int) (w : World) (ha : 1 ≤ a ∧ a ≤ 2000) (hb : 1 ≤ b ∧ b ≤ 2000) (hw : 1 ≤ wd ∧ wd ≤ 2000) :
    Calls Try.prog 74 #[.int .i64 a, .int .i64 b, .int .i64 wd] w fun e w' => e = .returned (.tuple #[.int .i64 ((a * b - wd * (a + b)).natAbs : Int), .int .i64 (a + b)]) ∧ w = w' := by
  obtain ⟨m1, m2⟩ := mulB (a := a) (b := b) (A := 2000) (B := 2000) (by omega) (by omega) (by omega) (by omega)
  obtain ⟨m3, m4⟩ := mulB (a := wd) (b := a + b) (A := 2000) (B := 4000) (by omega) (by omega) (by omega) (by omega)
  obtain ⟨a1, a2⟩ := ha
  obtain ⟨b1, b2⟩ := hb
  go_enter Try.func74, Try.ntmps74
  go_wp2_with (go_at_call 64; refine (l00Size_any _ _ (by omega) (by omega)).mono ?_; rintro e w1 ⟨rfl, rfl⟩)
  go_ret2
  exact ⟨rfl, rfl⟩

set_option maxRecDepth 100000 in
set_option maxHeartbeats 3200000 in
theorem sNearestPair_any (A : Option Addr) (n c : Nat) (xs : List Int) (wd : Int) (w : World) (H : SlI w A n xs) (hn : n ≤ 1048576) :
    Calls Try.prog 33 #[.slice A n c, .int .i64 wd] w fun e w' => e = .returned (.tuple #[.int .i64 (npR xs n wd).1, .int .i64 (npR xs n wd).2.1, .int .i64 (npR xs n wd).2.2]) ∧ Below w.heap.size w w' := by
  have HLI := Lib.hid (l10List_any A n c xs wd 2 w H hn)
  by_cases hc : liC xs n wd 2 = 0
  case neg =>
    rw [np_no hc]
    have hce : (liC xs n wd 2 != 0) = true := by simpa using hc
    clear H
    generalize liC xs n wd 2 = C at *
    go_enter Try.func33, Try.ntmps33
    go_wp2_with fail
    refine HLI.out.mono ?_
    rintro e w' ⟨rfl, rfl⟩
    go_wp2
    go_ret3
    exact ⟨rfl, Below.refl _ _⟩
  rw [np_yes hc]
  obtain ⟨n2, n12, hfo, hwd⟩ : 2 ≤ n ∧ n ≤ 12 ∧ foAll xs ∧ isFo wd = true := by
    rcases li_two xs n wd with ⟨h, _⟩ | ⟨h, _⟩ | ⟨_, h2, h3, h4, h5⟩
    · rw [h] at hc; cases hc
    · rw [h] at hc; cases hc
    · exact ⟨h4, h5, fun _ hk => allFo_at (lk_len h2).2 hk, h3⟩
  obtain ⟨d1, d2⟩ := isFo_true.1 hwd
  have HF := Lib.hid hfo
  have HL := Lib.hid H.length
  rw [hc] at HLI
  clear hc hfo hwd
  go_enter Try.func33, Try.ntmps33
  go_wp2_with fail
  refine HLI.out.mono ?_
  rintro e w' ⟨rfl, rfl⟩
  clear HLI
  go_wp2_with fail
  go_loopg [8, 9, 10] n (fun gh x y z wr => ∃ i : Nat, i ≤ n ∧ gh = n - i ∧ x = .int .i64 ((ouT xs wd n i).1 : Int) ∧ y = .int .i64 ((ouT xs wd n i).2 : Int) ∧ z = .int .i64 i ∧ Below w.heap.size w wr)
  case atStart => exact ⟨0, by omega, by omega, rfl, rfl, rfl, Below.refl _ _⟩
  case round =>
    obtain ⟨i, hi, rfl, rfl, rfl, rfl, hbr⟩ := hrel
    have hst := ou_lt (xs := xs) (wd := wd) n2 hi
    by_cases hlt : i < n
    · obtain ⟨wo, rfl⟩ : ∃ wo : World, wo = wr := ⟨_, rfl⟩
      have HO := Lib.hid (show ouT xs wd n (i + 1) = inT xs wd i (n - (i + 1)) (ouT xs wd n i) from rfl)
      generalize ouT xs wd n i = S0 at *
      have hii : (i : Int) + 1 = ((i + 1 + 0 : Nat) : Int) := by simp
      have HII := Lib.hid hii
      clear hii
      go_wp2_with fail
      go_loopg [8, 9, 11] (n - (i + 1)) (fun gi x y z wq => ∃ j : Nat, i + 1 + j ≤ n ∧ gi = n - (i + 1) - j ∧ x = .int .i64 ((inT xs wd i j S0).1 : Int) ∧ y = .int .i64 ((inT xs wd i j S0).2 : Int) ∧ z = .int .i64 ((i + 1 + j : Nat) : Int) ∧ Below w.heap.size w wq)
      case atStart => exact ⟨0, by omega, by omega, rfl, rfl, by rw [← HII.out], hbr⟩
      case round =>
        obtain ⟨j, hj, rfl, rfl, rfl, rfl, hbq⟩ := hrel
        have hs := in_lt (xs := xs) (wd := wd) (i := i) hst hj
        have HY := Lib.hid (@in_yes xs wd i j S0)
        have HN := Lib.hid (@in_no xs wd i j S0)
        have HE := Lib.hid (show i + 1 + j = n → inT xs wd i (n - (i + 1)) S0 = inT xs wd i j S0 from fun h => by rw [show n - (i + 1) = j by omega])
        generalize inT xs wd i j S0 = S at *
        obtain ⟨X, Y⟩ := S
        obtain ⟨hX, hY⟩ := hs
        simp only at hX hY
        by_cases hjn : i + 1 + j < n
        · obtain ⟨K, hK⟩ : ∃ K, i + 1 + j = K := ⟨_, rfl⟩
          rw [hK] at hjn HY HN
          have HKE := Lib.hid hK
          rw [hK]
          have hci := (H.below hbq).get (k := i) (by omega)
          obtain ⟨b, off, rfl, hbl, hc0⟩ := hci
          have hc1 := (H.below hbq).cell (j := K) hjn
          have hc2 := (H.below hbq).cell (j := X) hX
          have hc3 := (H.below hbq).cell (j := Y) hY
          obtain ⟨f1, f2⟩ := fo2 HF.out (p := (i, K)) HL.out ⟨hlt, hjn⟩
          obtain ⟨f3, f4⟩ := fo2 HF.out (p := (X, Y)) HL.out ⟨hX, hY⟩
          have C1 := Lib.hid (fun W => l10Off_any _ _ wd W f1 f2 ⟨d1, d2⟩)
          have C2 := Lib.hid (fun W => l10Off_any _ _ wd W f3 f4 ⟨d1, d2⟩)
          have i0 : (i : Int) < (n : Int) := by omega
          have i1 : (K : Int) < (n : Int) := by omega
          have i2 : (X : Int) < (n : Int) := by omega
          have i3 : (Y : Int) < (n : Int) := by omega
          have hB : lsP xs wd (i, K) (X, Y) = decide (((xs.getD i 0 * xs.getD K 0 - wd * (xs.getD i 0 + xs.getD K 0)).natAbs : Int) * (xs.getD X 0 + xs.getD Y 0) < ((xs.getD X 0 * xs.getD Y 0 - wd * (xs.getD X 0 + xs.getD Y 0)).natAbs : Int) * (xs.getD i 0 + xs.getD K 0)) := rfl
          have HB := Lib.hid hB
          clear H hB hK
          simp only at f1 f2 f3 f4
          generalize xs.getD i 0 = u1 at *
          generalize xs.getD K 0 = u2 at *
          generalize xs.getD X 0 = u3 at *
          generalize xs.getD Y 0 = u4 at *
          obtain ⟨q1, q2⟩ := mulB (a := u1) (b := u2) (A := 2000) (B := 2000) (by omega) (by omega) (by omega) (by omega)
          obtain ⟨q3, q4⟩ := mulB (a := wd) (b := u1 + u2) (A := 2000) (B := 4000) (by omega) (by omega) (by omega) (by omega)
          obtain ⟨q5, q6⟩ := mulB (a := u3) (b := u4) (A := 2000) (B := 2000) (by omega) (by omega) (by omega) (by omega)
          obtain ⟨q7, q8⟩ := mulB (a := wd) (b := u3 + u4) (A := 2000) (B := 4000) (by omega) (by omega) (by omega) (by omega)
          generalize hP1 : (((u1 * u2 - wd * (u1 + u2)).natAbs : Nat) : Int) = P1 at *
          generalize hP2 : (((u3 * u4 - wd * (u3 + u4)).natAbs : Nat) : Int) = P2 at *
          have b1 : 0 ≤ P1 ∧ P1 ≤ 20000000 := by omega
          have b2 : 0 ≤ P2 ∧ P2 ≤ 20000000 := by omega
          clear hP1 hP2 q1 q2 q3 q4 q5 q6 q7 q8
          obtain ⟨r1, r2⟩ := mulB (a := P1) (b := u3 + u4) (A := 20000000) (B := 4000) (by omega) (by omega) (by omega) (by omega)
          obtain ⟨r3, r4⟩ := mulB (a := P2) (b := u1 + u2) (A := 20000000) (B := 4000) (by omega) (by omega) (by omega) (by omega)
          obtain ⟨f1a, f1b⟩ := f1
          obtain ⟨f2a, f2b⟩ := f2
          obtain ⟨f3a, f3b⟩ := f3
          obtain ⟨f4a, f4b⟩ := f4
          obtain ⟨b1a, b1b⟩ := b1
          obtain ⟨b2a, b2b⟩ := b2
          go_wp2_with fail
          refine wp_region_bel (by kernel_rfl) (by kernel_rfl) ?_
          repeat (go_big_quiet_step (((go_at_call 74; exact calm_same (C1.out _)))))
          refine wpQuiet_nil ?_
          intro w2 hw'
          obtain ⟨tq, hw''⟩ := hw'
          have hw2 := tq.2
          rw [← hw''] at hw2
          clear hw'' tq
          obtain ⟨hcw2, hfw2⟩ := bcell hw2
          try (have hzw2 : w.heap.size < w2.heap.size := by (have h := hw2.size; (try simp at h); omega))
          try (have hyw2 : w.heap.size + 1 < w2.heap.size := by (have h := hw2.size; (try simp at h); omega))
          try (have hxw2 : w.heap.size + 1 + 1 < w2.heap.size := by (have h := hw2.size; (try simp at h); omega))
          try (have hvw2 : w.heap.size + 1 + 1 + 1 < w2.heap.size := by (have h := hw2.size; (try simp at h); omega))
          have hc2' := cell_of hw2 hc2
          have hc3' := cell_of hw2 hc3
          have hbl2 := Nat.lt_of_lt_of_le hbl hw2.size
          clear hc0 hc1
          go_wp2_with fail
          refine wp_region_bel (by kernel_rfl) (by kernel_rfl) ?_
          repeat (go_big_quiet_step (((go_at_call 74; exact calm_same (C2.out _)))))
          refine wpQuiet_nil ?_
          intro w3 hw'
          obtain ⟨tq, hw''⟩ := hw'
          have hw3 := tq.2
          rw [← hw''] at hw3
          clear hw'' tq
          obtain ⟨hcw3, hfw3⟩ := bcell hw3
          try (have hzw3 : w.heap.size < w3.heap.size := by (have h := hw3.size; (try simp at h); omega))
          try (have hyw3 : w.heap.size + 1 < w3.heap.size := by (have h := hw3.size; (try simp at h); omega))
          try (have hxw3 : w.heap.size + 1 + 1 < w3.heap.size := by (have h := hw3.size; (try simp at h); omega))
          try (have hvw3 : w.heap.size + 1 + 1 + 1 < w3.heap.size := by (have h := hw3.size; (try simp at h); omega))
          clear hc2 hc3 hc2' hc3'
          have hb3 := bw_trans (bw_trans hbq hw2) hw3
          by_cases hl : P1 * (u3 + u4) < P2 * (u1 + u2)
          · have HQ := Lib.hid (HY.out (HB.out.trans (decide_eq_true hl)))
            go_wp2_with fail
            go_roundg (n - (i + 1) - (j + 1))
            case rel => exact ⟨j + 1, by have := HKE.out; omega, rfl, by rw [HQ.out], by rw [HQ.out], by rw [show i + 1 + (j + 1) = K + 1 by have := HKE.out; omega]; go_num, hb3⟩
            case measure => have := HKE.out; omega
          · have HQ := Lib.hid (HN.out (HB.out.trans (decide_eq_false hl)))
            go_wp2_with fail
            go_roundg (n - (i + 1) - (j + 1))
            case rel => exact ⟨j + 1, by have := HKE.out; omega, rfl, by rw [HQ.out], by rw [HQ.out], by rw [show i + 1 + (j + 1) = K + 1 by have := HKE.out; omega]; go_num, hb3⟩
            case measure => have := HKE.out; omega
        · have hjj : i + 1 + j = n := by omega
          have HQ := Lib.hid (HO.out.trans (HE.out hjj))
          rw [hjj]
          clear H hjj
          go_wp2_with fail
          go_roundg (n - (i + 1))
          case rel => exact ⟨i + 1, by omega, rfl, by rw [HQ.out], by rw [HQ.out], by go_num, hbq⟩
          case measure => omega
    · have hkk : i = n := by omega
      subst hkk
      clear H
      go_wp2
      go_ret3
      exact ⟨rfl, hbr⟩
end Go.Proofs.Ythhilkahfgpncaa
