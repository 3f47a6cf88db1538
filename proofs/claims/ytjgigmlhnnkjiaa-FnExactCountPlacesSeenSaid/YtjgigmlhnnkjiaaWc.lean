/-
  ReturnAfter: in the program and in the reference; the law.
-/
import Derived.Test.YtjgigmlhnnkjiaaWb
import Derived.Test.YtjgigmlhnnkjiaaGcd
namespace Go.Proofs.Ytjgigmlhnnkjiaa
open Go.RowKit

/-- The least common multiple, as the program reckons it. -/
def lcmR (p t : Int) : Int := p / gcdI p t * t
theorem lcmR_bd {p t : Int} (hp : 1 ≤ p) (ht : 1 ≤ t) : 1 ≤ p / gcdI p t ∧ p / gcdI p t ≤ p ∧ p ≤ lcmR p t ∧ lcmR p t ≤ p * t := by
  obtain ⟨t', ht'⟩ := gcdI_dvd_right p t
  obtain ⟨p', hp'⟩ := gcdI_dvd_left p t
  have hg := gcdI_pos (a := p) (b := t) (by omega)
  have e1 : p / gcdI p t = p' := by
    conv => lhs; rw [hp']
    rw [← hp']
    exact Int.ediv_eq_of_eq_mul_right (by omega) hp'
  have ht1 : 1 ≤ t' := by
    rcases Int.lt_or_le 0 t' with h | h
    · omega
    · have := Int.mul_nonneg (show 0 ≤ gcdI p t by omega) (show 0 ≤ -t' by omega)
      rw [Int.mul_neg, ← ht'] at this; omega
  have hp1 : 1 ≤ p' := by
    rcases Int.lt_or_le 0 p' with h | h
    · omega
    · have := Int.mul_nonneg (show 0 ≤ gcdI p t by omega) (show 0 ≤ -p' by omega)
      rw [Int.mul_neg, ← hp'] at this; omega
  have e2 : p' ≤ p := by
    have := Int.mul_le_mul hg (Int.le_refl p') (by omega) (by omega : (0 : Int) ≤ gcdI p t)
    rw [← hp', Int.one_mul] at this; exact this
  have e3 : lcmR p t = p * t' := by
    unfold lcmR
    rw [e1]
    calc p' * t = p' * (gcdI p t * t') := by rw [← ht']
      _ = gcdI p t * p' * t' := by rw [← Int.mul_assoc, Int.mul_comm p']
      _ = p * t' := by rw [← hp']
  have e4 : t' ≤ t := by
    have := Int.mul_le_mul hg (Int.le_refl t') (by omega) (by omega : (0 : Int) ≤ gcdI p t)
    rw [← ht', Int.one_mul] at this; exact this
  refine ⟨by omega, by omega, ?_, ?_⟩
  · rw [e3]
    have := Int.mul_le_mul (Int.le_refl p) ht1 (by omega) (by omega : (0 : Int) ≤ p)
    omega
  · rw [e3]
    exact Int.mul_le_mul (Int.le_refl p) e4 (by omega) (by omega)

/-- The least common multiple of the first k wheels' teeth. -/
def lcT (xs : List WhE) : Nat → Int
  | 0 => 1
  | k + 1 => lcmR (lcT xs k) (xs.getD k WhE.zero).f0
def p200 : Nat → Int
  | 0 => 1
  | k + 1 => p200 k * 200
theorem badW_at {xs : List WhE} (h : xs.any badW = false) {k : Nat} (hk : k < xs.length) : 2 ≤ (xs.getD k WhE.zero).f0 ∧ (xs.getD k WhE.zero).f0 ≤ 200 := by
  have := gany_at (d := WhE.zero) h hk
  unfold badW at this
  exact isTe_true.1 (by simpa using this)
theorem lcT_bd {xs : List WhE} (h : xs.any badW = false) {k : Nat} (hk : k ≤ xs.length) : 1 ≤ lcT xs k ∧ lcT xs k ≤ p200 k := by
  induction k with
  | zero => exact ⟨by simp [lcT], by simp [lcT, p200]⟩
  | succ k ih =>
    obtain ⟨a, b⟩ := ih (by omega)
    obtain ⟨c, d⟩ := badW_at h (k := k) (by omega)
    obtain ⟨_, _, e1, e2⟩ := lcmR_bd a (show 1 ≤ (xs.getD k WhE.zero).f0 by omega)
    have := Int.mul_le_mul b d (by omega) (by omega : (0 : Int) ≤ p200 k)
    show 1 ≤ lcmR _ _ ∧ lcmR _ _ ≤ p200 k * 200
    omega
theorem p200_le {k : Nat} (h : k ≤ 7) : p200 k ≤ 12800000000000000 := by
  match k, h with
  | 0, _ => decide
  | 1, _ => decide
  | 2, _ => decide
  | 3, _ => decide
  | 4, _ => decide
  | 5, _ => decide
  | 6, _ => decide
  | 7, _ => decide
theorem lcT_mono {xs : List WhE} (h : xs.any badW = false) {j k : Nat} (hk : k ≤ xs.length) (hj : j ≤ k) : lcT xs j ≤ lcT xs k := by
  induction k with
  | zero => have : j = 0 := by omega
            subst this; exact Int.le_refl _
  | succ k ih =>
    rcases Nat.lt_or_ge j (k + 1) with h1 | h1
    · have h2 := ih (by omega) (by omega)
      have h3 := lcT_bd h (k := k) (by omega)
      obtain ⟨c, d⟩ := badW_at h (k := k) (by omega)
      obtain ⟨_, _, e1, e2⟩ := lcmR_bd h3.1 (show 1 ≤ (xs.getD k WhE.zero).f0 by omega)
      exact Int.le_trans h2 e1
    · have : j = k + 1 := by omega
      subst this; exact Int.le_refl _
theorem vw_parts {crank : Int} {xs : List WhE} {n : Nat} (h : vwB crank xs n = true) : isTe crank = true ∧ n ≤ 8 ∧ xs.any badW = false := by
  unfold vwB at h
  rw [Bool.and_eq_true, Bool.and_eq_true, decide_eq_true_iff] at h
  exact ⟨h.1, h.2.1, by simpa using h.2.2⟩

theorem commonLength_any (p t : Int) (w : World) (hp : 1 ≤ p ∧ p ≤ 12800000000000000) (ht : 1 ≤ t ∧ t ≤ 200) :
    Calls Try.prog 58 #[.int .i64 p, .int .i64 t] w fun e w' => e = .returned (.int .i64 (lcmR p t)) ∧ Below w.heap.size w w' := by
  obtain ⟨h1, h2, h3, h4⟩ := lcmR_bd hp.1 ht.1
  obtain ⟨hp1, hp2⟩ := hp
  obtain ⟨ht1, ht2⟩ := ht
  have hm := Int.mul_le_mul hp2 ht2 (by omega) (by omega : (0 : Int) ≤ 12800000000000000)
  have hg := gcdI_pos (a := p) (b := t) (by omega)
  have hq : lcmR p t = p / gcdI p t * t := rfl
  have hle : p / gcdI p t * t ≤ 2560000000000000000 := by rw [← hq]; omega
  have hge : 1 ≤ p / gcdI p t * t := by rw [← hq]; omega
  have HQ := Lib.hid hq
  clear hq h3 h4 hm
  go_enter Try.func58, Try.ntmps58
  go_wp2_with fail
  refine (gcd_any p t _ ⟨by omega, by omega⟩ ⟨by omega, by omega⟩).mono ?_
  rintro e w1 ⟨rfl, hb1⟩
  go_wp2
  go_ret
  exact ⟨ret_int HQ.out.symm, hb1⟩

set_option maxHeartbeats 800000 in
theorem returnAfter_any (A : Option Addr) (n c : Nat) (xs : List WhE) (w : World) (H : SlWh w A n xs) (hn : n ≤ 8) (hv : xs.any badW = false) :
    Calls Try.prog 46 #[.slice A n c] w fun e w' => e = .returned (.int .i64 (lcT xs n)) ∧ Below w.heap.size w w' := by
  have HL := Lib.hid H.1
  have HV := Lib.hid hv
  clear hv
  go_enter Try.func46, Try.ntmps46
  go_wp2_with fail
  go_loopw [3, 8] (fun x y wr => ∃ k : Nat, k ≤ n ∧ x = .int .i64 (lcT xs k) ∧ y = .int .i64 k ∧ Below w.heap.size w wr) (fun _ y _ => (n - (intOf y).toNat))
  case atStart => exact ⟨0, by omega, rfl, rfl, Below.refl _ _⟩
  case round =>
    obtain ⟨k, hk, rfl, rfl, hbr⟩ := hrel
    by_cases hlt : k < n
    · obtain ⟨b, off, rfl, hbl, hc0, hc1⟩ := (H.below hbr).get hlt
      clear H
      have hp := lcT_bd HV.out (k := k) (by rw [HL.out]; omega)
      have hp7 := p200_le (k := k) (by omega)
      have ht := badW_at HV.out (k := k) (by rw [HL.out]; exact hlt)
      have hq : lcT xs (k + 1) = lcmR (lcT xs k) (xs.getD k WhE.zero).f0 := rfl
      have HQ := Lib.hid hq
      clear hq
      generalize xs.getD k WhE.zero = y at *
      generalize lcT xs k = p at *
      go_wp2_with fail
      refine (commonLength_any p y.f0 _ ⟨by omega, by omega⟩ ⟨by omega, by omega⟩).mono ?_
      rintro e w2 ⟨rfl, hw2⟩
      go_wp2_with fail
      go_roundw
      case rel =>
        refine ⟨k + 1, by omega, by rw [HQ.out], by go_num, ?_⟩
        repeat (first | exact Below.refl _ _ | refine bw_drew ?_ | refine bw_drewN ?_ _ | refine bw_set ?_ (by simp; try omega) _ | refine bw_alloc ?_ _ | refine bw_trans ?_ (by assumption) | assumption)
      case measure => simp [intOf]; omega
    · have hkk : k = n := by omega
      subst hkk
      clear H
      go_wp2
      go_ret
      exact ⟨rfl, hbr⟩
def rtI (xs : List WhE) (n : Nat) : Int := if lcT xs n ≤ 1000000000 then lcT xs n else 0
theorem rtI_yes {xs : List WhE} {n : Nat} (h : lcT xs n ≤ 1000000000) : rtI xs n = lcT xs n := if_pos h
theorem rtI_no {xs : List WhE} {n : Nat} (h : ¬ lcT xs n ≤ 1000000000) : rtI xs n = 0 := if_neg h
def raC (crank : Int) (xs : List WhE) (n : Nat) : Int := if vwB crank xs n then (if lcT xs n ≤ 1000000000 then 0 else 5) else 1
def raN (crank : Int) (xs : List WhE) (n : Nat) : Int := if vwB crank xs n then (if lcT xs n ≤ 1000000000 then lcT xs n else 0) else 0

set_option maxHeartbeats 800000 in
theorem iReturnAfter_any (crank : Int) (A : Option Addr) (n c : Nat) (xs : List WhE) (w : World) (H : SlWh w A n xs) (hn : n ≤ 1048576) :
    Calls Try.prog 19 #[.int .i64 crank, .slice A n c] w fun e w' => e = .returned (.tuple #[.int .i64 (raN crank xs n), .int .i64 (raC crank xs n)]) ∧ Below w.heap.size w w' := by
  cases hv : vwB crank xs n
  · have HV := Lib.hid hv
    clear hv
    go_enter Try.func19, Try.ntmps19
    go_wp2_with fail
    refine (validWheels_is crank A n c xs _ H hn HV.out).mono ?_
    rintro e w1 ⟨rfl, hb1⟩
    go_wp2
    go_ret2
    exact ⟨by simp [raN, raC, HV.out], hb1⟩
  · obtain ⟨h1, h2, h3⟩ := vw_parts hv
    have HV := Lib.hid hv
    have H3 := Lib.hid h3
    have HL := Lib.hid H.1
    clear hv h3
    go_enter Try.func19, Try.ntmps19
    go_wp2_with fail
    refine (validWheels_is crank A n c xs _ H hn HV.out).mono ?_
    rintro e w1 ⟨rfl, hb1⟩
    go_wp2_with fail
    refine (returnAfter_any A n c xs _ (H.below hb1) h2 H3.out).mono ?_
    rintro e w2 ⟨rfl, hb2⟩
    clear H
    by_cases hq : lcT xs n ≤ 1000000000
    · have d1 : decide (1000000000 < lcT xs n) = false := decide_eq_false (by omega)
      have HR : Hid (raN crank xs n = lcT xs n ∧ raC crank xs n = 0) := ⟨by unfold raN; rw [HV.out, if_pos rfl, if_pos hq], by unfold raC; rw [HV.out, if_pos rfl, if_pos hq]⟩
      clear hq
      generalize lcT xs n = p at *
      go_wp2
      go_ret2
      exact ⟨by rw [HR.out.1, HR.out.2]; rfl, bw_trans hb1 hb2⟩
    · have d1 : decide (1000000000 < lcT xs n) = true := decide_eq_true (by omega)
      have HR : Hid (raN crank xs n = 0 ∧ raC crank xs n = 5) := ⟨by unfold raN; rw [HV.out, if_pos rfl, if_neg hq], by unfold raC; rw [HV.out, if_pos rfl, if_neg hq]⟩
      clear hq
      generalize lcT xs n = p at *
      go_wp2
      go_ret2
      exact ⟨by rw [HR.out.1, HR.out.2]; rfl, bw_trans hb1 hb2⟩

set_option maxHeartbeats 800000 in
theorem l14Return_any (A : Option Addr) (n c : Nat) (xs : List WhE) (w : World) (H : SlWh w A n xs) (hn : n ≤ 8) (hv : xs.any badW = false) :
    Calls Try.prog 45 #[.slice A n c] w fun e w' => e = .returned (.int .i64 (rtI xs n)) ∧ Below w.heap.size w w' := by
  have HL := Lib.hid H.1
  have HV := Lib.hid hv
  clear hv
  go_enter Try.func45, Try.ntmps45
  go_wp2_with fail
  go_loopw [3, 4] (fun x y wr => ∃ k : Nat, k ≤ n ∧ x = .int .i64 (lcT xs k) ∧ y = .int .i64 k ∧ lcT xs k ≤ 1000000000 ∧ Below w.heap.size w wr) (fun _ y _ => (n - (intOf y).toNat))
  case atStart => exact ⟨0, by omega, rfl, rfl, by simp [lcT], Below.refl _ _⟩
  case round =>
    obtain ⟨k, hk, rfl, rfl, hle, hbr⟩ := hrel
    by_cases hlt : k < n
    · obtain ⟨b, off, rfl, hbl, hc0, hc1⟩ := (H.below hbr).get hlt
      clear H
      have hp := lcT_bd HV.out (k := k) (by rw [HL.out]; omega)
      have ht := badW_at HV.out (k := k) (by rw [HL.out]; exact hlt)
      have hm : Hid (lcT xs (k + 1) ≤ lcT xs n) := lcT_mono HV.out (by rw [HL.out]; omega) (by omega)
      have hq : lcT xs (k + 1) = lcmR (lcT xs k) (xs.getD k WhE.zero).f0 := rfl
      obtain ⟨e1, e2, e3, e4⟩ := lcmR_bd hp.1 (show 1 ≤ (xs.getD k WhE.zero).f0 by omega)
      have HQ := Lib.hid hq
      have hu : lcmR (lcT xs k) (xs.getD k WhE.zero).f0 = lcT xs k / gcdI (lcT xs k) (xs.getD k WhE.zero).f0 * (xs.getD k WhE.zero).f0 := rfl
      have hg := gcdI_pos (a := lcT xs k) (b := (xs.getD k WhE.zero).f0) (by omega)
      have hx := Int.mul_le_mul hle ht.2 (by omega) (by omega : (0 : Int) ≤ 1000000000)
      by_cases hq1 : lcT xs (k + 1) ≤ 1000000000
      · rw [hq] at hq1
        have hd : decide (1000000000 < lcmR (lcT xs k) (xs.getD k WhE.zero).f0) = false := decide_eq_false (by omega)
        have HQ1 := Lib.hid hq1
        clear hq hq1 hm
        generalize xs.getD k WhE.zero = y at *
        generalize lcT xs k = p at *
        rw [hu] at hd e3 e4
        have HU := Lib.hid hu
        clear hu
        go_wp2_with fail
        refine wp_region_bel (by kernel_rfl) (by kernel_rfl) ?_
        repeat (go_big_quiet_step (((go_at_call 56; exact calm_same (l00Gcd_any p y.f0 _ ⟨by omega, by omega⟩ ⟨by omega, by omega⟩)))))
        refine wpQuiet_nil ?_
        intro w2 hw'
        obtain ⟨tq, hw''⟩ := hw'
        have hw2 := tq.2
        rw [← hw''] at hw2
        clear hw'' tq
        obtain ⟨hcw2, hfw2⟩ := bcell hw2
        try (have hzw2 : w.heap.size < w2.heap.size := by (have h := hw2.size; (try simp at h); omega))
        try (have hyw2 : w.heap.size + 1 < w2.heap.size := by (have h := hw2.size; (try simp at h); omega))
        try (have hxw2 : w.heap.size + 1 + 1 < w2.heap.size := by (have h := hw2.size; (try simp at h); omega))
        try (have hvw2 : w.heap.size + 1 + 1 + 1 < w2.heap.size := by (have h := hw2.size; (try simp at h); omega))
        go_wp2_with fail
        go_roundw
        case rel => exact ⟨k + 1, by omega, by rw [HQ.out, HU.out], by go_num, by rw [HQ.out]; exact HQ1.out, bw_trans hbr hw2⟩
        case measure => simp [intOf]; omega
      · have hpn := Lib.hid (show ¬ lcT xs n ≤ 1000000000 by (have := hm.out; omega))
        rw [hq] at hq1
        have hd : decide (1000000000 < lcmR (lcT xs k) (xs.getD k WhE.zero).f0) = true := decide_eq_true (by omega)
        clear hq hq1 hm
        generalize xs.getD k WhE.zero = y at *
        generalize lcT xs k = p at *
        rw [hu] at hd e3 e4
        clear hu
        go_wp2_with fail
        refine wp_region_bel (by kernel_rfl) (by kernel_rfl) ?_
        repeat (go_big_quiet_step (((go_at_call 56; exact calm_same (l00Gcd_any p y.f0 _ ⟨by omega, by omega⟩ ⟨by omega, by omega⟩)))))
        refine wpQuiet_nil ?_
        intro w2 hw'
        obtain ⟨tq, hw''⟩ := hw'
        have hw2 := tq.2
        rw [← hw''] at hw2
        clear hw'' tq
        obtain ⟨hcw2, hfw2⟩ := bcell hw2
        try (have hzw2 : w.heap.size < w2.heap.size := by (have h := hw2.size; (try simp at h); omega))
        try (have hyw2 : w.heap.size + 1 < w2.heap.size := by (have h := hw2.size; (try simp at h); omega))
        try (have hxw2 : w.heap.size + 1 + 1 < w2.heap.size := by (have h := hw2.size; (try simp at h); omega))
        try (have hvw2 : w.heap.size + 1 + 1 + 1 < w2.heap.size := by (have h := hw2.size; (try simp at h); omega))
        go_wp2
        go_ret
        exact ⟨ret_int (by rw [rtI_no (by have := hpn.out; omega)]), bw_trans hbr hw2⟩
    · have hkk : k = n := by omega
      subst hkk
      clear H
      have HE := Lib.hid hle
      go_wp2
      go_ret
      exact ⟨ret_int (by rw [rtI_yes HE.out]), hbr⟩

set_option maxHeartbeats 800000 in
theorem sReturnAfter_any (crank : Int) (A : Option Addr) (n c : Nat) (xs : List WhE) (w : World) (H : SlWh w A n xs) (hn : n ≤ 1048576) :
    Calls Try.prog 18 #[.int .i64 crank, .slice A n c] w fun e w' => e = .returned (.tuple #[.int .i64 (raN crank xs n), .int .i64 (raC crank xs n)]) ∧ Below w.heap.size w w' := by
  cases hv : vwB crank xs n
  · have HV := Lib.hid hv
    clear hv
    go_enter Try.func18, Try.ntmps18
    go_wp2_with fail
    refine (l14Ok_is crank A n c xs _ H hn HV.out).mono ?_
    rintro e w1 ⟨rfl, hb1⟩
    go_wp2
    go_ret2
    exact ⟨by simp [raN, raC, HV.out], hb1⟩
  · obtain ⟨h1, h2, h3⟩ := vw_parts hv
    have HV := Lib.hid hv
    have H3 := Lib.hid h3
    have HL := Lib.hid H.1
    have hp := lcT_bd h3 (k := n) (by rw [H.1]; omega)
    clear hv h3
    have hC : ∀ W, Below w.heap.size w W → Calls Try.prog 45 #[.slice A n c] W fun e w' => e = .returned (.int .i64 (rtI xs n)) ∧ Below W.heap.size W w' := fun W hW => l14Return_any A n c xs W (H.below hW) h2 H3.out
    have HC := Lib.hid hC
    clear hC
    by_cases hq : lcT xs n ≤ 1000000000
    · have HR : Hid (raN crank xs n = lcT xs n ∧ raC crank xs n = 0) := ⟨by unfold raN; rw [HV.out, if_pos rfl, if_pos hq], by unfold raC; rw [HV.out, if_pos rfl, if_pos hq]⟩
      rw [rtI_yes hq] at HC
      have hne : (lcT xs n == 0) = false := by simp; omega
      clear hq
      generalize lcT xs n = p at *
      go_enter Try.func18, Try.ntmps18
      go_wp2_with fail
      refine (l14Ok_is crank A n c xs _ H hn HV.out).mono ?_
      rintro e w1 ⟨rfl, hb1⟩
      go_wp2_with fail
      refine (HC.out _ hb1).mono ?_
      rintro e w2 ⟨rfl, hb2⟩
      clear H
      go_wp2
      go_ret2
      exact ⟨by rw [HR.out.1, HR.out.2]; rfl, bw_trans hb1 hb2⟩
    · have HR : Hid (raN crank xs n = 0 ∧ raC crank xs n = 5) := ⟨by unfold raN; rw [HV.out, if_pos rfl, if_neg hq], by unfold raC; rw [HV.out, if_pos rfl, if_neg hq]⟩
      rw [rtI_no hq] at HC
      clear hq
      generalize lcT xs n = p at *
      go_enter Try.func18, Try.ntmps18
      go_wp2_with fail
      refine (l14Ok_is crank A n c xs _ H hn HV.out).mono ?_
      rintro e w1 ⟨rfl, hb1⟩
      go_wp2_with fail
      refine (HC.out _ hb1).mono ?_
      rintro e w2 ⟨rfl, hb2⟩
      clear H
      go_wp2
      go_ret2
      exact ⟨by rw [HR.out.1, HR.out.2]; rfl, bw_trans hb1 hb2⟩

set_option maxRecDepth 100000 in
set_option maxHeartbeats 800000 in
theorem law_ReturnAfter (crank : Int) (a : Option Addr) (l c : Nat) (xs : List WhE) (w : World) (hm : l ≤ 9223372036854775807) (H0 : SlWh w a l xs) :
    Calls Try.prog 5 #[.int .i64 crank, .slice a l c] w fun e w' => e = .returned (.bool true) ∧ Below w.heap.size w w' := by
  by_cases hn : l ≤ 1048576
  · have hni : ¬ (1048576 - (l : Int)) < 0 := by omega
    go_enter Try.func5, Try.ntmps5
    go_wp2_with fail
    refine (Whsz_any a l c _ hn).mono ?_
    rintro e w0 ⟨rfl, hB0⟩
    go_wp2_with fail
    refine (WhtoS_any a l c xs _ (H0.below hB0) hn).mono ?_
    rintro e w1 ⟨rfl, HS, hb1⟩
    have hB1 := bw_trans hB0 hb1
    clear hb1
    go_wp2_with fail
    refine (sReturnAfter_any crank _ _ _ xs  _ HS hn ).mono ?_
    rintro e w2 ⟨rfl, hb2⟩
    have hB2 := bw_trans hB1 hb2
    clear hb2 HS
    go_wp2_with fail
    refine (WhtoS_any a l c xs _ (H0.below hB2) hn).mono ?_
    rintro e w3 ⟨rfl, HM, hb3⟩
    have hB3 := bw_trans hB2 hb3
    clear hb3
    go_wp2_with fail
    refine (iReturnAfter_any crank _ _ _ xs  _ HM hn ).mono ?_
    rintro e w4 ⟨rfl, hb4⟩
    have hB4 := bw_trans hB3 hb4
    have HM4 := HM.below hb4
    clear hb4 HM
    go_wp2_with fail
    refine (WhtoS_any a l c xs _ (H0.below hB4) hn).mono ?_
    rintro e w5 ⟨rfl, HQ, hb5⟩
    have HM5 := HM4.below hb5
    have hB5 := bw_trans hB4 hb5
    clear hb5 HM4
    go_wp2_with fail
    refine (WheqS_any _ _ _ _ _ xs _ HM5 HQ hn).mono ?_
    rintro e w6 ⟨rfl, hb6⟩
    clear HM5 HQ H0
    go_wp2
    go_ret
    exact ⟨rfl, bw_trans hB5 hb6⟩
  · clear H0
    go_enter Try.func5, Try.ntmps5
    go_wp2_with fail
    refine (WhszNo_any a l c _ hm hn).mono ?_
    rintro e w0 ⟨rfl, hB0⟩
    go_wp2
    go_ret
    exact ⟨rfl, hB0⟩
end Go.Proofs.Ytjgigmlhnnkjiaa
