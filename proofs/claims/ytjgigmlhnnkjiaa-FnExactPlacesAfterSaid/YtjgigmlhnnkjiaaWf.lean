/-
  SlackOf: in the program and in the reference; the law.
-/
import Derived.Test.YtjgigmlhnnkjiaaWb
import Derived.Test.YtjgigmlhnnkjiaaGcd
namespace Go.Proofs.Ytjgigmlhnnkjiaa
open Go.RowKit

/-- The code of wheels, the index of one and a number. -/
def wcC (cr : Int) (xs : List WhE) (n : Nat) (k m : Int) : Int := if vwB cr xs n then (if inB k 0 ((n : Int) - 1) && inB m 0 100000 then 0 else 2) else 1
theorem wc_1 {cr : Int} {xs : List WhE} {n : Nat} {k m : Int} (h : vwB cr xs n = false) : wcC cr xs n k m = 1 := by unfold wcC; rw [h]; rfl
theorem wc_2 {cr : Int} {xs : List WhE} {n : Nat} {k m : Int} (h : vwB cr xs n = true) (h2 : inB k 0 ((n : Int) - 1) = false) : wcC cr xs n k m = 2 := by unfold wcC; rw [h, h2]; rfl
theorem wc_3 {cr : Int} {xs : List WhE} {n : Nat} {k m : Int} (h : vwB cr xs n = true) (h2 : inB m 0 100000 = false) : wcC cr xs n k m = 2 := by unfold wcC; rw [h, h2]; simp
theorem wc_0 {cr : Int} {xs : List WhE} {n : Nat} {k m : Int} (h : vwB cr xs n = true) (h1 : inB k 0 ((n : Int) - 1) = true) (h2 : inB m 0 100000 = true) : wcC cr xs n k m = 0 := by unfold wcC; rw [h, h1, h2]; rfl

set_option maxHeartbeats 800000 in
theorem wheelCode_any (cr : Int) (A : Option Addr) (n c : Nat) (xs : List WhE) (k m : Int) (w : World) (H : SlWh w A n xs) (hn : n ≤ 1048576) :
    Calls Try.prog 51 #[.int .i64 cr, .slice A n c, .int .i64 k, .int .i64 m] w fun e w' => e = .returned (.int .i64 (wcC cr xs n k m)) ∧ Below w.heap.size w w' := by
  have hC : ∀ W, Below w.heap.size w W → ∀ b, vwB cr xs n = b → Calls Try.prog 13 #[.int .i64 cr, .slice A n c] W fun e w' => e = .returned (.bool b) ∧ Below W.heap.size W w' := fun W hW b hb => validWheels_is cr A n c xs W (H.below hW) hn hb
  have HC := Lib.hid hC
  clear hC H
  cases h1 : vwB cr xs n
  · have HR := Lib.hid (wc_1 (k := k) (m := m) h1)
    have H1 := Lib.hid h1
    clear h1
    go_enter Try.func51, Try.ntmps51
    go_wp2_with fail
    refine (HC.out _ (Below.refl _ _) _ H1.out).mono ?_
    rintro e w1 ⟨rfl, hb1⟩
    go_wp2
    go_ret
    exact ⟨ret_int HR.out.symm, hb1⟩
  cases h2 : inB k 0 ((n : Int) - 1)
  · have HR := Lib.hid (wc_2 (m := m) h1 h2)
    have H1 := Lib.hid h1
    clear h1
    go_enter Try.func51, Try.ntmps51
    go_wp2_with fail
    refine (HC.out _ (Below.refl _ _) _ H1.out).mono ?_
    rintro e w1 ⟨rfl, hb1⟩
    go_wp2_with (go_at_call 35; refine (within_is (by assumption) _).mono ?_; rintro e w1 ⟨rfl, rfl⟩)
    go_ret
    exact ⟨ret_int HR.out.symm, hb1⟩
  cases h3 : inB m 0 100000
  · have HR := Lib.hid (wc_3 (k := k) h1 h3)
    have H1 := Lib.hid h1
    clear h1
    go_enter Try.func51, Try.ntmps51
    go_wp2_with fail
    refine (HC.out _ (Below.refl _ _) _ H1.out).mono ?_
    rintro e w1 ⟨rfl, hb1⟩
    go_wp2_with (go_at_call 35; refine (within_is (by assumption) _).mono ?_; rintro e w1 ⟨rfl, rfl⟩)
    go_ret
    exact ⟨ret_int HR.out.symm, hb1⟩
  · have HR := Lib.hid (wc_0 h1 h2 h3)
    have H1 := Lib.hid h1
    clear h1
    go_enter Try.func51, Try.ntmps51
    go_wp2_with fail
    refine (HC.out _ (Below.refl _ _) _ H1.out).mono ?_
    rintro e w1 ⟨rfl, hb1⟩
    go_wp2_with (go_at_call 35; refine (within_is (by assumption) _).mono ?_; rintro e w1 ⟨rfl, rfl⟩)
    go_ret
    exact ⟨ret_int HR.out.symm, hb1⟩

/-- The place of a wheel. -/
def plT (t : Int) (back : Bool) (m : Int) : Int := if back then (t - m % t) % t else m % t
theorem plT_bd {t : Int} {back : Bool} {m : Int} (ht : 2 ≤ t) : 0 ≤ plT t back m ∧ plT t back m < t := by
  unfold plT
  split
  · exact ⟨Int.emod_nonneg _ (by omega), Int.emod_lt_of_pos _ (by omega)⟩
  · exact ⟨Int.emod_nonneg _ (by omega), Int.emod_lt_of_pos _ (by omega)⟩
theorem plT_pos {t m : Int} (ht : 2 ≤ t) (h : 0 < m % t) : plT t true m = t - m % t := by
  have h2 := Int.emod_lt_of_pos m (b := t) (by omega)
  show (t - m % t) % t = _
  exact Int.emod_eq_of_lt (by omega) (by omega)
theorem plT_zero {t m : Int} (h : m % t = 0) : plT t true m = 0 := by
  show (t - m % t) % t = 0
  rw [h]; simp
theorem place_any (t : Int) (back : Bool) (m : Int) (w : World) (ht : 2 ≤ t ∧ t ≤ 200) (hm : 0 ≤ m ∧ m ≤ 100000) :
    Calls Try.prog 52 #[.agg #[.int .i64 t, .bool back], .int .i64 m] w fun e w' => e = .returned (.int .i64 (plT t back m)) ∧ Below w.heap.size w w' := by
  obtain ⟨t1, t2⟩ := ht
  obtain ⟨m1, m2⟩ := hm
  have e0 := Int.emod_nonneg m (show t ≠ 0 by omega)
  have e1 := Int.emod_lt_of_pos m (show 0 < t by omega)
  cases back
  · have HP := Lib.hid (show plT t false m = m % t from rfl)
    go_enter Try.func52, Try.ntmps52
    go_wp2
    go_ret
    refine ⟨ret_int HP.out.symm, ?_⟩
    repeat (first | exact Below.refl _ _ | refine bw_drew ?_ | refine bw_drewN ?_ _ | refine bw_set ?_ (by simp; try omega) _ | refine bw_alloc ?_ _ | refine bw_trans ?_ (by assumption) | assumption)
  · have hs : 0 ≤ t - m % t := by omega
    have hs2 : t - m % t ≤ 200 := by omega
    have e2 := Int.emod_nonneg (t - m % t) (show t ≠ 0 by omega)
    have e3 := Int.emod_lt_of_pos (t - m % t) (show 0 < t by omega)
    have HP := Lib.hid (show plT t true m = (t - m % t) % t from rfl)
    go_enter Try.func52, Try.ntmps52
    go_wp2_with fail
    refine wp_region_bel (by kernel_rfl) (by kernel_rfl) ?_
    repeat (go_big_quiet_step ((fail)))
    refine wpQuiet_nil ?_
    intro w2 hw'
    obtain ⟨tq, hw''⟩ := hw'
    have hw2 := tq.2
    rw [← hw''] at hw2
    clear hw'' tq
    obtain ⟨hcw2, hfw2⟩ := bcell hw2
    try (have hzw2 : w.heap.size < w2.heap.size := by (have h := hw2.size; (try simp at h); omega))
    try (have hyw2 : w.heap.size + 1 < w2.heap.size := by (have h := hw2.size; (try simp at h); omega))
    try (have hxw2 : w.heap.size + 1 + 1 < w2.heap.size := by (have h := hw2.size; (try simp at h); omega))
    try (have hvw2 : w.heap.size + 1 + 1 + 1 < w2.heap.size := by (have h := hw2.size; (try simp at h); omega))
    go_wp2
    go_ret
    refine ⟨ret_int HP.out.symm, ?_⟩
    repeat (first | exact Below.refl _ _ | refine bw_drew ?_ | refine bw_drewN ?_ _ | refine bw_set ?_ (by simp; try omega) _ | refine bw_alloc ?_ _ | refine bw_trans ?_ (by assumption) | assumption)
theorem l14Place_any (a : Addr) (t : Int) (back : Bool) (m : Int) (w : World) (b off : Nat) (ha : a = ⟨b, off, none⟩) (hc0 : w.cell? ⟨b, off, none⟩ = some (.int .i64 t)) (hc1 : w.cell? ⟨b, off + 1, none⟩ = some (.bool back)) (ht : 2 ≤ t ∧ t ≤ 200) (hm : 0 ≤ m ∧ m ≤ 100000) :
    Calls Try.prog 49 #[.pointer (some a), .int .i64 m] w fun e w' => e = .returned (.int .i64 (plT t back m)) ∧ Below w.heap.size w w' := by
  subst ha
  obtain ⟨t1, t2⟩ := ht
  obtain ⟨m1, m2⟩ := hm
  have e0 := Int.emod_nonneg m (show t ≠ 0 by omega)
  have e1 := Int.emod_lt_of_pos m (show 0 < t by omega)
  cases back
  · have HP := Lib.hid (show plT t false m = m % t from rfl)
    go_enter Try.func49, Try.ntmps49
    go_wp2
    go_ret
    refine ⟨ret_int HP.out.symm, ?_⟩
    repeat (first | exact Below.refl _ _ | refine bw_drew ?_ | refine bw_drewN ?_ _ | refine bw_set ?_ (by simp; try omega) _ | refine bw_alloc ?_ _ | refine bw_trans ?_ (by assumption) | assumption)
  · by_cases h0 : 0 < m % t
    · have HP := Lib.hid (plT_pos t1 h0)
      go_enter Try.func49, Try.ntmps49
      go_wp2
      go_ret
      refine ⟨ret_int HP.out.symm, ?_⟩
      repeat (first | exact Below.refl _ _ | refine bw_drew ?_ | refine bw_drewN ?_ _ | refine bw_set ?_ (by simp; try omega) _ | refine bw_alloc ?_ _ | refine bw_trans ?_ (by assumption) | assumption)
    · have hz : m % t = 0 := by omega
      have HP := Lib.hid (plT_zero hz)
      go_enter Try.func49, Try.ntmps49
      go_wp2
      go_ret
      refine ⟨ret_int HP.out.symm, ?_⟩
      repeat (first | exact Below.refl _ _ | refine bw_drew ?_ | refine bw_drewN ?_ _ | refine bw_set ?_ (by simp; try omega) _ | refine bw_alloc ?_ _ | refine bw_trans ?_ (by assumption) | assumption)

def slO (y : WhE) (m l : Int) : Int := ((plT y.f0 y.f1 m - plT y.f0 y.f1 (m - l)).natAbs : Int)
def slM (y : WhE) (m l : Int) : Int := if slO y m l ≤ y.f0 - slO y m l then slO y m l else y.f0 - slO y m l
theorem slM_yes {y : WhE} {m l : Int} (h : slO y m l ≤ y.f0 - slO y m l) : slM y m l = slO y m l := if_pos h
theorem slM_no {y : WhE} {m l : Int} (h : ¬ slO y m l ≤ y.f0 - slO y m l) : slM y m l = y.f0 - slO y m l := if_neg h
theorem slO_bd {y : WhE} {m l : Int} (h : 2 ≤ y.f0) : 0 ≤ slO y m l ∧ slO y m l < y.f0 := by
  have h1 := plT_bd (back := y.f1) (m := m) h
  have h2 := plT_bd (back := y.f1) (m := m - l) h
  unfold slO; omega
def slOk (cr : Int) (xs : List WhE) (n : Nat) (k m l : Int) : Bool := (wcC cr xs n k m == 0) && inB l 0 m
def slC (cr : Int) (xs : List WhE) (n : Nat) (k m l : Int) : Int := if slOk cr xs n k m l then 0 else if wcC cr xs n k m = 0 then 2 else wcC cr xs n k m
def slN (cr : Int) (xs : List WhE) (n : Nat) (k m l : Int) : Int := if slOk cr xs n k m l then slM (xs.getD k.toNat WhE.zero) m l else 0
theorem sl_code {cr : Int} {xs : List WhE} {n : Nat} {k m l : Int} {C : Int} (h : wcC cr xs n k m = C) (hC : C ≠ 0) : slC cr xs n k m l = C ∧ slN cr xs n k m l = 0 := by
  have : slOk cr xs n k m l = false := by unfold slOk; rw [h]; simp [hC]
  unfold slC slN; rw [this, h]; simp [hC]
theorem sl_lost {cr : Int} {xs : List WhE} {n : Nat} {k m l : Int} (h : wcC cr xs n k m = 0) (hl : inB l 0 m = false) : slC cr xs n k m l = 2 ∧ slN cr xs n k m l = 0 := by
  have : slOk cr xs n k m l = false := by unfold slOk; rw [hl]; simp
  unfold slC slN; rw [this, h]; simp
theorem sl_ok {cr : Int} {xs : List WhE} {n : Nat} {k m l : Int} (h : wcC cr xs n k m = 0) (hl : inB l 0 m = true) : slC cr xs n k m l = 0 ∧ slN cr xs n k m l = slM (xs.getD k.toNat WhE.zero) m l := by
  have : slOk cr xs n k m l = true := by unfold slOk; rw [hl, h]; rfl
  unfold slC slN; rw [this]; simp
theorem wc_ok {cr : Int} {xs : List WhE} {n : Nat} {k m : Int} (h : wcC cr xs n k m = 0) : vwB cr xs n = true ∧ (0 ≤ k ∧ k ≤ (n : Int) - 1) ∧ (0 ≤ m ∧ m ≤ 100000) := by
  unfold wcC at h
  cases h1 : vwB cr xs n <;> rw [h1] at h
  · simp at h
  · cases h2 : inB k 0 ((n : Int) - 1) <;> cases h3 : inB m 0 100000 <;> rw [h2, h3] at h <;> simp at h
    exact ⟨rfl, inB_true.1 h2, inB_true.1 h3⟩
theorem badW_at {xs : List WhE} (h : xs.any badW = false) {k : Nat} (hk : k < xs.length) : 2 ≤ (xs.getD k WhE.zero).f0 ∧ (xs.getD k WhE.zero).f0 ≤ 200 := by
  have := gany_at (d := WhE.zero) h hk
  unfold badW at this
  exact isTe_true.1 (by simpa using this)
theorem vw_parts {crank : Int} {xs : List WhE} {n : Nat} (h : vwB crank xs n = true) : isTe crank = true ∧ n ≤ 8 ∧ xs.any badW = false := by
  unfold vwB at h
  rw [Bool.and_eq_true, Bool.and_eq_true, decide_eq_true_iff] at h
  exact ⟨h.1, h.2.1, by simpa using h.2.2⟩
theorem apart_any (a b : Int) (w : World) (ha : -1000000000000 ≤ a ∧ a ≤ 1000000000000) (hb : -1000000000000 ≤ b ∧ b ≤ 1000000000000) :
    Calls Try.prog 44 #[.int .i64 a, .int .i64 b] w fun e w' => e = .returned (.int .i64 ((a - b).natAbs : Int)) ∧ w = w' := by
  obtain ⟨a1, a2⟩ := ha
  obtain ⟨b1, b2⟩ := hb
  go_enter Try.func44, Try.ntmps44
  go_wp2
  all_goals
    go_ret
    exact ⟨ret_int (by omega), rfl⟩

set_option maxHeartbeats 1600000 in
theorem iSlackOf_any (cr : Int) (A : Option Addr) (n c : Nat) (xs : List WhE) (k m l : Int) (w : World) (H : SlWh w A n xs) (hn : n ≤ 1048576) :
    Calls Try.prog 23 #[.int .i64 cr, .slice A n c, .int .i64 k, .int .i64 m, .int .i64 l] w fun e w' => e = .returned (.tuple #[.int .i64 (slN cr xs n k m l), .int .i64 (slC cr xs n k m l)]) ∧ Below w.heap.size w w' := by
  have hC := fun W hW => wheelCode_any cr A n c xs k m W (H.below hW) hn
  by_cases hc : wcC cr xs n k m = 0
  · rw [hc] at hC
    obtain ⟨hv, ⟨k1, k2⟩, ⟨m1, m2⟩⟩ := wc_ok hc
    obtain ⟨_, hn8, hbad⟩ := vw_parts hv
    have HC := Lib.hid hC
    clear hC hv
    cases hl : inB l 0 m
    · obtain ⟨r1, r2⟩ := sl_lost hc hl
      have HR := Lib.hid (And.intro r1 r2)
      clear r1 r2 hc hbad H
      go_enter Try.func23, Try.ntmps23
      go_wp2_with fail
      refine (HC.out _ (Below.refl _ _)).mono ?_
      rintro e w1 ⟨rfl, hb1⟩
      go_wp2_with (go_at_call 35; refine (within_is hl _).mono ?_; rintro e w1 ⟨rfl, rfl⟩)
      go_ret2
      exact ⟨by rw [HR.out.1, HR.out.2]; rfl, hb1⟩
    · obtain ⟨r1, r2⟩ := sl_ok hc hl
      have HR := Lib.hid (And.intro r1 r2)
      obtain ⟨l1, l2⟩ := inB_true.1 hl
      obtain ⟨K, hK⟩ : ∃ K : Nat, k = K := ⟨k.toNat, by omega⟩
      subst hK
      have hKn : K < n := by omega
      have ht := badW_at hbad (k := K) (by rw [H.1]; exact hKn)
      have ho := slO_bd (y := xs.getD K WhE.zero) (m := m) (l := l) ht.1
      have hp1 := plT_bd (back := (xs.getD K WhE.zero).f1) (m := m) ht.1
      have hp2 := plT_bd (back := (xs.getD K WhE.zero).f1) (m := m - l) ht.1
      have hoo : slO (xs.getD K WhE.zero) m l = ((plT (xs.getD K WhE.zero).f0 (xs.getD K WhE.zero).f1 m - plT (xs.getD K WhE.zero).f0 (xs.getD K WhE.zero).f1 (m - l)).natAbs : Int) := rfl
      have hmy := slM_yes (y := xs.getD K WhE.zero) (m := m) (l := l)
      have hmn := slM_no (y := xs.getD K WhE.zero) (m := m) (l := l)
      rw [Int.toNat_natCast] at HR
      clear r1 r2 hc hbad
      obtain ⟨T1, T2⟩ := ht
      obtain ⟨O1, O2⟩ := ho
      obtain ⟨b, off, rfl, hbl, hc0, hc1⟩ := H.get hKn
      clear H
      generalize xs.getD K WhE.zero = y at *
      rw [hoo] at O1 O2 hmy hmn
      have HMY := Lib.hid hmy
      have HMN := Lib.hid hmn
      have hKi : (K : Int) < (n : Int) := by omega
      clear hoo hmy hmn
      go_enter Try.func23, Try.ntmps23
      go_wp2_with fail
      refine (HC.out _ (Below.refl _ _)).mono ?_
      rintro e w1 ⟨rfl, hb1⟩
      have hd0 := cell_of hb1 hc0
      have hd1 := cell_of hb1 hc1
      have hz1 := hb1.size
      go_wp2_with (go_at_call 35; refine (within_is hl _).mono ?_; rintro e w1 ⟨rfl, rfl⟩)
      refine wp_region_bel (by kernel_rfl) (by kernel_rfl) ?_
      repeat (go_big_quiet_step (((first | (go_at_call 52; exact calm_of (place_any y.f0 y.f1 _ _ ⟨by omega, by omega⟩ ⟨by omega, by omega⟩)) | (go_at_call 44; exact calm_same (apart_any _ _ _ ⟨by omega, by omega⟩ ⟨by omega, by omega⟩))))))
      refine wpQuiet_nil ?_
      intro w2 hw'
      obtain ⟨tq, hw''⟩ := hw'
      have hw2 := tq.2
      rw [← hw''] at hw2
      clear hw'' tq
      obtain ⟨hcw2, hfw2⟩ := bcell hw2
      try (have hzw2 : w.heap.size < w2.heap.size := by (have h := hw2.size; (try simp at h); omega))
      try (have hyw2 : w.heap.size + 1 < w2.heap.size := by (have h := hw2.size; (try simp at h); omega))
      try (have hxw2 : w.heap.size + 1 + 1 < w2.heap.size := by (have h := hw2.size; (try simp at h); omega))
      try (have hvw2 : w.heap.size + 1 + 1 + 1 < w2.heap.size := by (have h := hw2.size; (try simp at h); omega))
      by_cases hmin : ((plT y.f0 y.f1 m - plT y.f0 y.f1 (m - l)).natAbs : Int) ≤ y.f0 - ((plT y.f0 y.f1 m - plT y.f0 y.f1 (m - l)).natAbs : Int)
      · have HE := Lib.hid (HMY.out hmin)
        go_wp2
        go_ret2
        refine ⟨by rw [HR.out.1, HR.out.2, HE.out]; rfl, ?_⟩
        repeat (first | exact Below.refl _ _ | refine bw_drew ?_ | refine bw_drewN ?_ _ | refine bw_set ?_ (by simp; try omega) _ | refine bw_alloc ?_ _ | refine bw_trans ?_ (by assumption) | assumption)
      · have HE := Lib.hid (HMN.out (by omega))
        go_wp2
        go_ret2
        refine ⟨by rw [HR.out.1, HR.out.2, HE.out]; rfl, ?_⟩
        repeat (first | exact Below.refl _ _ | refine bw_drew ?_ | refine bw_drewN ?_ _ | refine bw_set ?_ (by simp; try omega) _ | refine bw_alloc ?_ _ | refine bw_trans ?_ (by assumption) | assumption)
  · have hr := sl_code (l := l) rfl hc
    obtain ⟨C, hCC⟩ : ∃ C, wcC cr xs n k m = C := ⟨_, rfl⟩
    rw [hCC] at hc hr hC
    have HC := Lib.hid hC
    have HR := Lib.hid hr
    have hce : (C != 0) = true := by simpa using hc
    have hcf : (C == 0) = false := by simpa using hc
    clear hC hr H
    go_enter Try.func23, Try.ntmps23
    go_wp2_with fail
    refine (HC.out _ (Below.refl _ _)).mono ?_
    rintro e w1 ⟨rfl, hb1⟩
    go_wp2_with fail
    go_ret2
    exact ⟨by rw [HR.out.1, HR.out.2]; rfl, hb1⟩

def oneC (cr : Int) (xs : List WhE) (n : Nat) (k : Int) : Int := if vwB cr xs n then (if inB k 0 ((n : Int) - 1) then 0 else 2) else 1
theorem one_ok {cr : Int} {xs : List WhE} {n : Nat} {k : Int} (h : oneC cr xs n k = 0) : vwB cr xs n = true ∧ inB k 0 ((n : Int) - 1) = true := by
  unfold oneC at h
  cases h1 : vwB cr xs n <;> cases h2 : inB k 0 ((n : Int) - 1) <;> rw [h1, h2] at h <;> simp at h
  exact ⟨rfl, rfl⟩
theorem one_bad {cr : Int} {xs : List WhE} {n : Nat} {k m : Int} (h : oneC cr xs n k ≠ 0) : wcC cr xs n k m = oneC cr xs n k := by
  unfold oneC wcC at *
  cases h1 : vwB cr xs n <;> cases h2 : inB k 0 ((n : Int) - 1) <;> rw [h1, h2] at h <;> simp at h ⊢
set_option maxHeartbeats 800000 in
theorem l14One_any (cr : Int) (A : Option Addr) (n c : Nat) (xs : List WhE) (k : Int) (w : World) (H : SlWh w A n xs) (hn : n ≤ 1048576) :
    Calls Try.prog 47 #[.int .i64 cr, .slice A n c, .int .i64 k] w fun e w' => e = .returned (.int .i64 (oneC cr xs n k)) ∧ Below w.heap.size w w' := by
  have hC : ∀ W, Below w.heap.size w W → ∀ b, vwB cr xs n = b → Calls Try.prog 33 #[.int .i64 cr, .slice A n c] W fun e w' => e = .returned (.bool b) ∧ Below W.heap.size W w' := fun W hW b hb => l14Ok_is cr A n c xs W (H.below hW) hn hb
  have HC := Lib.hid hC
  clear hC H
  cases h1 : vwB cr xs n
  · have HR := Lib.hid (show oneC cr xs n k = 1 by unfold oneC; rw [h1]; rfl)
    have H1 := Lib.hid h1
    clear h1
    go_enter Try.func47, Try.ntmps47
    go_wp2_with fail
    refine (HC.out _ (Below.refl _ _) _ H1.out).mono ?_
    rintro e w1 ⟨rfl, hb1⟩
    go_wp2
    go_ret
    exact ⟨ret_int HR.out.symm, hb1⟩
  cases h2 : inB k 0 ((n : Int) - 1)
  · have HR := Lib.hid (show oneC cr xs n k = 2 by unfold oneC; rw [h1, h2]; rfl)
    have H1 := Lib.hid h1
    clear h1
    go_enter Try.func47, Try.ntmps47
    go_wp2_with fail
    refine (HC.out _ (Below.refl _ _) _ H1.out).mono ?_
    rintro e w1 ⟨rfl, hb1⟩
    go_wp2_with (go_at_call 41; refine (l00In_is (by assumption) _).mono ?_; rintro e w1 ⟨rfl, rfl⟩)
    go_ret
    exact ⟨ret_int HR.out.symm, hb1⟩
  · have HR := Lib.hid (show oneC cr xs n k = 0 by unfold oneC; rw [h1, h2]; rfl)
    have H1 := Lib.hid h1
    clear h1
    go_enter Try.func47, Try.ntmps47
    go_wp2_with fail
    refine (HC.out _ (Below.refl _ _) _ H1.out).mono ?_
    rintro e w1 ⟨rfl, hb1⟩
    go_wp2_with (go_at_call 41; refine (l00In_is (by assumption) _).mono ?_; rintro e w1 ⟨rfl, rfl⟩)
    go_ret
    exact ⟨ret_int HR.out.symm, hb1⟩
theorem l00Min_le {a b : Int} (h : a ≤ b) (w : World) :
    Calls Try.prog 50 #[.int .i64 a, .int .i64 b] w fun e w' => e = .returned (.int .i64 a) ∧ w = w' := by
  go_enter Try.func50, Try.ntmps50
  go_wp2
  all_goals
    go_ret
    exact ⟨ret_int (by omega), rfl⟩
theorem l00Min_gt {a b : Int} (h : ¬ a ≤ b) (w : World) :
    Calls Try.prog 50 #[.int .i64 a, .int .i64 b] w fun e w' => e = .returned (.int .i64 b) ∧ w = w' := by
  go_enter Try.func50, Try.ntmps50
  go_wp2
  all_goals
    go_ret
    exact ⟨ret_int (by omega), rfl⟩
theorem l14Many_is {m : Int} {b : Bool} (h : inB m 0 100000 = b) (w : World) :
    Calls Try.prog 48 #[.int .i64 m] w fun e w' => e = .returned (.bool b) ∧ w = w' := by
  go_enter Try.func48, Try.ntmps48
  go_wp2_with (go_at_call 41; refine (l00In_is (by assumption) _).mono ?_; rintro e w1 ⟨rfl, rfl⟩)
  go_ret
  exact ⟨rfl, rfl⟩

set_option maxHeartbeats 1600000 in
theorem sSlackOf_any (cr : Int) (A : Option Addr) (n c : Nat) (xs : List WhE) (k m l : Int) (w : World) (H : SlWh w A n xs) (hn : n ≤ 1048576) :
    Calls Try.prog 22 #[.int .i64 cr, .slice A n c, .int .i64 k, .int .i64 m, .int .i64 l] w fun e w' => e = .returned (.tuple #[.int .i64 (slN cr xs n k m l), .int .i64 (slC cr xs n k m l)]) ∧ Below w.heap.size w w' := by
  have hC := fun W hW => l14One_any cr A n c xs k W (H.below hW) hn
  by_cases hc : oneC cr xs n k = 0
  · rw [hc] at hC
    obtain ⟨hv, hk⟩ := one_ok hc
    obtain ⟨_, hn8, hbad⟩ := vw_parts hv
    have HC := Lib.hid hC
    clear hC
    cases hm : inB m 0 100000
    · have HR := Lib.hid (sl_code (l := l) (wc_3 (k := k) hv hm) (by decide))
      clear hv hbad H hc
      go_enter Try.func22, Try.ntmps22
      go_wp2_with fail
      refine (HC.out _ (Below.refl _ _)).mono ?_
      rintro e w1 ⟨rfl, hb1⟩
      go_wp2_with (go_at_call 48; refine (l14Many_is hm _).mono ?_; rintro e w1 ⟨rfl, rfl⟩)
      go_ret2
      exact ⟨by rw [HR.out.1, HR.out.2]; rfl, hb1⟩
    cases hl : inB l 0 m
    · have HR := Lib.hid (sl_lost (wc_0 hv hk hm) hl)
      clear hv hbad H hc
      go_enter Try.func22, Try.ntmps22
      go_wp2_with fail
      refine (HC.out _ (Below.refl _ _)).mono ?_
      rintro e w1 ⟨rfl, hb1⟩
      go_wp2_with (first | (go_at_call 48; refine (l14Many_is hm _).mono ?_; rintro e w1 ⟨rfl, rfl⟩) | (go_at_call 41; refine (l00In_is hl _).mono ?_; rintro e w1 ⟨rfl, rfl⟩))
      go_ret2
      exact ⟨by rw [HR.out.1, HR.out.2]; rfl, hb1⟩
    · have HR := Lib.hid (sl_ok (wc_0 hv hk hm) hl)
      obtain ⟨l1, l2⟩ := inB_true.1 hl
      obtain ⟨m1, m2⟩ := inB_true.1 hm
      obtain ⟨k1, k2⟩ := inB_true.1 hk
      obtain ⟨K, hK⟩ : ∃ K : Nat, k = K := ⟨k.toNat, by omega⟩
      subst hK
      have hKn : K < n := by omega
      have ht := badW_at hbad (k := K) (by rw [H.1]; exact hKn)
      have ho := slO_bd (y := xs.getD K WhE.zero) (m := m) (l := l) ht.1
      have hp1 := plT_bd (back := (xs.getD K WhE.zero).f1) (m := m) ht.1
      have hp2 := plT_bd (back := (xs.getD K WhE.zero).f1) (m := m - l) ht.1
      have hoo : slO (xs.getD K WhE.zero) m l = ((plT (xs.getD K WhE.zero).f0 (xs.getD K WhE.zero).f1 m - plT (xs.getD K WhE.zero).f0 (xs.getD K WhE.zero).f1 (m - l)).natAbs : Int) := rfl
      have hmy := slM_yes (y := xs.getD K WhE.zero) (m := m) (l := l)
      have hmn := slM_no (y := xs.getD K WhE.zero) (m := m) (l := l)
      rw [Int.toNat_natCast] at HR
      clear hv hbad hc
      obtain ⟨T1, T2⟩ := ht
      obtain ⟨O1, O2⟩ := ho
      obtain ⟨b, off, rfl, hbl, hc0, hc1⟩ := H.get hKn
      clear H
      generalize xs.getD K WhE.zero = y at *
      rw [hoo] at O1 O2 hmy hmn
      have HMY := Lib.hid hmy
      have HMN := Lib.hid hmn
      have hKi : (K : Int) < (n : Int) := by omega
      clear hoo hmy hmn hk
      go_enter Try.func22, Try.ntmps22
      go_wp2_with fail
      refine (HC.out _ (Below.refl _ _)).mono ?_
      rintro e w1 ⟨rfl, hb1⟩
      have hd0 := cell_of hb1 hc0
      have hd1 := cell_of hb1 hc1
      have hz1 := hb1.size
      go_wp2_with (first | (go_at_call 48; refine (l14Many_is hm _).mono ?_; rintro e w1 ⟨rfl, rfl⟩) | (go_at_call 41; refine (l00In_is hl _).mono ?_; rintro e w1 ⟨rfl, rfl⟩))
      refine wp_region_bel (by kernel_rfl) (by kernel_rfl) ?_
      repeat (go_big_quiet_step (((first | (go_at_call 49; exact calm_of (l14Place_any _ y.f0 y.f1 _ _ b (off + K * 2) rfl (bel_cell hd0 _) (bel_cell hd1 _) ⟨by omega, by omega⟩ ⟨by omega, by omega⟩)) | (go_at_call 42; exact calm_same (l00Size_any _ _ (by omega) (by omega)))))))
      refine wpQuiet_nil ?_
      intro w2 hw'
      obtain ⟨tq, hw''⟩ := hw'
      have hw2 := tq.2
      rw [← hw''] at hw2
      clear hw'' tq
      obtain ⟨hcw2, hfw2⟩ := bcell hw2
      try (have hzw2 : w.heap.size < w2.heap.size := by (have h := hw2.size; (try simp at h); omega))
      try (have hyw2 : w.heap.size + 1 < w2.heap.size := by (have h := hw2.size; (try simp at h); omega))
      try (have hxw2 : w.heap.size + 1 + 1 < w2.heap.size := by (have h := hw2.size; (try simp at h); omega))
      try (have hvw2 : w.heap.size + 1 + 1 + 1 < w2.heap.size := by (have h := hw2.size; (try simp at h); omega))
      by_cases hmin : ((plT y.f0 y.f1 m - plT y.f0 y.f1 (m - l)).natAbs : Int) ≤ y.f0 - ((plT y.f0 y.f1 m - plT y.f0 y.f1 (m - l)).natAbs : Int)
      · have HE := Lib.hid (HMY.out hmin)
        have hq0 := cell_of hw2 hd0
        go_wp2_with (go_at_call 50; refine (l00Min_le (by omega) _).mono ?_; rintro e w1 ⟨rfl, rfl⟩)
        go_ret2
        refine ⟨by rw [HR.out.1, HR.out.2, HE.out]; rfl, ?_⟩
        repeat (first | exact Below.refl _ _ | refine bw_drew ?_ | refine bw_drewN ?_ _ | refine bw_set ?_ (by simp; try omega) _ | refine bw_alloc ?_ _ | refine bw_trans ?_ (by assumption) | assumption)
      · have HE := Lib.hid (HMN.out (by omega))
        have hq0 := cell_of hw2 hd0
        go_wp2_with (go_at_call 50; refine (l00Min_gt (by omega) _).mono ?_; rintro e w1 ⟨rfl, rfl⟩)
        go_ret2
        refine ⟨by rw [HR.out.1, HR.out.2, HE.out]; rfl, ?_⟩
        repeat (first | exact Below.refl _ _ | refine bw_drew ?_ | refine bw_drewN ?_ _ | refine bw_set ?_ (by simp; try omega) _ | refine bw_alloc ?_ _ | refine bw_trans ?_ (by assumption) | assumption)
  · have hr := sl_code (l := l) (one_bad (m := m) hc) hc
    obtain ⟨C, hCC⟩ : ∃ C, oneC cr xs n k = C := ⟨_, rfl⟩
    rw [hCC] at hc hr hC
    have HC := Lib.hid hC
    have HR := Lib.hid hr
    have hce : (C != 0) = true := by simpa using hc
    have hcf : (C == 0) = false := by simpa using hc
    clear hC hr H
    go_enter Try.func22, Try.ntmps22
    go_wp2_with fail
    refine (HC.out _ (Below.refl _ _)).mono ?_
    rintro e w1 ⟨rfl, hb1⟩
    go_wp2_with fail
    go_ret2
    exact ⟨by rw [HR.out.1, HR.out.2]; rfl, hb1⟩

set_option maxRecDepth 100000 in
set_option maxHeartbeats 800000 in
theorem law_SlackOf (cr : Int) (a : Option Addr) (l c : Nat) (xs : List WhE) (k m l0 : Int) (w : World) (hm : l ≤ 9223372036854775807) (H0 : SlWh w a l xs) :
    Calls Try.prog 7 #[.int .i64 cr, .slice a l c, .int .i64 k, .int .i64 m, .int .i64 l0] w fun e w' => e = .returned (.bool true) ∧ Below w.heap.size w w' := by
  by_cases hn : l ≤ 1048576
  · have hni : ¬ (1048576 - (l : Int)) < 0 := by omega
    go_enter Try.func7, Try.ntmps7
    go_wp2_with fail
    refine (Whsz_any a l c _ hn).mono ?_
    rintro e w0 ⟨rfl, hB0⟩
    go_wp2_with fail
    refine (WhtoS_any a l c xs _ (H0.below hB0) hn).mono ?_
    rintro e w1 ⟨rfl, HS, hb1⟩
    have hB1 := bw_trans hB0 hb1
    clear hb1
    go_wp2_with fail
    refine (sSlackOf_any cr _ _ _ xs k m l0 _ HS hn ).mono ?_
    rintro e w2 ⟨rfl, hb2⟩
    have hB2 := bw_trans hB1 hb2
    clear hb2 HS
    go_wp2_with fail
    refine (WhtoS_any a l c xs _ (H0.below hB2) hn).mono ?_
    rintro e w3 ⟨rfl, HM, hb3⟩
    have hB3 := bw_trans hB2 hb3
    clear hb3
    go_wp2_with fail
    refine (iSlackOf_any cr _ _ _ xs k m l0 _ HM hn ).mono ?_
    rintro e w4 ⟨rfl, hb4⟩
    have hB4 := bw_trans hB3 hb4
    have HM4 := HM.below hb4
    clear hb4 HM
    go_wp2_with fail
    refine (WhtoS_any a l c xs _ (H0.below hB4) hn).mono ?_
    rintro e w5 ⟨rfl, HQ, hb5⟩
    have HM5 := HM4.below hb5
    have hB5 := bw_trans hB4 hb5
    clear hb5 HM4
    go_wp2_with fail
    refine (WheqS_any _ _ _ _ _ xs _ HM5 HQ hn).mono ?_
    rintro e w6 ⟨rfl, hb6⟩
    clear HM5 HQ H0
    go_wp2
    go_ret
    exact ⟨rfl, bw_trans hB5 hb6⟩
  · clear H0
    go_enter Try.func7, Try.ntmps7
    go_wp2_with fail
    refine (WhszNo_any a l c _ hm hn).mono ?_
    rintro e w0 ⟨rfl, hB0⟩
    go_wp2
    go_ret
    exact ⟨rfl, hB0⟩
end Go.Proofs.Ytjgigmlhnnkjiaa
