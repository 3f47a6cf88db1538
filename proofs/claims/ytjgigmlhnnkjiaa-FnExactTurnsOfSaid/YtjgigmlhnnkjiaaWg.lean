/-
  TurnsOf: in the program and in the reference; the law.
-/
import Derived.Test.YtjgigmlhnnkjiaaWf
import Derived.Test.YtjgigmlhnnkjiaaFrac
namespace Go.Proofs.Ytjgigmlhnnkjiaa
open Go.RowKit

theorem gcdI_neg (a b : Int) : gcdI (-a) b = gcdI a b := by unfold gcdI; rw [Int.neg_gcd]
theorem lowNum_neg (a b : Int) : lowNum (-a) b = -lowNum a b := by unfold lowNum; rw [gcdI_neg, Int.neg_tdiv]
theorem lowDen_neg (a b : Int) : lowDen (-a) b = lowDen a b := by unfold lowDen; rw [gcdI_neg]
def tuN (cr : Int) (xs : List WhE) (n : Nat) (k m : Int) : Int := if wcC cr xs n k m = 0 then (if (xs.getD k.toNat WhE.zero).f1 then -lowNum (m * cr) (xs.getD k.toNat WhE.zero).f0 else lowNum (m * cr) (xs.getD k.toNat WhE.zero).f0) else 0
def tuD (cr : Int) (xs : List WhE) (n : Nat) (k m : Int) : Int := if wcC cr xs n k m = 0 then lowDen (m * cr) (xs.getD k.toNat WhE.zero).f0 else 0
theorem tu_no {cr : Int} {xs : List WhE} {n : Nat} {k m : Int} (h : ¬ wcC cr xs n k m = 0) : tuN cr xs n k m = 0 ∧ tuD cr xs n k m = 0 := ⟨if_neg h, if_neg h⟩
theorem tu_back {cr : Int} {xs : List WhE} {n : Nat} {k m : Int} (h : wcC cr xs n k m = 0) (hb : (xs.getD k.toNat WhE.zero).f1 = true) : tuN cr xs n k m = -lowNum (m * cr) (xs.getD k.toNat WhE.zero).f0 ∧ tuD cr xs n k m = lowDen (m * cr) (xs.getD k.toNat WhE.zero).f0 := by
  unfold tuN tuD; rw [if_pos h, if_pos h, if_pos hb]; exact ⟨rfl, rfl⟩
theorem tu_fore {cr : Int} {xs : List WhE} {n : Nat} {k m : Int} (h : wcC cr xs n k m = 0) (hb : (xs.getD k.toNat WhE.zero).f1 = false) : tuN cr xs n k m = lowNum (m * cr) (xs.getD k.toNat WhE.zero).f0 ∧ tuD cr xs n k m = lowDen (m * cr) (xs.getD k.toNat WhE.zero).f0 := by
  unfold tuN tuD; rw [if_pos h, if_pos h, hb]; exact ⟨rfl, rfl⟩
theorem tu_mul {cr m : Int} (hc : 2 ≤ cr ∧ cr ≤ 200) (hm : 0 ≤ m ∧ m ≤ 100000) : 0 ≤ m * cr ∧ m * cr ≤ 20000000 :=
  ⟨Int.mul_nonneg (by omega) (by omega), Int.mul_le_mul (c := 100000) (d := 200) hm.2 hc.2 (by omega) (by omega)⟩
theorem ret_frac2 {a b c d C C' : Int} (h : a = c) (k : b = d) (l : C = C') : Ending.returned (.tuple #[.agg #[.int .i64 a, .int .i64 b], .int .i64 C]) = .returned (.tuple #[.agg #[.int .i64 c, .int .i64 d], .int .i64 C']) := by rw [h, k, l]

set_option maxHeartbeats 1600000 in
theorem iTurnsOf_any (cr : Int) (A : Option Addr) (n c : Nat) (xs : List WhE) (k m : Int) (w : World) (H : SlWh w A n xs) (hn : n ≤ 1048576) :
    Calls Try.prog 31 #[.int .i64 cr, .slice A n c, .int .i64 k, .int .i64 m] w fun e w' => e = .returned (.tuple #[.agg #[.int .i64 (tuN cr xs n k m), .int .i64 (tuD cr xs n k m)], .int .i64 (wcC cr xs n k m)]) ∧ Below w.heap.size w w' := by
  have hC := fun W hW => wheelCode_any cr A n c xs k m W (H.below hW) hn
  by_cases hc : wcC cr xs n k m = 0
  · have HW0 := Lib.hid hc
    rw [hc] at hC
    obtain ⟨hv, ⟨k1, k2⟩, ⟨m1, m2⟩⟩ := wc_ok hc
    obtain ⟨hcr, hn8, hbad⟩ := vw_parts hv
    have hcr' := isTe_true.1 hcr
    obtain ⟨p1, p2⟩ := tu_mul hcr' ⟨m1, m2⟩
    obtain ⟨c1, c2⟩ := hcr'
    have HC := Lib.hid hC
    clear hC hv
    have HB := Lib.hid (tu_back hc)
    have HF := Lib.hid (tu_fore hc)
    obtain ⟨K, hK⟩ : ∃ K : Nat, k = K := ⟨k.toNat, by omega⟩
    subst hK
    have hKn : K < n := by omega
    have ht := badW_at hbad (k := K) (by rw [H.1]; exact hKn)
    rw [Int.toNat_natCast] at HB HF
    clear hc hbad hcr
    obtain ⟨T1, T2⟩ := ht
    obtain ⟨b, off, rfl, hbl, hc0, hc1⟩ := H.get hKn
    clear H
    have hKi : (K : Int) < (n : Int) := by omega
    obtain ⟨l1, l2⟩ := lowNum_bd (n := m * cr) (d := (xs.getD K WhE.zero).f0) (B := 20000000) (by omega) (by omega)
    generalize xs.getD K WhE.zero = y at *
    cases hy : y.f1
    · have HR := Lib.hid (HF.out hy)
      rw [hy] at hc1
      clear HB HF hy
      go_enter Try.func31, Try.ntmps31
      go_wp2_with fail
      refine (HC.out _ (bw_alloc (Below.refl _ _) _)).mono ?_
      rintro e w1 ⟨rfl, hb1⟩
      have hd0 := cell_of (bw_trans (bw_alloc (Below.refl _ _) _) hb1) hc0
      have hd1 := cell_of (bw_trans (bw_alloc (Below.refl _ _) _) hb1) hc1
      obtain ⟨hc1', hf1'⟩ := bcell hb1
      have hz1 : w.heap.size < w1.heap.size := by (have h := hb1.size; simp at h; omega)
      go_wp2_with fail
      refine (lowest_any _ _ _ ⟨by omega, by omega⟩ ⟨by omega, by omega⟩).mono ?_
      rintro e w2 ⟨rfl, hb2⟩
      obtain ⟨hc2', hf2'⟩ := bcell hb2
      have hz2 : w1.heap.size ≤ w2.heap.size := hb2.size
      have he1 := cell_of hb2 hd1
      have hbl2 : b < w2.heap.size := by omega
      have hw2 : w.heap.size < w2.heap.size := by omega
      go_wp2
      refine bodyPost_ret (v := .tuple #[.agg #[.int .i64 (lowNum (m * cr) y.f0), .int .i64 (lowDen (m * cr) y.f0)], .int .i64 0]) (by simp [results, Try.results31, go_sem, *]) rfl ⟨ret_frac2 HR.out.1.symm HR.out.2.symm HW0.out.symm, ?_⟩
      repeat (first | exact Below.refl _ _ | refine bw_drew ?_ | refine bw_drewN ?_ _ | refine bw_set ?_ (by simp; try omega) _ | refine bw_alloc ?_ _ | refine bw_trans ?_ (by assumption) | assumption)
    · have HR := Lib.hid (HB.out hy)
      rw [hy] at hc1
      clear HB HF hy
      go_enter Try.func31, Try.ntmps31
      go_wp2_with fail
      refine (HC.out _ (bw_alloc (Below.refl _ _) _)).mono ?_
      rintro e w1 ⟨rfl, hb1⟩
      have hd0 := cell_of (bw_trans (bw_alloc (Below.refl _ _) _) hb1) hc0
      have hd1 := cell_of (bw_trans (bw_alloc (Below.refl _ _) _) hb1) hc1
      obtain ⟨hc1', hf1'⟩ := bcell hb1
      have hz1 : w.heap.size < w1.heap.size := by (have h := hb1.size; simp at h; omega)
      go_wp2_with fail
      refine (lowest_any _ _ _ ⟨by omega, by omega⟩ ⟨by omega, by omega⟩).mono ?_
      rintro e w2 ⟨rfl, hb2⟩
      obtain ⟨hc2', hf2'⟩ := bcell hb2
      have hz2 : w1.heap.size ≤ w2.heap.size := hb2.size
      have he1 := cell_of hb2 hd1
      have hbl2 : b < w2.heap.size := by omega
      have hw2 : w.heap.size < w2.heap.size := by omega
      go_wp2
      refine bodyPost_ret (v := .tuple #[.agg #[.int .i64 (-lowNum (m * cr) y.f0), .int .i64 (lowDen (m * cr) y.f0)], .int .i64 0]) (by simp [results, Try.results31, go_sem, *]) rfl ⟨ret_frac2 HR.out.1.symm HR.out.2.symm HW0.out.symm, ?_⟩
      repeat (first | exact Below.refl _ _ | refine bw_drew ?_ | refine bw_drewN ?_ _ | refine bw_set ?_ (by simp; try omega) _ | refine bw_alloc ?_ _ | refine bw_trans ?_ (by assumption) | assumption)
  · have HR := Lib.hid (tu_no hc)
    obtain ⟨C, hCC⟩ : ∃ C, wcC cr xs n k m = C := ⟨_, rfl⟩
    rw [hCC] at hc hC
    rw [hCC]
    have HC := Lib.hid hC
    have hce : (C != 0) = true := by simpa using hc
    clear hC hCC H
    go_enter Try.func31, Try.ntmps31
    go_wp2_with fail
    refine (HC.out _ (bw_alloc (Below.refl _ _) _)).mono ?_
    rintro e w1 ⟨rfl, hb1⟩
    obtain ⟨hc1', hf1'⟩ := bcell hb1
    have hz1 : w.heap.size < w1.heap.size := by (have h := hb1.size; simp at h; omega)
    go_wp2
    refine bodyPost_ret (v := .tuple #[.agg #[.int .i64 0, .int .i64 0], .int .i64 C]) (by simp [results, Try.results31, go_sem, *]) rfl ⟨ret_frac2 HR.out.1.symm HR.out.2.symm rfl, ?_⟩
    repeat (first | exact Below.refl _ _ | refine bw_drew ?_ | refine bw_drewN ?_ _ | refine bw_set ?_ (by simp; try omega) _ | refine bw_alloc ?_ _ | refine bw_trans ?_ (by assumption) | assumption)

set_option maxHeartbeats 1600000 in
theorem sTurnsOf_any (cr : Int) (A : Option Addr) (n c : Nat) (xs : List WhE) (k m : Int) (w : World) (H : SlWh w A n xs) (hn : n ≤ 1048576) :
    Calls Try.prog 30 #[.int .i64 cr, .slice A n c, .int .i64 k, .int .i64 m] w fun e w' => e = .returned (.tuple #[.agg #[.int .i64 (tuN cr xs n k m), .int .i64 (tuD cr xs n k m)], .int .i64 (wcC cr xs n k m)]) ∧ Below w.heap.size w w' := by
  have hC := fun W hW => l14One_any cr A n c xs k W (H.below hW) hn
  by_cases hc : oneC cr xs n k = 0
  · rw [hc] at hC
    obtain ⟨hv, hk⟩ := one_ok hc
    obtain ⟨hcr, hn8, hbad⟩ := vw_parts hv
    have hcr' := isTe_true.1 hcr
    have HC := Lib.hid hC
    clear hC
    cases hm : inB m 0 100000
    · have HW0 := Lib.hid (wc_3 (k := k) hv hm)
      have HR := Lib.hid (tu_no (show ¬ wcC cr xs n k m = 0 by rw [HW0.out]; decide))
      clear hv hbad H hc
      go_enter Try.func30, Try.ntmps30
      go_wp2_with fail
      refine (HC.out _ (bw_alloc (Below.refl _ _) _)).mono ?_
      rintro e w1 ⟨rfl, hb1⟩
      obtain ⟨hc1', hf1'⟩ := bcell hb1
      have hz1 : w.heap.size < w1.heap.size := by (have h := hb1.size; simp at h; omega)
      go_wp2_with (go_at_call 48; refine (l14Many_is hm _).mono ?_; rintro e w1 ⟨rfl, rfl⟩)
      refine bodyPost_ret (v := .tuple #[.agg #[.int .i64 0, .int .i64 0], .int .i64 2]) (by simp [results, Try.results30, go_sem, *]) rfl ⟨ret_frac2 HR.out.1.symm HR.out.2.symm HW0.out.symm, ?_⟩
      repeat (first | exact Below.refl _ _ | refine bw_drew ?_ | refine bw_drewN ?_ _ | refine bw_set ?_ (by simp; try omega) _ | refine bw_alloc ?_ _ | refine bw_trans ?_ (by assumption) | assumption)
    obtain ⟨m1, m2⟩ := inB_true.1 hm
    obtain ⟨k1, k2⟩ := inB_true.1 hk
    have hw0 := wc_0 hv hk hm
    have HW0 := Lib.hid hw0
    have HB := Lib.hid (tu_back hw0)
    have HF := Lib.hid (tu_fore hw0)
    obtain ⟨p1, p2⟩ := tu_mul hcr' ⟨m1, m2⟩
    obtain ⟨c1, c2⟩ := hcr'
    obtain ⟨K, hK⟩ : ∃ K : Nat, k = K := ⟨k.toNat, by omega⟩
    subst hK
    have hKn : K < n := by omega
    have ht := badW_at hbad (k := K) (by rw [H.1]; exact hKn)
    rw [Int.toNat_natCast] at HB HF
    clear hc hbad hcr hv hk hw0
    obtain ⟨T1, T2⟩ := ht
    obtain ⟨b, off, rfl, hbl, hc0, hc1⟩ := H.get hKn
    clear H
    have hKi : (K : Int) < (n : Int) := by omega
    generalize xs.getD K WhE.zero = y at *
    cases hy : y.f1
    · have HR := Lib.hid (HF.out hy)
      rw [hy] at hc1
      clear HB HF hy
      go_enter Try.func30, Try.ntmps30
      go_wp2_with fail
      refine (HC.out _ (bw_alloc (Below.refl _ _) _)).mono ?_
      rintro e w1 ⟨rfl, hb1⟩
      have hd0 := cell_of (bw_trans (bw_alloc (Below.refl _ _) _) hb1) hc0
      have hd1 := cell_of (bw_trans (bw_alloc (Below.refl _ _) _) hb1) hc1
      obtain ⟨hc1', hf1'⟩ := bcell hb1
      have hz1 : w.heap.size < w1.heap.size := by (have h := hb1.size; simp at h; omega)
      go_wp2_with (go_at_call 48; refine (l14Many_is hm _).mono ?_; rintro e w1 ⟨rfl, rfl⟩)
      refine (l02Make_any _ _ _ ⟨by omega, by omega⟩ ⟨by omega, by omega⟩).mono ?_
      rintro e w2 ⟨rfl, hb2⟩
      obtain ⟨hc2', hf2'⟩ := bcell hb2
      have hz2 : w1.heap.size ≤ w2.heap.size := hb2.size
      go_wp2
      refine bodyPost_ret (v := .tuple #[.agg #[.int .i64 (lowNum (m * cr) y.f0), .int .i64 (lowDen (m * cr) y.f0)], .int .i64 0]) (by simp [results, Try.results30, go_sem, *]) rfl ⟨ret_frac2 HR.out.1.symm HR.out.2.symm HW0.out.symm, ?_⟩
      repeat (first | exact Below.refl _ _ | refine bw_drew ?_ | refine bw_drewN ?_ _ | refine bw_set ?_ (by simp; try omega) _ | refine bw_alloc ?_ _ | refine bw_trans ?_ (by assumption) | assumption)
    · have HR := Lib.hid (HB.out hy)
      have HN := Lib.hid (lowNum_neg (m * cr) y.f0)
      have HD := Lib.hid (lowDen_neg (m * cr) y.f0)
      rw [hy] at hc1
      clear HB HF hy
      go_enter Try.func30, Try.ntmps30
      go_wp2_with fail
      refine (HC.out _ (bw_alloc (Below.refl _ _) _)).mono ?_
      rintro e w1 ⟨rfl, hb1⟩
      have hd0 := cell_of (bw_trans (bw_alloc (Below.refl _ _) _) hb1) hc0
      have hd1 := cell_of (bw_trans (bw_alloc (Below.refl _ _) _) hb1) hc1
      obtain ⟨hc1', hf1'⟩ := bcell hb1
      have hz1 : w.heap.size < w1.heap.size := by (have h := hb1.size; simp at h; omega)
      go_wp2_with (go_at_call 48; refine (l14Many_is hm _).mono ?_; rintro e w1 ⟨rfl, rfl⟩)
      refine (l02Make_any _ _ _ ⟨by omega, by omega⟩ ⟨by omega, by omega⟩).mono ?_
      rintro e w2 ⟨rfl, hb2⟩
      obtain ⟨hc2', hf2'⟩ := bcell hb2
      have hz2 : w1.heap.size ≤ w2.heap.size := hb2.size
      go_wp2
      refine bodyPost_ret (v := .tuple #[.agg #[.int .i64 (lowNum (-(m * cr)) y.f0), .int .i64 (lowDen (-(m * cr)) y.f0)], .int .i64 0]) (by simp [results, Try.results30, go_sem, *]) rfl ⟨ret_frac2 (by rw [HN.out, HR.out.1]) (by rw [HD.out, HR.out.2]) HW0.out.symm, ?_⟩
      repeat (first | exact Below.refl _ _ | refine bw_drew ?_ | refine bw_drewN ?_ _ | refine bw_set ?_ (by simp; try omega) _ | refine bw_alloc ?_ _ | refine bw_trans ?_ (by assumption) | assumption)
  · have hw0 := one_bad (m := m) hc
    obtain ⟨C, hCC⟩ : ∃ C, oneC cr xs n k = C := ⟨_, rfl⟩
    rw [hCC] at hc hC hw0
    have HR := Lib.hid (tu_no (show ¬ wcC cr xs n k m = 0 by rw [hw0]; exact hc))
    rw [hw0]
    have HC := Lib.hid hC
    have hce : (C != 0) = true := by simpa using hc
    have hcf : (C == 0) = false := by simpa using hc
    clear hC hCC H hw0
    go_enter Try.func30, Try.ntmps30
    go_wp2_with fail
    refine (HC.out _ (bw_alloc (Below.refl _ _) _)).mono ?_
    rintro e w1 ⟨rfl, hb1⟩
    obtain ⟨hc1', hf1'⟩ := bcell hb1
    have hz1 : w.heap.size < w1.heap.size := by (have h := hb1.size; simp at h; omega)
    go_wp2
    refine bodyPost_ret (v := .tuple #[.agg #[.int .i64 0, .int .i64 0], .int .i64 C]) (by simp [results, Try.results30, go_sem, *]) rfl ⟨ret_frac2 HR.out.1.symm HR.out.2.symm rfl, ?_⟩
    repeat (first | exact Below.refl _ _ | refine bw_drew ?_ | refine bw_drewN ?_ _ | refine bw_set ?_ (by simp; try omega) _ | refine bw_alloc ?_ _ | refine bw_trans ?_ (by assumption) | assumption)

set_option maxRecDepth 100000 in
set_option maxHeartbeats 800000 in
theorem law_TurnsOf (cr : Int) (a : Option Addr) (l c : Nat) (xs : List WhE) (k m : Int) (w : World) (hm : l ≤ 9223372036854775807) (H0 : SlWh w a l xs) :
    Calls Try.prog 9 #[.int .i64 cr, .slice a l c, .int .i64 k, .int .i64 m] w fun e w' => e = .returned (.bool true) ∧ Below w.heap.size w w' := by
  by_cases hn : l ≤ 1048576
  · have hni : ¬ (1048576 - (l : Int)) < 0 := by omega
    go_enter Try.func9, Try.ntmps9
    go_wp2_with fail
    refine (Whsz_any a l c _ hn).mono ?_
    rintro e w0 ⟨rfl, hB0⟩
    go_wp2_with fail
    refine (WhtoS_any a l c xs _ (H0.below hB0) hn).mono ?_
    rintro e w1 ⟨rfl, HS, hb1⟩
    have hB1 := bw_trans hB0 hb1
    clear hb1
    go_wp2_with fail
    refine (sTurnsOf_any cr _ _ _ xs k m _ HS hn ).mono ?_
    rintro e w2 ⟨rfl, hb2⟩
    have hB2 := bw_trans hB1 hb2
    have hbz2 := hb2.size
    clear hb2 HS
    have hB2 := bw_alloc hB2 (.cells #[.int .i64 (tuN cr xs l k m), .int .i64 (tuD cr xs l k m)] 33)
    go_wp2_with fail
    refine (WhtoS_any a l c xs _ (H0.below hB2) hn).mono ?_
    rintro e w3 ⟨rfl, HM, hb3⟩
    have hB3 := bw_trans hB2 hb3
    have hbz3 := hb3.size
    have hbw3 := hb3
    clear hb3
    have HM : SlWh w3 (some ⟨w2.heap.size + 1, 0, none⟩) l xs := by simpa using HM
    go_wp2_with fail
    refine (iTurnsOf_any cr _ _ _ xs k m _ HM hn ).mono ?_
    rintro e w4 ⟨rfl, hb4⟩
    have hB4 := bw_trans hB3 hb4
    have HM4 := HM.below hb4
    have hB4 := bw_alloc hB4 (.cells #[.int .i64 (tuN cr xs l k m), .int .i64 (tuD cr xs l k m)] 33)
    have HM4 := HM4.below (bw_alloc (Below.refl _ _) (.cells #[.int .i64 (tuN cr xs l k m), .int .i64 (tuD cr xs l k m)] 33))
    have hq0 : w1.heap.size ≤ w2.heap.size := hbz2
    have hq1 : w3.heap.size ≤ w4.heap.size := hb4.size
    have hq2 : w2.heap.size < w3.heap.size := by (have h := hbz3; simp at h; omega)
    have hx0 := (hb4.cell (p := ⟨w2.heap.size, 0, none⟩) hq2).trans ((hbw3.cell (p := ⟨w2.heap.size, 0, none⟩) (by simp)).trans (by go_simp : _ = some (.int .i64 (tuN cr xs l k m))))
    have hx1 := (hb4.cell (p := ⟨w2.heap.size, 1, none⟩) hq2).trans ((hbw3.cell (p := ⟨w2.heap.size, 1, none⟩) (by simp)).trans (by go_simp : _ = some (.int .i64 (tuD cr xs l k m))))
    have hq3 : w2.heap.size < w4.heap.size := by omega
    clear hb4 HM hbz3 hbw3 hbz2
    go_wp2_with fail
    refine (eqFraction_any _ _ _).mono ?_
    rintro e w4' ⟨rfl, hb4'⟩
    have hB4 := bw_trans hB4 hb4'
    have HM4 := HM4.below hb4'
    clear hb4'
    go_wp2_with fail
    refine (WhtoS_any a l c xs _ (H0.below hB4) hn).mono ?_
    rintro e w5 ⟨rfl, HQ, hb5⟩
    have HM5 := HM4.below hb5
    have hB5 := bw_trans hB4 hb5
    clear hb5 HM4
    go_wp2_with fail
    refine (WheqS_any _ _ _ _ _ xs _ HM5 HQ hn).mono ?_
    rintro e w6 ⟨rfl, hb6⟩
    clear HM5 HQ H0
    go_wp2
    go_ret
    exact ⟨rfl, bw_trans hB5 hb6⟩
  · clear H0
    go_enter Try.func9, Try.ntmps9
    go_wp2_with fail
    refine (WhszNo_any a l c _ hm hn).mono ?_
    rintro e w0 ⟨rfl, hB0⟩
    go_wp2
    go_ret
    exact ⟨rfl, hB0⟩
end Go.Proofs.Ytjgigmlhnnkjiaa
