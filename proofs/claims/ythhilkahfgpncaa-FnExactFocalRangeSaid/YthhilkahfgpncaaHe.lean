/-
  The focal lengths that suit a hall: in the program and in the reference; the law.
-/
import Derived.Test.YthhilkahfgpncaaHd
namespace Go.Proofs.Ythhilkahfgpncaa
open Go.RowKit

theorem fo_one : isFo 1 = true := by decide
theorem fg_ok {t l x s : Int} (h1 : vHa t l x = true) (h2 : isSl s = true) {lo hi : Int} (h : rngTo (suB t l x s) 2000 = (lo, hi)) : fgT t l x s = if lo = 0 then (0, 0, 3) else (lo, hi, 0) := by
  unfold fgT; rw [if_pos h1, if_pos h2, h]

set_option maxRecDepth 100000 in
set_option maxHeartbeats 1600000 in
theorem focalRange_any (t l x s : Int) (w : World) :
    Calls Try.prog 29 #[.agg #[.int .i64 t, .int .i64 l, .int .i64 x], .int .i64 s] w fun e w' => e = .returned (.tuple #[.int .i64 (fgT t l x s).1, .int .i64 (fgT t l x s).2.1, .int .i64 (fgT t l x s).2.2]) ∧ Below w.heap.size w w' := by
  cases h1 : vHa t l x
  case false =>
    have hcc : hcC false s 1 [] 0 = 1 := rfl
    go_enter Try.func29, Try.ntmps29
    go_wp2_with (first | (go_at_call 57; refine (validHall_is (by assumption) _).mono ?_; rintro e w1 ⟨rfl, hb1⟩; obtain ⟨hc1, hf1⟩ := bcell hb1; try (have hz1 : w.heap.size < w1.heap.size := by (have h := hb1.size; (try simp at h); omega)); try (have hy1 : w.heap.size + 1 < w1.heap.size := by (have h := hb1.size; (try simp at h); omega)); try (have hx1 : w.heap.size + 1 + 1 < w1.heap.size := by (have h := hb1.size; (try simp at h); omega)); try (have hv1 : w.heap.size + 1 + 1 + 1 < w1.heap.size := by (have h := hb1.size; (try simp at h); omega)); try (have hp1 : w.heap.size ≤ w1.heap.size := by omega)) | (go_at_call 56; refine (hallsCode_is _ (by assumption) _ (SlI.nil _) small0).mono ?_; rintro e w1 ⟨rfl, hb1⟩; obtain ⟨hc1, hf1⟩ := bcell hb1; try (have hz1 : w.heap.size < w1.heap.size := by (have h := hb1.size; (try simp at h); omega)); try (have hy1 : w.heap.size + 1 < w1.heap.size := by (have h := hb1.size; (try simp at h); omega)); try (have hx1 : w.heap.size + 1 + 1 < w1.heap.size := by (have h := hb1.size; (try simp at h); omega)); try (have hv1 : w.heap.size + 1 + 1 + 1 < w1.heap.size := by (have h := hb1.size; (try simp at h); omega)); try (have hp1 : w.heap.size ≤ w1.heap.size := by omega)))
    go_ret3
    refine ⟨by simp [fgT, h1], ?_⟩
    repeat (first | exact Below.refl _ _ | refine bw_drew ?_ | refine bw_drewN ?_ _ | refine bw_set ?_ (by simp; try omega) _ | refine bw_alloc ?_ _ | refine bw_trans ?_ (by assumption) | assumption)
  cases h2 : isSl s
  case false =>
    have hcc : hcC true s 1 [] 0 = 2 := by simp [hc_nil, h2]
    go_enter Try.func29, Try.ntmps29
    go_wp2_with (first | (go_at_call 57; refine (validHall_is (by assumption) _).mono ?_; rintro e w1 ⟨rfl, hb1⟩; obtain ⟨hc1, hf1⟩ := bcell hb1; try (have hz1 : w.heap.size < w1.heap.size := by (have h := hb1.size; (try simp at h); omega)); try (have hy1 : w.heap.size + 1 < w1.heap.size := by (have h := hb1.size; (try simp at h); omega)); try (have hx1 : w.heap.size + 1 + 1 < w1.heap.size := by (have h := hb1.size; (try simp at h); omega)); try (have hv1 : w.heap.size + 1 + 1 + 1 < w1.heap.size := by (have h := hb1.size; (try simp at h); omega)); try (have hp1 : w.heap.size ≤ w1.heap.size := by omega)) | (go_at_call 56; refine (hallsCode_is _ (by assumption) _ (SlI.nil _) small0).mono ?_; rintro e w1 ⟨rfl, hb1⟩; obtain ⟨hc1, hf1⟩ := bcell hb1; try (have hz1 : w.heap.size < w1.heap.size := by (have h := hb1.size; (try simp at h); omega)); try (have hy1 : w.heap.size + 1 < w1.heap.size := by (have h := hb1.size; (try simp at h); omega)); try (have hx1 : w.heap.size + 1 + 1 < w1.heap.size := by (have h := hb1.size; (try simp at h); omega)); try (have hv1 : w.heap.size + 1 + 1 + 1 < w1.heap.size := by (have h := hb1.size; (try simp at h); omega)); try (have hp1 : w.heap.size ≤ w1.heap.size := by omega)))
    go_ret3
    refine ⟨by simp [fgT, h1, h2], ?_⟩
    repeat (first | exact Below.refl _ _ | refine bw_drew ?_ | refine bw_drewN ?_ _ | refine bw_set ?_ (by simp; try omega) _ | refine bw_alloc ?_ _ | refine bw_trans ?_ (by assumption) | assumption)
  have hcc : hcC true s 1 [] 0 = 0 := by simp [hc_nil, h2, fo_one]
  have HF := Lib.hid (show ∀ lo hi : Int, rngTo (suB t l x s) 2000 = (lo, hi) → fgT t l x s = (if lo = 0 then (0, 0, 3) else (lo, hi, 0)) from fun lo hi h => fg_ok h1 h2 h)
  go_enter Try.func29, Try.ntmps29
  go_wp2_with (first | (go_at_call 57; refine (validHall_is (by assumption) _).mono ?_; rintro e w1 ⟨rfl, hb1⟩; obtain ⟨hc1, hf1⟩ := bcell hb1; try (have hz1 : w.heap.size < w1.heap.size := by (have h := hb1.size; (try simp at h); omega)); try (have hy1 : w.heap.size + 1 < w1.heap.size := by (have h := hb1.size; (try simp at h); omega)); try (have hx1 : w.heap.size + 1 + 1 < w1.heap.size := by (have h := hb1.size; (try simp at h); omega)); try (have hv1 : w.heap.size + 1 + 1 + 1 < w1.heap.size := by (have h := hb1.size; (try simp at h); omega)); try (have hp1 : w.heap.size ≤ w1.heap.size := by omega)) | (go_at_call 56; refine (hallsCode_is _ (by assumption) _ (SlI.nil _) small0).mono ?_; rintro e w1 ⟨rfl, hb1⟩; obtain ⟨hc1, hf1⟩ := bcell hb1; try (have hz1 : w.heap.size < w1.heap.size := by (have h := hb1.size; (try simp at h); omega)); try (have hy1 : w.heap.size + 1 < w1.heap.size := by (have h := hb1.size; (try simp at h); omega)); try (have hx1 : w.heap.size + 1 + 1 < w1.heap.size := by (have h := hb1.size; (try simp at h); omega)); try (have hv1 : w.heap.size + 1 + 1 + 1 < w1.heap.size := by (have h := hb1.size; (try simp at h); omega)); try (have hp1 : w.heap.size ≤ w1.heap.size := by omega)))
  have hB : Below (w.alloc (.cells #[.int .i64 t, .int .i64 l, .int .i64 x] 26)).heap.size (w.alloc (.cells #[.int .i64 t, .int .i64 l, .int .i64 x] 26)) w1 := by
    repeat (first | exact Below.refl _ _ | refine bw_drew ?_ | refine bw_drewN ?_ _ | refine bw_set ?_ (by simp; try omega) _ | refine bw_alloc ?_ _ | refine bw_trans ?_ (by assumption) | assumption)
  clear hb1 hc1 hf1
  go_loopw [8, 9, 10] (fun a b y wr => ∃ (k : Nat) (lo hi : Int), k ≤ 2000 ∧ a = .int .i64 lo ∧ b = .int .i64 hi ∧ y = .int .i64 (k + 1) ∧ Hid (rngTo (suB t l x s) k = (lo, hi)) ∧ Below (w.alloc (.cells #[.int .i64 t, .int .i64 l, .int .i64 x] 26)).heap.size (w.alloc (.cells #[.int .i64 t, .int .i64 l, .int .i64 x] 26)) wr) (fun _ _ y _ => (2001 - intOf y).toNat)
  case atStart => exact ⟨0, 0, 0, by omega, rfl, rfl, by simp, rfl, hB⟩
  case round =>
    obtain ⟨k, lo, hi, hk, rfl, rfl, rfl, hr, hbr⟩ := hrel
    have hc0 : wr.cell? ⟨w.heap.size, 0, none⟩ = some (.int .i64 t) := cell_of hbr (by go_simp)
    have hc1 : wr.cell? ⟨w.heap.size, 1, none⟩ = some (.int .i64 l) := cell_of hbr (by go_simp)
    have hc2 : wr.cell? ⟨w.heap.size, 2, none⟩ = some (.int .i64 x) := cell_of hbr (by go_simp)
    by_cases hlt : k < 2000
    · have e1 : ((k + 1 : Nat) : Int) = (k : Int) + 1 := by omega
      cases hp : suB t l x s ((k : Int) + 1)
      · have hq : rngTo (suB t l x s) (k + 1) = (lo, hi) := (rngTo_no (by rw [e1]; exact hp)).trans hr.out
        have HQ := Lib.hid hq
        clear hq e1
        go_wp2_with fail
        refine (suits_any t l x s _ _ h1 h2 ⟨by omega, by omega⟩).mono ?_
        rintro e w2 ⟨rfl, hb2⟩
        rw [hp]
        go_wp2_with fail
        go_roundw
        case rel => exact ⟨k + 1, lo, hi, by omega, rfl, rfl, by go_num, HQ.out, bw_trans hbr hb2⟩
        case measure => simp [intOf]; omega
      · by_cases h0 : lo = 0
        · have hq : rngTo (suB t l x s) (k + 1) = ((k : Int) + 1, (k : Int) + 1) := by
            rw [rngTo_yes0 (by rw [e1]; exact hp) (by rw [hr.out]; exact h0), e1]
          have HQ := Lib.hid hq
          clear hq e1
          subst h0
          go_wp2_with fail
          refine (suits_any t l x s _ _ h1 h2 ⟨by omega, by omega⟩).mono ?_
          rintro e w2 ⟨rfl, hb2⟩
          rw [hp]
          go_wp2_with fail
          go_roundw
          case rel => exact ⟨k + 1, (k : Int) + 1, (k : Int) + 1, by omega, rfl, rfl, by go_num, HQ.out, bw_trans hbr hb2⟩
          case measure => simp [intOf]; omega
        · have hq : rngTo (suB t l x s) (k + 1) = (lo, (k : Int) + 1) := by
            rw [rngTo_yes1 (by rw [e1]; exact hp) (by rw [hr.out]; exact h0), hr.out, e1]
          have HQ := Lib.hid hq
          have hz : (lo == 0) = false := by simpa using h0
          clear hq e1
          go_wp2_with fail
          refine (suits_any t l x s _ _ h1 h2 ⟨by omega, by omega⟩).mono ?_
          rintro e w2 ⟨rfl, hb2⟩
          rw [hp]
          go_wp2_with fail
          go_roundw
          case rel => exact ⟨k + 1, lo, (k : Int) + 1, by omega, rfl, rfl, by go_num, HQ.out, bw_trans hbr hb2⟩
          case measure => simp [intOf]; omega
    · have hkk : k = 2000 := by omega
      subst hkk
      by_cases h0 : lo = 0
      · subst h0
        have HG := Lib.hid (HF.out _ _ hr.out)
        go_wp2
        go_ret3
        refine ⟨by rw [HG.out]; rfl, ?_⟩
        exact bw_trans (bw_alloc (Below.refl _ _) _) hbr
      · have HG := Lib.hid (HF.out _ _ hr.out)
        have HZ := Lib.hid h0
        have hz : (lo == 0) = false := by simpa using h0
        go_wp2
        go_ret3
        refine ⟨by rw [HG.out, if_neg HZ.out]; rfl, ?_⟩
        exact bw_trans (bw_alloc (Below.refl _ _) _) hbr

set_option maxRecDepth 100000 in
set_option maxHeartbeats 1600000 in
theorem sFocalRange_any (t l x s : Int) (w : World) :
    Calls Try.prog 28 #[.agg #[.int .i64 t, .int .i64 l, .int .i64 x], .int .i64 s] w fun e w' => e = .returned (.tuple #[.int .i64 (fgT t l x s).1, .int .i64 (fgT t l x s).2.1, .int .i64 (fgT t l x s).2.2]) ∧ Below w.heap.size w w' := by
  cases h1 : vHa t l x
  case false =>
    go_enter Try.func28, Try.ntmps28
    go_wp2_with (first | (go_at_call 52; refine (l11One_is (by assumption) _ _ _ (by go_simp) (by go_simp) (by go_simp)).mono ?_; rintro e w1 ⟨rfl, hb1⟩; obtain ⟨hc1, hf1⟩ := bcell hb1; try (have hz1 : w.heap.size < w1.heap.size := by (have h := hb1.size; (try simp at h); omega)); try (have hy1 : w.heap.size + 1 < w1.heap.size := by (have h := hb1.size; (try simp at h); omega)); try (have hx1 : w.heap.size + 1 + 1 < w1.heap.size := by (have h := hb1.size; (try simp at h); omega)); try (have hv1 : w.heap.size + 1 + 1 + 1 < w1.heap.size := by (have h := hb1.size; (try simp at h); omega)); try (have hp1 : w.heap.size ≤ w1.heap.size := by omega)) | (go_at_call 53; refine (l11Slide_is (by assumption) _).mono ?_; rintro e w1 ⟨rfl, rfl⟩))
    go_ret3
    refine ⟨by simp [fgT, h1], ?_⟩
    repeat (first | exact Below.refl _ _ | refine bw_drew ?_ | refine bw_drewN ?_ _ | refine bw_set ?_ (by simp; try omega) _ | refine bw_alloc ?_ _ | refine bw_trans ?_ (by assumption) | assumption)
  cases h2 : isSl s
  case false =>
    go_enter Try.func28, Try.ntmps28
    go_wp2_with (first | (go_at_call 52; refine (l11One_is (by assumption) _ _ _ (by go_simp) (by go_simp) (by go_simp)).mono ?_; rintro e w1 ⟨rfl, hb1⟩; obtain ⟨hc1, hf1⟩ := bcell hb1; try (have hz1 : w.heap.size < w1.heap.size := by (have h := hb1.size; (try simp at h); omega)); try (have hy1 : w.heap.size + 1 < w1.heap.size := by (have h := hb1.size; (try simp at h); omega)); try (have hx1 : w.heap.size + 1 + 1 < w1.heap.size := by (have h := hb1.size; (try simp at h); omega)); try (have hv1 : w.heap.size + 1 + 1 + 1 < w1.heap.size := by (have h := hb1.size; (try simp at h); omega)); try (have hp1 : w.heap.size ≤ w1.heap.size := by omega)) | (go_at_call 53; refine (l11Slide_is (by assumption) _).mono ?_; rintro e w1 ⟨rfl, rfl⟩))
    go_ret3
    refine ⟨by simp [fgT, h1, h2], ?_⟩
    repeat (first | exact Below.refl _ _ | refine bw_drew ?_ | refine bw_drewN ?_ _ | refine bw_set ?_ (by simp; try omega) _ | refine bw_alloc ?_ _ | refine bw_trans ?_ (by assumption) | assumption)
  have HF := Lib.hid (show ∀ lo hi : Int, rngTo (suB t l x s) 2000 = (lo, hi) → fgT t l x s = (if lo = 0 then (0, 0, 3) else (lo, hi, 0)) from fun lo hi h => fg_ok h1 h2 h)
  go_enter Try.func28, Try.ntmps28
  go_wp2_with (first | (go_at_call 52; refine (l11One_is (by assumption) _ _ _ (by go_simp) (by go_simp) (by go_simp)).mono ?_; rintro e w1 ⟨rfl, hb1⟩; obtain ⟨hc1, hf1⟩ := bcell hb1; try (have hz1 : w.heap.size < w1.heap.size := by (have h := hb1.size; (try simp at h); omega)); try (have hy1 : w.heap.size + 1 < w1.heap.size := by (have h := hb1.size; (try simp at h); omega)); try (have hx1 : w.heap.size + 1 + 1 < w1.heap.size := by (have h := hb1.size; (try simp at h); omega)); try (have hv1 : w.heap.size + 1 + 1 + 1 < w1.heap.size := by (have h := hb1.size; (try simp at h); omega)); try (have hp1 : w.heap.size ≤ w1.heap.size := by omega)) | (go_at_call 53; refine (l11Slide_is (by assumption) _).mono ?_; rintro e w1 ⟨rfl, rfl⟩))
  have hB : Below (w.alloc (.cells #[.int .i64 t, .int .i64 l, .int .i64 x] 26)).heap.size (w.alloc (.cells #[.int .i64 t, .int .i64 l, .int .i64 x] 26)) w1 := by
    repeat (first | exact Below.refl _ _ | refine bw_drew ?_ | refine bw_drewN ?_ _ | refine bw_set ?_ (by simp; try omega) _ | refine bw_alloc ?_ _ | refine bw_trans ?_ (by assumption) | assumption)
  clear hb1 hc1 hf1
  go_loopw [7, 8, 9] (fun a b y wr => ∃ (k : Nat) (lo hi : Int), k ≤ 2000 ∧ a = .int .i64 lo ∧ b = .int .i64 hi ∧ y = .int .i64 (k + 1) ∧ Hid (rngTo (suB t l x s) k = (lo, hi)) ∧ Below (w.alloc (.cells #[.int .i64 t, .int .i64 l, .int .i64 x] 26)).heap.size (w.alloc (.cells #[.int .i64 t, .int .i64 l, .int .i64 x] 26)) wr) (fun _ _ y _ => (2001 - intOf y).toNat)
  case atStart => exact ⟨0, 0, 0, by omega, rfl, rfl, by simp, rfl, hB⟩
  case round =>
    obtain ⟨k, lo, hi, hk, rfl, rfl, rfl, hr, hbr⟩ := hrel
    have hc0 : wr.cell? ⟨w.heap.size, 0, none⟩ = some (.int .i64 t) := cell_of hbr (by go_simp)
    have hc1 : wr.cell? ⟨w.heap.size, 1, none⟩ = some (.int .i64 l) := cell_of hbr (by go_simp)
    have hc2 : wr.cell? ⟨w.heap.size, 2, none⟩ = some (.int .i64 x) := cell_of hbr (by go_simp)
    by_cases hlt : k < 2000
    · have e1 : ((k + 1 : Nat) : Int) = (k : Int) + 1 := by omega
      cases hp : suB t l x s ((k : Int) + 1)
      · have hq : rngTo (suB t l x s) (k + 1) = (lo, hi) := (rngTo_no (by rw [e1]; exact hp)).trans hr.out
        have HQ := Lib.hid hq
        clear hq e1
        go_wp2_with fail
        refine (l11Suits_any t l x s _ _ _ _ h1 h2 ⟨by omega, by omega⟩ hc0 hc1 hc2).mono ?_
        rintro e w2 ⟨rfl, hb2⟩
        rw [hp]
        go_wp2_with fail
        go_roundw
        case rel => exact ⟨k + 1, lo, hi, by omega, rfl, rfl, by go_num, HQ.out, bw_trans hbr hb2⟩
        case measure => simp [intOf]; omega
      · by_cases h0 : lo = 0
        · have hq : rngTo (suB t l x s) (k + 1) = ((k : Int) + 1, (k : Int) + 1) := by
            rw [rngTo_yes0 (by rw [e1]; exact hp) (by rw [hr.out]; exact h0), e1]
          have HQ := Lib.hid hq
          clear hq e1
          subst h0
          go_wp2_with fail
          refine (l11Suits_any t l x s _ _ _ _ h1 h2 ⟨by omega, by omega⟩ hc0 hc1 hc2).mono ?_
          rintro e w2 ⟨rfl, hb2⟩
          rw [hp]
          go_wp2_with fail
          go_roundw
          case rel => exact ⟨k + 1, (k : Int) + 1, (k : Int) + 1, by omega, rfl, rfl, by go_num, HQ.out, bw_trans hbr hb2⟩
          case measure => simp [intOf]; omega
        · have hq : rngTo (suB t l x s) (k + 1) = (lo, (k : Int) + 1) := by
            rw [rngTo_yes1 (by rw [e1]; exact hp) (by rw [hr.out]; exact h0), hr.out, e1]
          have HQ := Lib.hid hq
          have hz : (lo == 0) = false := by simpa using h0
          clear hq e1
          go_wp2_with fail
          refine (l11Suits_any t l x s _ _ _ _ h1 h2 ⟨by omega, by omega⟩ hc0 hc1 hc2).mono ?_
          rintro e w2 ⟨rfl, hb2⟩
          rw [hp]
          go_wp2_with fail
          go_roundw
          case rel => exact ⟨k + 1, lo, (k : Int) + 1, by omega, rfl, rfl, by go_num, HQ.out, bw_trans hbr hb2⟩
          case measure => simp [intOf]; omega
    · have hkk : k = 2000 := by omega
      subst hkk
      by_cases h0 : lo = 0
      · subst h0
        have HG := Lib.hid (HF.out _ _ hr.out)
        go_wp2
        go_ret3
        refine ⟨by rw [HG.out]; rfl, ?_⟩
        exact bw_trans (bw_alloc (Below.refl _ _) _) hbr
      · have HG := Lib.hid (HF.out _ _ hr.out)
        have HZ := Lib.hid h0
        have hz : (lo == 0) = false := by simpa using h0
        go_wp2
        go_ret3
        refine ⟨by rw [HG.out, if_neg HZ.out]; rfl, ?_⟩
        exact bw_trans (bw_alloc (Below.refl _ _) _) hbr

set_option maxHeartbeats 400000 in
theorem law_FocalRange (t l x s : Int) (w : World) :
    Calls Try.prog 6 #[.agg #[.int .i64 t, .int .i64 l, .int .i64 x], .int .i64 s] w fun e w' => e = .returned (.bool true) ∧ Below w.heap.size w w' := by
  go_enter Try.func6, Try.ntmps6
  go_wp2_with fail
  refine ((toLensHall_any _ _ _ _)).mono ?_
  rintro e w1 ⟨rfl, hb1⟩
  obtain ⟨hc1, hf1⟩ := bcell hb1
  try (have hz1 : w.heap.size < w1.heap.size := by (have h := hb1.size; (try simp at h); omega))
  try (have hy1 : w.heap.size + 1 < w1.heap.size := by (have h := hb1.size; (try simp at h); omega))
  try (have hx1 : w.heap.size + 1 + 1 < w1.heap.size := by (have h := hb1.size; (try simp at h); omega))
  try (have hv1 : w.heap.size + 1 + 1 + 1 < w1.heap.size := by (have h := hb1.size; (try simp at h); omega))
  try (have hp1 : w.heap.size ≤ w1.heap.size := by omega)
  go_wp2_with fail
  refine ((sFocalRange_any _ _ _ _ _)).mono ?_
  rintro e w2 ⟨rfl, hb2⟩
  obtain ⟨hc2, hf2⟩ := bcell hb2
  try (have hz2 : w.heap.size < w2.heap.size := by (have h := hb2.size; (try simp at h); omega))
  try (have hy2 : w.heap.size + 1 < w2.heap.size := by (have h := hb2.size; (try simp at h); omega))
  try (have hx2 : w.heap.size + 1 + 1 < w2.heap.size := by (have h := hb2.size; (try simp at h); omega))
  try (have hv2 : w.heap.size + 1 + 1 + 1 < w2.heap.size := by (have h := hb2.size; (try simp at h); omega))
  try (have hp2 : w.heap.size ≤ w2.heap.size := by omega)
  go_wp2_with fail
  refine ((toLensHall_any _ _ _ _)).mono ?_
  rintro e w3 ⟨rfl, hb3⟩
  obtain ⟨hc3, hf3⟩ := bcell hb3
  try (have hz3 : w.heap.size < w3.heap.size := by (have h := hb3.size; (try simp at h); omega))
  try (have hy3 : w.heap.size + 1 < w3.heap.size := by (have h := hb3.size; (try simp at h); omega))
  try (have hx3 : w.heap.size + 1 + 1 < w3.heap.size := by (have h := hb3.size; (try simp at h); omega))
  try (have hv3 : w.heap.size + 1 + 1 + 1 < w3.heap.size := by (have h := hb3.size; (try simp at h); omega))
  try (have hp3 : w.heap.size ≤ w3.heap.size := by omega)
  go_wp2_with fail
  refine ((focalRange_any _ _ _ _ _)).mono ?_
  rintro e w4 ⟨rfl, hb4⟩
  obtain ⟨hc4, hf4⟩ := bcell hb4
  try (have hz4 : w.heap.size < w4.heap.size := by (have h := hb4.size; (try simp at h); omega))
  try (have hy4 : w.heap.size + 1 < w4.heap.size := by (have h := hb4.size; (try simp at h); omega))
  try (have hx4 : w.heap.size + 1 + 1 < w4.heap.size := by (have h := hb4.size; (try simp at h); omega))
  try (have hv4 : w.heap.size + 1 + 1 + 1 < w4.heap.size := by (have h := hb4.size; (try simp at h); omega))
  try (have hp4 : w.heap.size ≤ w4.heap.size := by omega)
  go_wp2
  go_ret
  refine ⟨rfl, ?_⟩
  repeat (first | exact Below.refl _ _ | refine bw_drew ?_ | refine bw_drewN ?_ _ | refine bw_set ?_ (by simp; try omega) _ | refine bw_alloc ?_ _ | refine bw_trans ?_ (by assumption) | assumption)
end Go.Proofs.Ythhilkahfgpncaa
