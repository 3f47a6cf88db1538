/-
  The fewest blades with which a wheel is steady: in the program and in the reference; the law.
-/
import Derived.Test.YtfkghnaibliknaaBlh
namespace Go.Proofs.Ytfkghnaibliknaa
open Go.RowKit

/-- The first number from 1 to k that answers yes; 0 if there is none. -/
def fstTo (f : Int → Bool) : Nat → Int
  | 0 => 0
  | k + 1 => if fstTo f k = 0 then (if f ((k + 1 : Nat) : Int) then ((k + 1 : Nat) : Int) else 0) else fstTo f k
theorem fstTo_no {f : Int → Bool} {k : Nat} (h0 : fstTo f k = 0) (h : f ((k + 1 : Nat) : Int) = false) : fstTo f (k + 1) = 0 := by
  unfold fstTo; rw [if_pos h0, if_neg (by rw [h]; simp)]
theorem fstTo_yes {f : Int → Bool} {k : Nat} (h0 : fstTo f k = 0) (h : f ((k + 1 : Nat) : Int) = true) : fstTo f (k + 1) = ((k + 1 : Nat) : Int) := by
  unfold fstTo; rw [if_pos h0, if_pos h]
theorem fstTo_keep {f : Int → Bool} {k : Nat} (h : fstTo f k ≠ 0) (j : Nat) : fstTo f (k + j) = fstTo f k := by
  induction j with
  | zero => rfl
  | succ j ih =>
    have e : fstTo f (k + j + 1) = if fstTo f (k + j) = 0 then (if f ((k + j + 1 : Nat) : Int) then ((k + j + 1 : Nat) : Int) else 0) else fstTo f (k + j) := rfl
    rw [← Nat.add_assoc, e, ih, if_neg h]

def fbH (n d l m : Int) : Bool := (1000 % m == 0) && stB m n d l
def fbN (n d l : Int) : Int := if rcC true n d l = 0 then fstTo (fbH n d l) 12 else 0
def fbC (n d l : Int) : Int := if rcC true n d l = 0 then (if fstTo (fbH n d l) 12 = 0 then 3 else 0) else rcC true n d l
theorem fb_hit {n d l : Int} {k : Nat} (hk : k < 12) (hr : rcC true n d l = 0) (h0 : fstTo (fbH n d l) k = 0) (h : fbH n d l ((k + 1 : Nat) : Int) = true) : fbN n d l = ((k + 1 : Nat) : Int) ∧ fbC n d l = 0 := by
  have h1 := fstTo_yes h0 h
  have h2 := fstTo_keep (f := fbH n d l) (k := k + 1) (by rw [h1]; omega) (12 - (k + 1))
  rw [show k + 1 + (12 - (k + 1)) = 12 by omega, h1] at h2
  unfold fbN fbC
  rw [if_pos hr, if_pos hr, h2, if_neg (by omega)]
  exact ⟨rfl, rfl⟩
theorem fb_none {n d l : Int} (hr : rcC true n d l = 0) (h0 : fstTo (fbH n d l) 12 = 0) : fbN n d l = 0 ∧ fbC n d l = 3 := by
  unfold fbN fbC
  rw [if_pos hr, if_pos hr, h0, if_pos rfl]
  exact ⟨rfl, rfl⟩
theorem fb_err {n d l c : Int} (hr : rcC true n d l = c) (hc : c ≠ 0) : fbN n d l = 0 ∧ fbC n d l = c := by
  unfold fbN fbC
  rw [hr, if_neg hc, if_neg hc]
  exact ⟨rfl, rfl⟩

set_option maxRecDepth 100000 in
set_option maxHeartbeats 800000 in
theorem fewestBlades_any (n d l : Int) (w : World) :
    Calls Try.prog 30 #[.agg #[.int .i64 n, .int .i64 d], .int .i64 l] w fun e w' => e = .returned (.tuple #[.int .i64 (fbN n d l), .int .i64 (fbC n d l)]) ∧ Below w.heap.size w w' := by
  rcases rc_three true n d l with ⟨h1, _⟩ | ⟨h1, _⟩ | ⟨h1, h2, h3⟩
  case inl =>
    have HE := Lib.hid (fb_err h1 (by omega))
    go_enter Try.func30, Try.ntmps30
    go_wp2_with (first | (go_at_call 51; refine (rateCode_is h1 _).mono ?_; rintro e w1 ⟨rfl, hb1⟩; obtain ⟨hc1, hf1⟩ := bcell hb1; try (have hz1 : w.heap.size < w1.heap.size := by (have h := hb1.size; (try simp at h); omega)); try (have hy1 : w.heap.size + 1 < w1.heap.size := by (have h := hb1.size; (try simp at h); omega)); try (have hx1 : w.heap.size + 1 + 1 < w1.heap.size := by (have h := hb1.size; (try simp at h); omega)); try (have hv1 : w.heap.size + 1 + 1 + 1 < w1.heap.size := by (have h := hb1.size; (try simp at h); omega)); try (have hp1 : w.heap.size ≤ w1.heap.size := by omega)))
    go_ret2
    refine ⟨by rw [HE.out.1, HE.out.2]; rfl, ?_⟩
    repeat (first | exact Below.refl _ _ | refine bw_drew ?_ | refine bw_drewN ?_ _ | refine bw_set ?_ (by simp; try omega) _ | refine bw_alloc ?_ _ | refine bw_trans ?_ (by assumption) | assumption)
  case inr.inl =>
    have HE := Lib.hid (fb_err h1 (by omega))
    go_enter Try.func30, Try.ntmps30
    go_wp2_with (first | (go_at_call 51; refine (rateCode_is h1 _).mono ?_; rintro e w1 ⟨rfl, hb1⟩; obtain ⟨hc1, hf1⟩ := bcell hb1; try (have hz1 : w.heap.size < w1.heap.size := by (have h := hb1.size; (try simp at h); omega)); try (have hy1 : w.heap.size + 1 < w1.heap.size := by (have h := hb1.size; (try simp at h); omega)); try (have hx1 : w.heap.size + 1 + 1 < w1.heap.size := by (have h := hb1.size; (try simp at h); omega)); try (have hv1 : w.heap.size + 1 + 1 + 1 < w1.heap.size := by (have h := hb1.size; (try simp at h); omega)); try (have hp1 : w.heap.size ≤ w1.heap.size := by omega)))
    go_ret2
    refine ⟨by rw [HE.out.1, HE.out.2]; rfl, ?_⟩
    repeat (first | exact Below.refl _ _ | refine bw_drew ?_ | refine bw_drewN ?_ _ | refine bw_set ?_ (by simp; try omega) _ | refine bw_alloc ?_ _ | refine bw_trans ?_ (by assumption) | assumption)
  case inr.inr =>
    obtain ⟨_, hn, hd, hl⟩ := rc_zero h2 h3
    clear h2 h3
    go_enter Try.func30, Try.ntmps30
    go_wp2_with (first | (go_at_call 51; refine (rateCode_is h1 _).mono ?_; rintro e w1 ⟨rfl, hb1⟩; obtain ⟨hc1, hf1⟩ := bcell hb1; try (have hz1 : w.heap.size < w1.heap.size := by (have h := hb1.size; (try simp at h); omega)); try (have hy1 : w.heap.size + 1 < w1.heap.size := by (have h := hb1.size; (try simp at h); omega)); try (have hx1 : w.heap.size + 1 + 1 < w1.heap.size := by (have h := hb1.size; (try simp at h); omega)); try (have hv1 : w.heap.size + 1 + 1 + 1 < w1.heap.size := by (have h := hb1.size; (try simp at h); omega)); try (have hp1 : w.heap.size ≤ w1.heap.size := by omega)))
    have HR := Lib.hid h1
    clear h1
    go_loopw [7] (fun x wr => ∃ k : Nat, k ≤ 12 ∧ x = .int .i64 (k + 1) ∧ Hid (fstTo (fbH n d l) k = 0) ∧ Below (w.alloc (.cells #[.int .i64 n, .int .i64 d] 40)).heap.size (w.alloc (.cells #[.int .i64 n, .int .i64 d] 40)) wr) (fun x _ => (13 - intOf x).toNat)
    case atStart => exact ⟨0, by omega, by simp, rfl, hb1⟩
    case round =>
      obtain ⟨k, hk, rfl, hf, hbr⟩ := hrel
      have hc0 : wr.cell? ⟨w.heap.size, 0, none⟩ = some (.int .i64 n) := cell_of hbr (by go_simp)
      have hc1 : wr.cell? ⟨w.heap.size, 1, none⟩ = some (.int .i64 d) := cell_of hbr (by go_simp)
      have hzr : w.heap.size < wr.heap.size := by have h := hbr.size; simp at h; omega
      by_cases hlt : k < 12
      · have e1 : ((k + 1 : Nat) : Int) = (k : Int) + 1 := by omega
        cases hm : ((1000 : Int) % ((k : Int) + 1) == 0)
        · have hh : fbH n d l ((k + 1 : Nat) : Int) = false := by rw [e1]; simp [fbH, hm]
          have HY := Lib.hid (fstTo_no hf.out hh)
          clear hh e1
          go_wp2_with fail
          go_roundw
          case rel => exact ⟨k + 1, by omega, by go_num, HY.out, hbr⟩
          case measure => simp [intOf]; omega
        · cases hs : stB ((k : Int) + 1) n d l
          · have hh : fbH n d l ((k + 1 : Nat) : Int) = false := by rw [e1]; simp [fbH, hs]
            have HY := Lib.hid (fstTo_no hf.out hh)
            clear hh e1
            go_wp2_with (first | (go_at_call 52; refine (steady_any _ _ _ _ _ ⟨by omega, by omega⟩ hn hd hl).mono ?_; rintro e w1 ⟨rfl, hb1⟩; obtain ⟨hc1, hf1⟩ := bcell hb1; try (have hz1 : w.heap.size < w1.heap.size := by (have h := hb1.size; (try simp at h); omega)); try (have hy1 : w.heap.size + 1 < w1.heap.size := by (have h := hb1.size; (try simp at h); omega)); try (have hx1 : w.heap.size + 1 + 1 < w1.heap.size := by (have h := hb1.size; (try simp at h); omega)); try (have hv1 : w.heap.size + 1 + 1 + 1 < w1.heap.size := by (have h := hb1.size; (try simp at h); omega)); try (have hp1 : w.heap.size ≤ w1.heap.size := by omega)))
            go_roundw
            case rel => exact ⟨k + 1, by omega, by go_num, HY.out, bw_trans hbr hb1⟩
            case measure => simp [intOf]; omega
          · have hh : fbH n d l ((k + 1 : Nat) : Int) = true := by rw [e1]; simp [fbH, hs, hm]
            have HY := Lib.hid (fb_hit hlt HR.out hf.out hh)
            clear hh e1
            go_wp2_with (first | (go_at_call 52; refine (steady_any _ _ _ _ _ ⟨by omega, by omega⟩ hn hd hl).mono ?_; rintro e w1 ⟨rfl, hb1⟩; obtain ⟨hc1, hf1⟩ := bcell hb1; try (have hz1 : w.heap.size < w1.heap.size := by (have h := hb1.size; (try simp at h); omega)); try (have hy1 : w.heap.size + 1 < w1.heap.size := by (have h := hb1.size; (try simp at h); omega)); try (have hx1 : w.heap.size + 1 + 1 < w1.heap.size := by (have h := hb1.size; (try simp at h); omega)); try (have hv1 : w.heap.size + 1 + 1 + 1 < w1.heap.size := by (have h := hb1.size; (try simp at h); omega)); try (have hp1 : w.heap.size ≤ w1.heap.size := by omega)))
            go_ret2
            refine ⟨by rw [HY.out.1, HY.out.2]; simp, ?_⟩
            exact bw_trans (bw_trans (bw_alloc (Below.refl _ _) _) hbr) hb1
      · have hkk : k = 12 := by omega
        subst hkk
        have HY := Lib.hid (fb_none HR.out hf.out)
        go_wp2
        go_ret2
        refine ⟨by rw [HY.out.1, HY.out.2]; rfl, ?_⟩
        exact bw_trans (bw_alloc (Below.refl _ _) _) hbr

set_option maxRecDepth 100000 in
set_option maxHeartbeats 800000 in
theorem sFewestBlades_any (n d l : Int) (w : World) :
    Calls Try.prog 28 #[.agg #[.int .i64 n, .int .i64 d], .int .i64 l] w fun e w' => e = .returned (.tuple #[.int .i64 (fbN n d l), .int .i64 (fbC n d l)]) ∧ Below w.heap.size w w' := by
  rcases rc_cases true n d l with hx | ⟨_, h2⟩ | ⟨_, h2, h3⟩ | ⟨_, h2, h3, h4⟩ | ⟨_, h2, h3, h4⟩
  case inl => cases hx
  case inr.inl =>
    have HE := Lib.hid (fb_err (n := n) (d := d) (l := l) (c := 1) (by simp [rcC, h2]) (by omega))
    go_enter Try.func28, Try.ntmps28
    go_wp2_with (first | (go_at_call 48; refine (l02Ok_is (by assumption) _).mono ?_; rintro e w1 ⟨rfl, hb1⟩; obtain ⟨hc1, hf1⟩ := bcell hb1; try (have hz1 : w.heap.size < w1.heap.size := by (have h := hb1.size; (try simp at h); omega)); try (have hy1 : w.heap.size + 1 < w1.heap.size := by (have h := hb1.size; (try simp at h); omega)); try (have hx1 : w.heap.size + 1 + 1 < w1.heap.size := by (have h := hb1.size; (try simp at h); omega)); try (have hv1 : w.heap.size + 1 + 1 + 1 < w1.heap.size := by (have h := hb1.size; (try simp at h); omega)); try (have hp1 : w.heap.size ≤ w1.heap.size := by omega)))
    go_ret2
    refine ⟨by rw [HE.out.1, HE.out.2]; rfl, ?_⟩
    repeat (first | exact Below.refl _ _ | refine bw_drew ?_ | refine bw_drewN ?_ _ | refine bw_set ?_ (by simp; try omega) _ | refine bw_alloc ?_ _ | refine bw_trans ?_ (by assumption) | assumption)
  case inr.inr.inl =>
    have HE := Lib.hid (fb_err (n := n) (d := d) (l := l) (c := 2) (by simp [rcC, h2, h3]) (by omega))
    have h5 : (vFrac n d && isRt n d) = false := by simp [h3]
    go_enter Try.func28, Try.ntmps28
    go_wp2_with (first | (go_at_call 48; refine (l02Ok_is (by assumption) _).mono ?_; rintro e w1 ⟨rfl, hb1⟩; obtain ⟨hc1, hf1⟩ := bcell hb1; try (have hz1 : w.heap.size < w1.heap.size := by (have h := hb1.size; (try simp at h); omega)); try (have hy1 : w.heap.size + 1 < w1.heap.size := by (have h := hb1.size; (try simp at h); omega)); try (have hx1 : w.heap.size + 1 + 1 < w1.heap.size := by (have h := hb1.size; (try simp at h); omega)); try (have hv1 : w.heap.size + 1 + 1 + 1 < w1.heap.size := by (have h := hb1.size; (try simp at h); omega)); try (have hp1 : w.heap.size ≤ w1.heap.size := by omega)) | (go_at_call 49; refine (l09Rate_is (by assumption) _).mono ?_; rintro e w1 ⟨rfl, hb1⟩; obtain ⟨hc1, hf1⟩ := bcell hb1; try (have hz1 : w.heap.size < w1.heap.size := by (have h := hb1.size; (try simp at h); omega)); try (have hy1 : w.heap.size + 1 < w1.heap.size := by (have h := hb1.size; (try simp at h); omega)); try (have hx1 : w.heap.size + 1 + 1 < w1.heap.size := by (have h := hb1.size; (try simp at h); omega)); try (have hv1 : w.heap.size + 1 + 1 + 1 < w1.heap.size := by (have h := hb1.size; (try simp at h); omega)); try (have hp1 : w.heap.size ≤ w1.heap.size := by omega)))
    go_ret2
    refine ⟨by rw [HE.out.1, HE.out.2]; rfl, ?_⟩
    repeat (first | exact Below.refl _ _ | refine bw_drew ?_ | refine bw_drewN ?_ _ | refine bw_set ?_ (by simp; try omega) _ | refine bw_alloc ?_ _ | refine bw_trans ?_ (by assumption) | assumption)
  case inr.inr.inr.inl =>
    have HE := Lib.hid (fb_err (n := n) (d := d) (l := l) (c := 2) (by simp [rcC, h2, h4]) (by omega))
    have h5 : (vFrac n d && isRt n d) = true := by simp [h3, h2]
    go_enter Try.func28, Try.ntmps28
    go_wp2_with (first | (go_at_call 48; refine (l02Ok_is (by assumption) _).mono ?_; rintro e w1 ⟨rfl, hb1⟩; obtain ⟨hc1, hf1⟩ := bcell hb1; try (have hz1 : w.heap.size < w1.heap.size := by (have h := hb1.size; (try simp at h); omega)); try (have hy1 : w.heap.size + 1 < w1.heap.size := by (have h := hb1.size; (try simp at h); omega)); try (have hx1 : w.heap.size + 1 + 1 < w1.heap.size := by (have h := hb1.size; (try simp at h); omega)); try (have hv1 : w.heap.size + 1 + 1 + 1 < w1.heap.size := by (have h := hb1.size; (try simp at h); omega)); try (have hp1 : w.heap.size ≤ w1.heap.size := by omega)) | (go_at_call 49; refine (l09Rate_is (by assumption) _).mono ?_; rintro e w1 ⟨rfl, hb1⟩; obtain ⟨hc1, hf1⟩ := bcell hb1; try (have hz1 : w.heap.size < w1.heap.size := by (have h := hb1.size; (try simp at h); omega)); try (have hy1 : w.heap.size + 1 < w1.heap.size := by (have h := hb1.size; (try simp at h); omega)); try (have hx1 : w.heap.size + 1 + 1 < w1.heap.size := by (have h := hb1.size; (try simp at h); omega)); try (have hv1 : w.heap.size + 1 + 1 + 1 < w1.heap.size := by (have h := hb1.size; (try simp at h); omega)); try (have hp1 : w.heap.size ≤ w1.heap.size := by omega)) | (go_at_call 50; refine (l09Least_is (by assumption) _).mono ?_; rintro e w1 ⟨rfl, rfl⟩))
    go_ret2
    refine ⟨by rw [HE.out.1, HE.out.2]; rfl, ?_⟩
    repeat (first | exact Below.refl _ _ | refine bw_drew ?_ | refine bw_drewN ?_ _ | refine bw_set ?_ (by simp; try omega) _ | refine bw_alloc ?_ _ | refine bw_trans ?_ (by assumption) | assumption)
  case inr.inr.inr.inr =>
    have hr : rcC true n d l = 0 := by simp [rcC, h2, h3, h4]
    have HR := Lib.hid hr
    clear hr
    have h5 : (vFrac n d && isRt n d) = true := by simp [h3, h2]
    obtain ⟨⟨d1, _⟩, _, _⟩ := vFrac_true.1 h2
    obtain ⟨⟨n1, n2⟩, d2⟩ := isRt_true.1 h3
    obtain ⟨l1, l2⟩ := inB_true.1 h4
    obtain ⟨q1, q2⟩ := mul_bd (a := l) (b := d) (A := 200) (B := 1000) (by omega) (by omega) (by omega) (by omega)
    go_enter Try.func28, Try.ntmps28
    go_wp2_with (first | (go_at_call 48; refine (l02Ok_is (by assumption) _).mono ?_; rintro e w1 ⟨rfl, hb1⟩; obtain ⟨hc1, hf1⟩ := bcell hb1; try (have hz1 : w.heap.size < w1.heap.size := by (have h := hb1.size; (try simp at h); omega)); try (have hy1 : w.heap.size + 1 < w1.heap.size := by (have h := hb1.size; (try simp at h); omega)); try (have hx1 : w.heap.size + 1 + 1 < w1.heap.size := by (have h := hb1.size; (try simp at h); omega)); try (have hv1 : w.heap.size + 1 + 1 + 1 < w1.heap.size := by (have h := hb1.size; (try simp at h); omega)); try (have hp1 : w.heap.size ≤ w1.heap.size := by omega)) | (go_at_call 49; refine (l09Rate_is (by assumption) _).mono ?_; rintro e w1 ⟨rfl, hb1⟩; obtain ⟨hc1, hf1⟩ := bcell hb1; try (have hz1 : w.heap.size < w1.heap.size := by (have h := hb1.size; (try simp at h); omega)); try (have hy1 : w.heap.size + 1 < w1.heap.size := by (have h := hb1.size; (try simp at h); omega)); try (have hx1 : w.heap.size + 1 + 1 < w1.heap.size := by (have h := hb1.size; (try simp at h); omega)); try (have hv1 : w.heap.size + 1 + 1 + 1 < w1.heap.size := by (have h := hb1.size; (try simp at h); omega)); try (have hp1 : w.heap.size ≤ w1.heap.size := by omega)) | (go_at_call 50; refine (l09Least_is (by assumption) _).mono ?_; rintro e w1 ⟨rfl, rfl⟩))
    have hB : Below (w.alloc (.cells #[.int .i64 n, .int .i64 d] 40)).heap.size (w.alloc (.cells #[.int .i64 n, .int .i64 d] 40)) w1 := by
      repeat (first | exact Below.refl _ _ | refine bw_drew ?_ | refine bw_drewN ?_ _ | refine bw_set ?_ (by simp; try omega) _ | refine bw_alloc ?_ _ | refine bw_trans ?_ (by assumption) | assumption)
    have hc0 : w1.cell? ⟨w.heap.size, 0, none⟩ = some (.int .i64 n) := cell_of hB (by go_simp)
    have hc1' : w1.cell? ⟨w.heap.size, 1, none⟩ = some (.int .i64 d) := cell_of hB (by go_simp)
    clear h2 h3 h4 h5 hb1 hc1 hf1
    go_loop [6] (fun x => ∃ k : Nat, k ≤ 12 ∧ x = .int .i64 (k + 1) ∧ Hid (fstTo (fbH n d l) k = 0)) (fun x => (13 - intOf x).toNat)
    case atStart => exact ⟨0, by omega, by simp, rfl⟩
    case round =>
      obtain ⟨k, hk, rfl, hf⟩ := hrel
      by_cases hlt : k < 12
      · have e1 : ((k + 1 : Nat) : Int) = (k : Int) + 1 := by omega
        obtain ⟨p1, p2⟩ := mul_bd (a := n) (b := (k : Int) + 1) (A := 1000) (B := 12) (by omega) (by omega) (by omega) (by omega)
        cases hm : ((1000 : Int) % ((k : Int) + 1) == 0)
        · have hh : fbH n d l ((k + 1 : Nat) : Int) = false := by rw [e1]; simp [fbH, hm]
          have HY := Lib.hid (fstTo_no hf.out hh)
          clear hh e1
          go_wp2_with fail
          go_round
          case rel => exact ⟨k + 1, by omega, by go_num, HY.out⟩
          case measure => simp [intOf]; omega
        · cases hs : stB ((k : Int) + 1) n d l
          · have hh : fbH n d l ((k + 1 : Nat) : Int) = false := by rw [e1]; simp [fbH, hs]
            have HY := Lib.hid (fstTo_no hf.out hh)
            have hs' : decide (l * d ≤ n * ((k : Int) + 1)) = false := hs
            clear hh e1 hs
            go_wp2_with fail
            go_round
            case rel => exact ⟨k + 1, by omega, by go_num, HY.out⟩
            case measure => simp [intOf]; omega
          · have hh : fbH n d l ((k + 1 : Nat) : Int) = true := by rw [e1]; simp [fbH, hs, hm]
            have HY := Lib.hid (fb_hit hlt HR.out hf.out hh)
            have hs' : decide (l * d ≤ n * ((k : Int) + 1)) = true := hs
            clear hh e1 hs
            go_wp2
            go_ret2
            refine ⟨by rw [HY.out.1, HY.out.2]; simp, ?_⟩
            exact bw_trans (bw_alloc (Below.refl _ _) _) hB
      · have hkk : k = 12 := by omega
        subst hkk
        have HY := Lib.hid (fb_none HR.out hf.out)
        go_wp2
        go_ret2
        refine ⟨by rw [HY.out.1, HY.out.2]; rfl, ?_⟩
        exact bw_trans (bw_alloc (Below.refl _ _) _) hB

set_option maxHeartbeats 400000 in
theorem law_FewestBlades (n d l : Int) (w : World) :
    Calls Try.prog 9 #[.agg #[.int .i64 n, .int .i64 d], .int .i64 l] w fun e w' => e = .returned (.bool true) ∧ Below w.heap.size w w' := by
  go_enter Try.func9, Try.ntmps9
  go_wp2_with fail
  refine ((toFraction_any _ _ _)).mono ?_
  rintro e w1 ⟨rfl, hb1⟩
  obtain ⟨hc1, hf1⟩ := bcell hb1
  try (have hz1 : w.heap.size < w1.heap.size := by (have h := hb1.size; (try simp at h); omega))
  try (have hy1 : w.heap.size + 1 < w1.heap.size := by (have h := hb1.size; (try simp at h); omega))
  try (have hx1 : w.heap.size + 1 + 1 < w1.heap.size := by (have h := hb1.size; (try simp at h); omega))
  try (have hv1 : w.heap.size + 1 + 1 + 1 < w1.heap.size := by (have h := hb1.size; (try simp at h); omega))
  try (have hp1 : w.heap.size ≤ w1.heap.size := by omega)
  go_wp2_with fail
  refine ((sFewestBlades_any _ _ _ _)).mono ?_
  rintro e w2 ⟨rfl, hb2⟩
  obtain ⟨hc2, hf2⟩ := bcell hb2
  try (have hz2 : w.heap.size < w2.heap.size := by (have h := hb2.size; (try simp at h); omega))
  try (have hy2 : w.heap.size + 1 < w2.heap.size := by (have h := hb2.size; (try simp at h); omega))
  try (have hx2 : w.heap.size + 1 + 1 < w2.heap.size := by (have h := hb2.size; (try simp at h); omega))
  try (have hv2 : w.heap.size + 1 + 1 + 1 < w2.heap.size := by (have h := hb2.size; (try simp at h); omega))
  try (have hp2 : w.heap.size ≤ w2.heap.size := by omega)
  go_wp2_with fail
  refine ((toFraction_any _ _ _)).mono ?_
  rintro e w3 ⟨rfl, hb3⟩
  obtain ⟨hc3, hf3⟩ := bcell hb3
  try (have hz3 : w.heap.size < w3.heap.size := by (have h := hb3.size; (try simp at h); omega))
  try (have hy3 : w.heap.size + 1 < w3.heap.size := by (have h := hb3.size; (try simp at h); omega))
  try (have hx3 : w.heap.size + 1 + 1 < w3.heap.size := by (have h := hb3.size; (try simp at h); omega))
  try (have hv3 : w.heap.size + 1 + 1 + 1 < w3.heap.size := by (have h := hb3.size; (try simp at h); omega))
  try (have hp3 : w.heap.size ≤ w3.heap.size := by omega)
  go_wp2_with fail
  refine ((fewestBlades_any _ _ _ _)).mono ?_
  rintro e w4 ⟨rfl, hb4⟩
  obtain ⟨hc4, hf4⟩ := bcell hb4
  try (have hz4 : w.heap.size < w4.heap.size := by (have h := hb4.size; (try simp at h); omega))
  try (have hy4 : w.heap.size + 1 < w4.heap.size := by (have h := hb4.size; (try simp at h); omega))
  try (have hx4 : w.heap.size + 1 + 1 < w4.heap.size := by (have h := hb4.size; (try simp at h); omega))
  try (have hv4 : w.heap.size + 1 + 1 + 1 < w4.heap.size := by (have h := hb4.size; (try simp at h); omega))
  try (have hp4 : w.heap.size ≤ w4.heap.size := by omega)
  go_wp2
  go_ret
  refine ⟨rfl, ?_⟩
  repeat (first | exact Below.refl _ _ | refine bw_drew ?_ | refine bw_drewN ?_ _ | refine bw_set ?_ (by simp; try omega) _ | refine bw_alloc ?_ _ | refine bw_trans ?_ (by assumption) | assumption)
end Go.Proofs.Ytfkghnaibliknaa
