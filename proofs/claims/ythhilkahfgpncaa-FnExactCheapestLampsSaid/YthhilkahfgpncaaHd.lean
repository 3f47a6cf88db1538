/-
  SuitsHall and FocalRange: in the program and in the reference; the laws.
-/
import Derived.Test.YthhilkahfgpncaaHc
namespace Go.Proofs.Ythhilkahfgpncaa
open Go.RowKit

def hcC (v : Bool) (s f : Int) (xs : List Int) (n : Nat) : Int := if v then (if isSl s && isFo f && lkB xs n 12 then 0 else 2) else 1
theorem small0 : (0 : Nat) ≤ 1048576 := Nat.zero_le _
theorem lk_nil : lkB [] 0 12 = true := by unfold lkB allFo; simp

set_option maxHeartbeats 800000 in
theorem hallsCode_any (v : Bool) (s f : Int) (A : Option Addr) (n c : Nat) (xs : List Int) (w : World) (H : SlI w A n xs) (hn : n ≤ 1048576) :
    Calls Try.prog 56 #[.bool v, .int .i64 s, .int .i64 f, .slice A n c] w fun e w' => e = .returned (.int .i64 (hcC v s f xs n)) ∧ Below w.heap.size w w' := by
  cases v
  · go_enter Try.func56, Try.ntmps56
    go_wp2
    go_ret
    exact ⟨rfl, Below.refl _ _⟩
  cases h1 : isSl s
  · have h1' : inB s 1 200 = false := h1
    go_enter Try.func56, Try.ntmps56
    go_wp2_with (first | (go_at_call 70; refine (within_is (by assumption) _).mono ?_; rintro e w1 ⟨rfl, rfl⟩))
    go_ret
    exact ⟨ret_int (by simp [hcC, h1]), Below.refl _ _⟩
  have h1' : inB s 1 200 = true := h1
  cases h2 : isFo f
  · go_enter Try.func56, Try.ntmps56
    go_wp2_with (first | (go_at_call 70; refine (within_is (by assumption) _).mono ?_; rintro e w1 ⟨rfl, rfl⟩) | (go_at_call 66; refine (isFocal_is (by assumption) _).mono ?_; rintro e w1 ⟨rfl, rfl⟩))
    go_ret
    exact ⟨ret_int (by simp [hcC, h2]), Below.refl _ _⟩
  cases h3 : lkB xs n 12
  all_goals
    go_enter Try.func56, Try.ntmps56
    go_wp2_with (first | (go_at_call 70; refine (within_is (by assumption) _).mono ?_; rintro e w1 ⟨rfl, rfl⟩) | (go_at_call 66; refine (isFocal_is (by assumption) _).mono ?_; rintro e w1 ⟨rfl, rfl⟩) | (go_at_call 65; refine (lensesOk_is A n c xs _ _ H hn (by assumption)).mono ?_; rintro e w1 ⟨rfl, hb1⟩))
    go_ret
    exact ⟨ret_int (by simp [hcC, h1, h2, h3]), hb1⟩
theorem hallsCode_is {v : Bool} {s f : Int} {A : Option Addr} {n : Nat} (c : Nat) {xs : List Int} {d : Int} (hd : hcC v s f xs n = d) (w : World) (H : SlI w A n xs) (hn : n ≤ 1048576) :
    Calls Try.prog 56 #[.bool v, .int .i64 s, .int .i64 f, .slice A n c] w fun e w' => e = .returned (.int .i64 d) ∧ Below w.heap.size w w' := by
  subst hd; exact hallsCode_any v s f A n c xs w H hn
theorem hc_three (v : Bool) (s f : Int) (xs : List Int) (n : Nat) : (hcC v s f xs n = 1 ∧ v = false) ∨ (hcC v s f xs n = 2 ∧ v = true ∧ (isSl s && isFo f && lkB xs n 12) = false) ∨ (hcC v s f xs n = 0 ∧ v = true ∧ isSl s = true ∧ isFo f = true ∧ lkB xs n 12 = true) := by
  unfold hcC; cases v <;> cases isSl s <;> cases isFo f <;> cases lkB xs n 12 <;> simp

/-! ### SuitsHall -/
def shB (t l x s f : Int) : Bool := decide (hcC (vHa t l x) s f [] 0 = 0) && suB t l x s f

set_option maxHeartbeats 800000 in
theorem suitsHall_any (t l x s f : Int) (w : World) :
    Calls Try.prog 18 #[.agg #[.int .i64 t, .int .i64 l, .int .i64 x], .int .i64 s, .int .i64 f] w fun e w' => e = .returned (.tuple #[.bool (shB t l x s f), .int .i64 (hcC (vHa t l x) s f [] 0)]) ∧ Below w.heap.size w w' := by
  rcases hc_three (vHa t l x) s f [] 0 with ⟨h1, h2⟩ | ⟨h1, h2, _⟩ | ⟨h1, h2, h3, h4, _⟩
  case inl =>
    have H1 := Lib.hid h1
    rw [h2] at h1
    go_enter Try.func18, Try.ntmps18
    go_wp2_with (first | (go_at_call 57; refine (validHall_any _ _ _ _).mono ?_; rintro e w1 ⟨rfl, hb1⟩; obtain ⟨hc1, hf1⟩ := bcell hb1; try (have hz1 : w.heap.size < w1.heap.size := by (have h := hb1.size; (try simp at h); omega)); try (have hy1 : w.heap.size + 1 < w1.heap.size := by (have h := hb1.size; (try simp at h); omega)); try (have hx1 : w.heap.size + 1 + 1 < w1.heap.size := by (have h := hb1.size; (try simp at h); omega)); try (have hv1 : w.heap.size + 1 + 1 + 1 < w1.heap.size := by (have h := hb1.size; (try simp at h); omega)); try (have hp1 : w.heap.size ≤ w1.heap.size := by omega)) | (go_at_call 56; refine (hallsCode_is _ h1 _ (SlI.nil _) small0).mono ?_; rintro e w1 ⟨rfl, hb1⟩; obtain ⟨hc1, hf1⟩ := bcell hb1; try (have hz1 : w.heap.size < w1.heap.size := by (have h := hb1.size; (try simp at h); omega)); try (have hy1 : w.heap.size + 1 < w1.heap.size := by (have h := hb1.size; (try simp at h); omega)); try (have hx1 : w.heap.size + 1 + 1 < w1.heap.size := by (have h := hb1.size; (try simp at h); omega)); try (have hv1 : w.heap.size + 1 + 1 + 1 < w1.heap.size := by (have h := hb1.size; (try simp at h); omega)); try (have hp1 : w.heap.size ≤ w1.heap.size := by omega)))
    go_ret2
    refine ⟨by simp [shB, h1, h2], ?_⟩
    repeat (first | exact Below.refl _ _ | refine bw_drew ?_ | refine bw_drewN ?_ _ | refine bw_set ?_ (by simp; try omega) _ | refine bw_alloc ?_ _ | refine bw_trans ?_ (by assumption) | assumption)
  case inr.inl =>
    have H1 := Lib.hid h1
    rw [h2] at h1
    go_enter Try.func18, Try.ntmps18
    go_wp2_with (first | (go_at_call 57; refine (validHall_any _ _ _ _).mono ?_; rintro e w1 ⟨rfl, hb1⟩; obtain ⟨hc1, hf1⟩ := bcell hb1; try (have hz1 : w.heap.size < w1.heap.size := by (have h := hb1.size; (try simp at h); omega)); try (have hy1 : w.heap.size + 1 < w1.heap.size := by (have h := hb1.size; (try simp at h); omega)); try (have hx1 : w.heap.size + 1 + 1 < w1.heap.size := by (have h := hb1.size; (try simp at h); omega)); try (have hv1 : w.heap.size + 1 + 1 + 1 < w1.heap.size := by (have h := hb1.size; (try simp at h); omega)); try (have hp1 : w.heap.size ≤ w1.heap.size := by omega)) | (go_at_call 56; refine (hallsCode_is _ h1 _ (SlI.nil _) small0).mono ?_; rintro e w1 ⟨rfl, hb1⟩; obtain ⟨hc1, hf1⟩ := bcell hb1; try (have hz1 : w.heap.size < w1.heap.size := by (have h := hb1.size; (try simp at h); omega)); try (have hy1 : w.heap.size + 1 < w1.heap.size := by (have h := hb1.size; (try simp at h); omega)); try (have hx1 : w.heap.size + 1 + 1 < w1.heap.size := by (have h := hb1.size; (try simp at h); omega)); try (have hv1 : w.heap.size + 1 + 1 + 1 < w1.heap.size := by (have h := hb1.size; (try simp at h); omega)); try (have hp1 : w.heap.size ≤ w1.heap.size := by omega)))
    go_ret2
    refine ⟨by simp [shB, h1, h2], ?_⟩
    repeat (first | exact Below.refl _ _ | refine bw_drew ?_ | refine bw_drewN ?_ _ | refine bw_set ?_ (by simp; try omega) _ | refine bw_alloc ?_ _ | refine bw_trans ?_ (by assumption) | assumption)
  case inr.inr =>
    have H1 := Lib.hid h1
    rw [h2] at h1
    have hf := isFo_true.1 h4
    go_enter Try.func18, Try.ntmps18
    go_wp2_with (first | (go_at_call 57; refine (validHall_any _ _ _ _).mono ?_; rintro e w1 ⟨rfl, hb1⟩; obtain ⟨hc1, hf1⟩ := bcell hb1; try (have hz1 : w.heap.size < w1.heap.size := by (have h := hb1.size; (try simp at h); omega)); try (have hy1 : w.heap.size + 1 < w1.heap.size := by (have h := hb1.size; (try simp at h); omega)); try (have hx1 : w.heap.size + 1 + 1 < w1.heap.size := by (have h := hb1.size; (try simp at h); omega)); try (have hv1 : w.heap.size + 1 + 1 + 1 < w1.heap.size := by (have h := hb1.size; (try simp at h); omega)); try (have hp1 : w.heap.size ≤ w1.heap.size := by omega)) | (go_at_call 56; refine (hallsCode_is _ h1 _ (SlI.nil _) small0).mono ?_; rintro e w1 ⟨rfl, hb1⟩; obtain ⟨hc1, hf1⟩ := bcell hb1; try (have hz1 : w.heap.size < w1.heap.size := by (have h := hb1.size; (try simp at h); omega)); try (have hy1 : w.heap.size + 1 < w1.heap.size := by (have h := hb1.size; (try simp at h); omega)); try (have hx1 : w.heap.size + 1 + 1 < w1.heap.size := by (have h := hb1.size; (try simp at h); omega)); try (have hv1 : w.heap.size + 1 + 1 + 1 < w1.heap.size := by (have h := hb1.size; (try simp at h); omega)); try (have hp1 : w.heap.size ≤ w1.heap.size := by omega)) | (go_at_call 58; refine (suits_any _ _ _ _ _ _ h2 h3 hf).mono ?_; rintro e w1 ⟨rfl, hb1⟩; obtain ⟨hc1, hf1⟩ := bcell hb1; try (have hz1 : w.heap.size < w1.heap.size := by (have h := hb1.size; (try simp at h); omega)); try (have hy1 : w.heap.size + 1 < w1.heap.size := by (have h := hb1.size; (try simp at h); omega)); try (have hx1 : w.heap.size + 1 + 1 < w1.heap.size := by (have h := hb1.size; (try simp at h); omega)); try (have hv1 : w.heap.size + 1 + 1 + 1 < w1.heap.size := by (have h := hb1.size; (try simp at h); omega)); try (have hp1 : w.heap.size ≤ w1.heap.size := by omega)))
    go_ret2
    refine ⟨by simp [shB, h1, h2], ?_⟩
    repeat (first | exact Below.refl _ _ | refine bw_drew ?_ | refine bw_drewN ?_ _ | refine bw_set ?_ (by simp; try omega) _ | refine bw_alloc ?_ _ | refine bw_trans ?_ (by assumption) | assumption)

theorem hc_nil (v : Bool) (s f : Int) : hcC v s f [] 0 = if v then (if isSl s && isFo f then 0 else 2) else 1 := by
  unfold hcC; rw [lk_nil, Bool.and_true]

set_option maxHeartbeats 800000 in
theorem sSuitsHall_any (t l x s f : Int) (w : World) :
    Calls Try.prog 16 #[.agg #[.int .i64 t, .int .i64 l, .int .i64 x], .int .i64 s, .int .i64 f] w fun e w' => e = .returned (.tuple #[.bool (shB t l x s f), .int .i64 (hcC (vHa t l x) s f [] 0)]) ∧ Below w.heap.size w w' := by
  cases h1 : vHa t l x
  case false =>
    go_enter Try.func16, Try.ntmps16
    go_wp2_with (first | (go_at_call 52; refine (l11One_is (by assumption) _ _ _ (by go_simp) (by go_simp) (by go_simp)).mono ?_; rintro e w1 ⟨rfl, hb1⟩; obtain ⟨hc1, hf1⟩ := bcell hb1; try (have hz1 : w.heap.size < w1.heap.size := by (have h := hb1.size; (try simp at h); omega)); try (have hy1 : w.heap.size + 1 < w1.heap.size := by (have h := hb1.size; (try simp at h); omega)); try (have hx1 : w.heap.size + 1 + 1 < w1.heap.size := by (have h := hb1.size; (try simp at h); omega)); try (have hv1 : w.heap.size + 1 + 1 + 1 < w1.heap.size := by (have h := hb1.size; (try simp at h); omega)); try (have hp1 : w.heap.size ≤ w1.heap.size := by omega)))
    go_ret2
    refine ⟨by simp [shB, hc_nil, h1], ?_⟩
    repeat (first | exact Below.refl _ _ | refine bw_drew ?_ | refine bw_drewN ?_ _ | refine bw_set ?_ (by simp; try omega) _ | refine bw_alloc ?_ _ | refine bw_trans ?_ (by assumption) | assumption)
  cases h2 : isSl s
  case false =>
    go_enter Try.func16, Try.ntmps16
    go_wp2_with (first | (go_at_call 52; refine (l11One_is (by assumption) _ _ _ (by go_simp) (by go_simp) (by go_simp)).mono ?_; rintro e w1 ⟨rfl, hb1⟩; obtain ⟨hc1, hf1⟩ := bcell hb1; try (have hz1 : w.heap.size < w1.heap.size := by (have h := hb1.size; (try simp at h); omega)); try (have hy1 : w.heap.size + 1 < w1.heap.size := by (have h := hb1.size; (try simp at h); omega)); try (have hx1 : w.heap.size + 1 + 1 < w1.heap.size := by (have h := hb1.size; (try simp at h); omega)); try (have hv1 : w.heap.size + 1 + 1 + 1 < w1.heap.size := by (have h := hb1.size; (try simp at h); omega)); try (have hp1 : w.heap.size ≤ w1.heap.size := by omega)) | (go_at_call 53; refine (l11Slide_is (by assumption) _).mono ?_; rintro e w1 ⟨rfl, rfl⟩))
    go_ret2
    refine ⟨by simp [shB, hc_nil, h1, h2], ?_⟩
    repeat (first | exact Below.refl _ _ | refine bw_drew ?_ | refine bw_drewN ?_ _ | refine bw_set ?_ (by simp; try omega) _ | refine bw_alloc ?_ _ | refine bw_trans ?_ (by assumption) | assumption)
  cases h3 : isFo f
  case false =>
    go_enter Try.func16, Try.ntmps16
    go_wp2_with (first | (go_at_call 52; refine (l11One_is (by assumption) _ _ _ (by go_simp) (by go_simp) (by go_simp)).mono ?_; rintro e w1 ⟨rfl, hb1⟩; obtain ⟨hc1, hf1⟩ := bcell hb1; try (have hz1 : w.heap.size < w1.heap.size := by (have h := hb1.size; (try simp at h); omega)); try (have hy1 : w.heap.size + 1 < w1.heap.size := by (have h := hb1.size; (try simp at h); omega)); try (have hx1 : w.heap.size + 1 + 1 < w1.heap.size := by (have h := hb1.size; (try simp at h); omega)); try (have hv1 : w.heap.size + 1 + 1 + 1 < w1.heap.size := by (have h := hb1.size; (try simp at h); omega)); try (have hp1 : w.heap.size ≤ w1.heap.size := by omega)) | (go_at_call 53; refine (l11Slide_is (by assumption) _).mono ?_; rintro e w1 ⟨rfl, rfl⟩) | (go_at_call 54; refine (l11Focal_is (by assumption) _).mono ?_; rintro e w1 ⟨rfl, rfl⟩))
    go_ret2
    refine ⟨by simp [shB, hc_nil, h1, h3], ?_⟩
    repeat (first | exact Below.refl _ _ | refine bw_drew ?_ | refine bw_drewN ?_ _ | refine bw_set ?_ (by simp; try omega) _ | refine bw_alloc ?_ _ | refine bw_trans ?_ (by assumption) | assumption)
  case true =>
    have hf := isFo_true.1 h3
    go_enter Try.func16, Try.ntmps16
    go_wp2_with (first | (go_at_call 52; refine (l11One_is (by assumption) _ _ _ (by go_simp) (by go_simp) (by go_simp)).mono ?_; rintro e w1 ⟨rfl, hb1⟩; obtain ⟨hc1, hf1⟩ := bcell hb1; try (have hz1 : w.heap.size < w1.heap.size := by (have h := hb1.size; (try simp at h); omega)); try (have hy1 : w.heap.size + 1 < w1.heap.size := by (have h := hb1.size; (try simp at h); omega)); try (have hx1 : w.heap.size + 1 + 1 < w1.heap.size := by (have h := hb1.size; (try simp at h); omega)); try (have hv1 : w.heap.size + 1 + 1 + 1 < w1.heap.size := by (have h := hb1.size; (try simp at h); omega)); try (have hp1 : w.heap.size ≤ w1.heap.size := by omega)) | (go_at_call 53; refine (l11Slide_is (by assumption) _).mono ?_; rintro e w1 ⟨rfl, rfl⟩) | (go_at_call 54; refine (l11Focal_is (by assumption) _).mono ?_; rintro e w1 ⟨rfl, rfl⟩) | (go_at_call 55; refine (l11Suits_any t l x s f _ _ _ h1 h2 hf (by go_simp) (by go_simp) (by go_simp)).mono ?_; rintro e w1 ⟨rfl, hb1⟩; obtain ⟨hc1, hf1⟩ := bcell hb1; try (have hz1 : w.heap.size < w1.heap.size := by (have h := hb1.size; (try simp at h); omega)); try (have hy1 : w.heap.size + 1 < w1.heap.size := by (have h := hb1.size; (try simp at h); omega)); try (have hx1 : w.heap.size + 1 + 1 < w1.heap.size := by (have h := hb1.size; (try simp at h); omega)); try (have hv1 : w.heap.size + 1 + 1 + 1 < w1.heap.size := by (have h := hb1.size; (try simp at h); omega)); try (have hp1 : w.heap.size ≤ w1.heap.size := by omega)))
    go_ret2
    refine ⟨by simp [shB, hc_nil, h1, h2, h3], ?_⟩
    repeat (first | exact Below.refl _ _ | refine bw_drew ?_ | refine bw_drewN ?_ _ | refine bw_set ?_ (by simp; try omega) _ | refine bw_alloc ?_ _ | refine bw_trans ?_ (by assumption) | assumption)

set_option maxHeartbeats 400000 in
theorem toLensHall_any (t l x : Int) (w : World) :
    Calls Try.prog 17 #[.agg #[.int .i64 t, .int .i64 l, .int .i64 x]] w fun e w' => e = .returned (.agg #[.int .i64 t, .int .i64 l, .int .i64 x]) ∧ Below w.heap.size w w' := by
  go_enter Try.func17, Try.ntmps17
  go_wp2
  refine bodyPost_ret (v := .agg #[.int .i64 t, .int .i64 l, .int .i64 x]) (by simp [results, Try.results17, go_sem]) rfl ⟨rfl, ?_⟩
  repeat (first | exact Below.refl _ _ | refine bw_drew ?_ | refine bw_drewN ?_ _ | refine bw_set ?_ (by simp; try omega) _ | refine bw_alloc ?_ _ | refine bw_trans ?_ (by assumption) | assumption)

set_option maxHeartbeats 400000 in
theorem law_SuitsHall (t l x s f : Int) (w : World) :
    Calls Try.prog 3 #[.agg #[.int .i64 t, .int .i64 l, .int .i64 x], .int .i64 s, .int .i64 f] w fun e w' => e = .returned (.bool true) ∧ Below w.heap.size w w' := by
  go_enter Try.func3, Try.ntmps3
  go_wp2_with fail
  refine ((toLensHall_any _ _ _ _)).mono ?_
  rintro e w1 ⟨rfl, hb1⟩
  obtain ⟨hc1, hf1⟩ := bcell hb1
  try (have hz1 : w.heap.size < w1.heap.size := by (have h := hb1.size; (try simp at h); omega))
  try (have hy1 : w.heap.size + 1 < w1.heap.size := by (have h := hb1.size; (try simp at h); omega))
  try (have hx1 : w.heap.size + 1 + 1 < w1.heap.size := by (have h := hb1.size; (try simp at h); omega))
  try (have hv1 : w.heap.size + 1 + 1 + 1 < w1.heap.size := by (have h := hb1.size; (try simp at h); omega))
  try (have hp1 : w.heap.size ≤ w1.heap.size := by omega)
  go_wp2_with fail
  refine ((sSuitsHall_any _ _ _ _ _ _)).mono ?_
  rintro e w2 ⟨rfl, hb2⟩
  obtain ⟨hc2, hf2⟩ := bcell hb2
  try (have hz2 : w.heap.size < w2.heap.size := by (have h := hb2.size; (try simp at h); omega))
  try (have hy2 : w.heap.size + 1 < w2.heap.size := by (have h := hb2.size; (try simp at h); omega))
  try (have hx2 : w.heap.size + 1 + 1 < w2.heap.size := by (have h := hb2.size; (try simp at h); omega))
  try (have hv2 : w.heap.size + 1 + 1 + 1 < w2.heap.size := by (have h := hb2.size; (try simp at h); omega))
  try (have hp2 : w.heap.size ≤ w2.heap.size := by omega)
  go_wp2_with fail
  refine ((toLensHall_any _ _ _ _)).mono ?_
  rintro e w3 ⟨rfl, hb3⟩
  obtain ⟨hc3, hf3⟩ := bcell hb3
  try (have hz3 : w.heap.size < w3.heap.size := by (have h := hb3.size; (try simp at h); omega))
  try (have hy3 : w.heap.size + 1 < w3.heap.size := by (have h := hb3.size; (try simp at h); omega))
  try (have hx3 : w.heap.size + 1 + 1 < w3.heap.size := by (have h := hb3.size; (try simp at h); omega))
  try (have hv3 : w.heap.size + 1 + 1 + 1 < w3.heap.size := by (have h := hb3.size; (try simp at h); omega))
  try (have hp3 : w.heap.size ≤ w3.heap.size := by omega)
  go_wp2_with fail
  refine ((suitsHall_any _ _ _ _ _ _)).mono ?_
  rintro e w4 ⟨rfl, hb4⟩
  obtain ⟨hc4, hf4⟩ := bcell hb4
  try (have hz4 : w.heap.size < w4.heap.size := by (have h := hb4.size; (try simp at h); omega))
  try (have hy4 : w.heap.size + 1 < w4.heap.size := by (have h := hb4.size; (try simp at h); omega))
  try (have hx4 : w.heap.size + 1 + 1 < w4.heap.size := by (have h := hb4.size; (try simp at h); omega))
  try (have hv4 : w.heap.size + 1 + 1 + 1 < w4.heap.size := by (have h := hb4.size; (try simp at h); omega))
  try (have hp4 : w.heap.size ≤ w4.heap.size := by omega)
  go_wp2
  go_ret
  refine ⟨rfl, ?_⟩
  repeat (first | exact Below.refl _ _ | refine bw_drew ?_ | refine bw_drewN ?_ _ | refine bw_set ?_ (by simp; try omega) _ | refine bw_alloc ?_ _ | refine bw_trans ?_ (by assumption) | assumption)

/-! ### FocalRange -/
/-- The first and the last number from 1 to k that answer yes; 0 and 0 if there is none. -/
def rngTo (p : Int → Bool) : Nat → Int × Int
  | 0 => (0, 0)
  | k + 1 => if p ((k + 1 : Nat) : Int) then ((if (rngTo p k).1 = 0 then ((k + 1 : Nat) : Int) else (rngTo p k).1), ((k + 1 : Nat) : Int)) else rngTo p k
theorem rngTo_no {p : Int → Bool} {k : Nat} (h : p ((k + 1 : Nat) : Int) = false) : rngTo p (k + 1) = rngTo p k := by
  conv => lhs; unfold rngTo
  rw [if_neg (by rw [h]; simp)]
theorem rngTo_yes0 {p : Int → Bool} {k : Nat} (h : p ((k + 1 : Nat) : Int) = true) (h0 : (rngTo p k).1 = 0) : rngTo p (k + 1) = (((k + 1 : Nat) : Int), ((k + 1 : Nat) : Int)) := by
  conv => lhs; unfold rngTo
  rw [if_pos h, if_pos h0]
theorem rngTo_yes1 {p : Int → Bool} {k : Nat} (h : p ((k + 1 : Nat) : Int) = true) (h0 : ¬ (rngTo p k).1 = 0) : rngTo p (k + 1) = ((rngTo p k).1, ((k + 1 : Nat) : Int)) := by
  conv => lhs; unfold rngTo
  rw [if_pos h, if_neg h0]
def fgT (t l x s : Int) : Int × Int × Int :=
  if vHa t l x then (if isSl s then (if (rngTo (suB t l x s) 2000).1 = 0 then (0, 0, 3) else ((rngTo (suB t l x s) 2000).1, (rngTo (suB t l x s) 2000).2, 0)) else (0, 0, 2)) else (0, 0, 1)
end Go.Proofs.Ythhilkahfgpncaa
