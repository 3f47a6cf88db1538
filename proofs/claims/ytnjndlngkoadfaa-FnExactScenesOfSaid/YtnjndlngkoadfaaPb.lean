/-
  PageAt: in the program and in the reference; the law.
-/
import Derived.Test.YtnjndlngkoadfaaPa
namespace Go.Proofs.Ytnjndlngkoadfaa
open Go.RowKit

/-- Where the walk ends: 1, 2, 3 or 0. -/
noncomputable def pgC (s : ByteArray) (e t : Int) : Int := if lnB s 60 then (if inB e 1 100 && inB t 0 6000 then (if (s.size : Int) ≤ t / e then 3 else 0) else 2) else 1
noncomputable def pgS (s : ByteArray) (e t : Int) : ByteArray := if pgC s e t = 0 then s.extract (t / e).toNat ((t / e).toNat + 1) else ⟨#[]⟩
theorem pg_1 {s : ByteArray} {e t : Int} (h : lnB s 60 = false) : pgC s e t = 1 ∧ pgS s e t = ⟨#[]⟩ := by
  have : pgC s e t = 1 := by unfold pgC; rw [h]; rfl
  exact ⟨this, by unfold pgS; rw [this]; rfl⟩
theorem pg_2 {s : ByteArray} {e t : Int} (h : lnB s 60 = true) (h2 : (inB e 1 100 && inB t 0 6000) = false) : pgC s e t = 2 ∧ pgS s e t = ⟨#[]⟩ := by
  have : pgC s e t = 2 := by unfold pgC; rw [h, h2]; rfl
  exact ⟨this, by unfold pgS; rw [this]; rfl⟩
theorem pg_3 {s : ByteArray} {e t : Int} (h : lnB s 60 = true) (h2 : (inB e 1 100 && inB t 0 6000) = true) (h3 : (s.size : Int) ≤ t / e) : pgC s e t = 3 ∧ pgS s e t = ⟨#[]⟩ := by
  have : pgC s e t = 3 := by unfold pgC; rw [h, h2, if_pos h3]; rfl
  exact ⟨this, by unfold pgS; rw [this]; rfl⟩
theorem pg_0 {s : ByteArray} {e t : Int} (h : lnB s 60 = true) (h2 : (inB e 1 100 && inB t 0 6000) = true) (h3 : ¬ (s.size : Int) ≤ t / e) : pgC s e t = 0 ∧ pgS s e t = s.extract (t / e).toNat ((t / e).toNat + 1) := by
  have : pgC s e t = 0 := by unfold pgC; rw [h, h2, if_neg h3]; rfl
  exact ⟨this, by unfold pgS; rw [this]; rfl⟩

/-- The code of pages and the ticks of each. -/
theorem pagesCode_is {s : ByteArray} {e : Int} {a b : Bool} (h1 : lnB s 60 = a) (h2 : inB e 1 100 = b) (w : World) (hs : s.size ≤ 9223372036854775807) :
    Calls Try.prog 38 #[.string s, .int .i64 e] w fun e w' => e = .returned (.int .i64 (if a then (if b then 0 else 2) else 1)) ∧ w = w' := by
  cases a
  · go_enter Try.func38, Try.ntmps38
    go_wp2_with (go_at_call 45; refine (isLetters_is h1 _ hs).mono ?_; rintro e w1 ⟨rfl, rfl⟩)
    go_ret
    exact ⟨rfl, rfl⟩
  cases b
  · go_enter Try.func38, Try.ntmps38
    go_wp2_with (first | (go_at_call 45; refine (isLetters_is h1 _ hs).mono ?_; rintro e w1 ⟨rfl, rfl⟩) | (go_at_call 39; refine (within_is h2 _).mono ?_; rintro e w1 ⟨rfl, rfl⟩))
    go_ret
    exact ⟨rfl, rfl⟩
  · go_enter Try.func38, Try.ntmps38
    go_wp2_with (first | (go_at_call 45; refine (isLetters_is h1 _ hs).mono ?_; rintro e w1 ⟨rfl, rfl⟩) | (go_at_call 39; refine (within_is h2 _).mono ?_; rintro e w1 ⟨rfl, rfl⟩))
    go_ret
    exact ⟨rfl, rfl⟩

set_option maxHeartbeats 800000 in
theorem iPageAt_any (s : ByteArray) (e t : Int) (w : World) (hs : s.size ≤ 1048576) :
    Calls Try.prog 13 #[.string s, .int .i64 e, .int .i64 t] w fun en w' => en = .returned (.tuple #[.string (pgS s e t), .int .i64 (pgC s e t)]) ∧ w = w' := by
  cases h1 : lnB s 60
  · have HR := Lib.hid (pg_1 (e := e) (t := t) h1)
    have hc := pagesCode_is (e := e) h1 rfl w (by omega)
    rw [if_neg (by decide)] at hc
    go_enter Try.func13, Try.ntmps13
    go_wp2_with (go_at_call 38; refine (hc).mono ?_; rintro e w1 ⟨rfl, rfl⟩)
    go_ret2
    exact ⟨by rw [HR.out.1, HR.out.2]; rfl, rfl⟩
  cases h2 : inB e 1 100
  · have HR := Lib.hid (pg_2 (e := e) (t := t) h1 (by rw [h2]; rfl))
    have hc := pagesCode_is h1 h2 w (by omega)
    rw [if_pos rfl, if_neg (by decide)] at hc
    go_enter Try.func13, Try.ntmps13
    go_wp2_with (go_at_call 38; refine (hc).mono ?_; rintro e w1 ⟨rfl, rfl⟩)
    go_ret2
    exact ⟨by rw [HR.out.1, HR.out.2]; rfl, rfl⟩
  have hc := pagesCode_is h1 h2 w (by omega)
  rw [if_pos rfl, if_pos rfl] at hc
  cases h3 : inB t 0 6000
  · have HR := Lib.hid (pg_2 (e := e) (t := t) h1 (by rw [h3]; simp))
    go_enter Try.func13, Try.ntmps13
    go_wp2_with (first | (go_at_call 38; refine (hc).mono ?_; rintro e w1 ⟨rfl, rfl⟩) | (go_at_call 39; refine (within_is h3 _).mono ?_; rintro e w1 ⟨rfl, rfl⟩))
    go_ret2
    exact ⟨by rw [HR.out.1, HR.out.2]; rfl, rfl⟩
  obtain ⟨e1, e2⟩ := inB_true.1 h2
  obtain ⟨t1, t2⟩ := inB_true.1 h3
  have q1 : 0 ≤ t / e := Int.ediv_nonneg t1 (by omega)
  have q2 : t / e ≤ 6000 := Int.le_trans (Int.ediv_le_self _ t1) t2
  by_cases h4 : (s.size : Int) ≤ t / e
  · have HR := Lib.hid (pg_3 h1 (by rw [h2, h3]; rfl) h4)
    go_enter Try.func13, Try.ntmps13
    go_wp2_with (first | (go_at_call 38; refine (hc).mono ?_; rintro e w1 ⟨rfl, rfl⟩) | (go_at_call 39; refine (within_is h3 _).mono ?_; rintro e w1 ⟨rfl, rfl⟩))
    go_ret2
    exact ⟨by rw [HR.out.1, HR.out.2]; rfl, rfl⟩
  · have HR := Lib.hid (pg_0 h1 (by rw [h2, h3]; rfl) h4)
    obtain ⟨K, hK⟩ : ∃ K : Nat, t / e = K := ⟨(t / e).toNat, by omega⟩
    rw [hK] at HR h4 q2
    rw [Int.toNat_natCast] at HR
    go_enter Try.func13, Try.ntmps13
    go_wp2_with (first | (go_at_call 38; refine (hc).mono ?_; rintro e w1 ⟨rfl, rfl⟩) | (go_at_call 39; refine (within_is h3 _).mono ?_; rintro e w1 ⟨rfl, rfl⟩))
    go_ret2
    exact ⟨by rw [HR.out.1, HR.out.2]; rfl, rfl⟩

theorem l08Each_is {e : Int} {b : Bool} (h : inB e 1 100 = b) (w : World) :
    Calls Try.prog 36 #[.int .i64 e] w fun e w' => e = .returned (.bool b) ∧ w = w' := by
  go_enter Try.func36, Try.ntmps36
  go_wp2_with (go_at_call 37; refine (l00In_is (by assumption) _).mono ?_; rintro e w1 ⟨rfl, rfl⟩)
  go_ret
  exact ⟨rfl, rfl⟩
set_option maxHeartbeats 800000 in
theorem sPageAt_any (s : ByteArray) (e t : Int) (w : World) (hs : s.size ≤ 1048576) :
    Calls Try.prog 12 #[.string s, .int .i64 e, .int .i64 t] w fun en w' => en = .returned (.tuple #[.string (pgS s e t), .int .i64 (pgC s e t)]) ∧ w = w' := by
  cases h1 : lnB s 60
  · have HR := Lib.hid (pg_1 (e := e) (t := t) h1)
    go_enter Try.func12, Try.ntmps12
    go_wp2_with (go_at_call 35; refine (l08Pages_is h1 _ (by omega)).mono ?_; rintro e w1 ⟨rfl, rfl⟩)
    go_ret2
    exact ⟨by rw [HR.out.1, HR.out.2]; rfl, rfl⟩
  cases h2 : inB e 1 100
  · have HR := Lib.hid (pg_2 (e := e) (t := t) h1 (by rw [h2]; rfl))
    go_enter Try.func12, Try.ntmps12
    go_wp2_with (first | (go_at_call 35; refine (l08Pages_is h1 _ (by omega)).mono ?_; rintro e w1 ⟨rfl, rfl⟩) | (go_at_call 36; refine (l08Each_is h2 _).mono ?_; rintro e w1 ⟨rfl, rfl⟩))
    go_ret2
    exact ⟨by rw [HR.out.1, HR.out.2]; rfl, rfl⟩
  cases h3 : inB t 0 6000
  · have HR := Lib.hid (pg_2 (e := e) (t := t) h1 (by rw [h3]; simp))
    go_enter Try.func12, Try.ntmps12
    go_wp2_with (first | (go_at_call 35; refine (l08Pages_is h1 _ (by omega)).mono ?_; rintro e w1 ⟨rfl, rfl⟩) | (go_at_call 36; refine (l08Each_is h2 _).mono ?_; rintro e w1 ⟨rfl, rfl⟩) | (go_at_call 37; refine (l00In_is h3 _).mono ?_; rintro e w1 ⟨rfl, rfl⟩))
    go_ret2
    exact ⟨by rw [HR.out.1, HR.out.2]; rfl, rfl⟩
  obtain ⟨e1, e2⟩ := inB_true.1 h2
  obtain ⟨t1, t2⟩ := inB_true.1 h3
  have q1 : 0 ≤ t / e := Int.ediv_nonneg t1 (by omega)
  have q2 : t / e ≤ 6000 := Int.le_trans (Int.ediv_le_self _ t1) t2
  by_cases h4 : (s.size : Int) ≤ t / e
  · have HR := Lib.hid (pg_3 h1 (by rw [h2, h3]; rfl) h4)
    go_enter Try.func12, Try.ntmps12
    go_wp2_with (first | (go_at_call 35; refine (l08Pages_is h1 _ (by omega)).mono ?_; rintro e w1 ⟨rfl, rfl⟩) | (go_at_call 36; refine (l08Each_is h2 _).mono ?_; rintro e w1 ⟨rfl, rfl⟩) | (go_at_call 37; refine (l00In_is h3 _).mono ?_; rintro e w1 ⟨rfl, rfl⟩))
    go_ret2
    exact ⟨by rw [HR.out.1, HR.out.2]; rfl, rfl⟩
  · have HR := Lib.hid (pg_0 h1 (by rw [h2, h3]; rfl) h4)
    obtain ⟨K, hK⟩ : ∃ K : Nat, t / e = K := ⟨(t / e).toNat, by omega⟩
    rw [hK] at HR h4 q2
    rw [Int.toNat_natCast] at HR
    go_enter Try.func12, Try.ntmps12
    go_wp2_with (first | (go_at_call 35; refine (l08Pages_is h1 _ (by omega)).mono ?_; rintro e w1 ⟨rfl, rfl⟩) | (go_at_call 36; refine (l08Each_is h2 _).mono ?_; rintro e w1 ⟨rfl, rfl⟩) | (go_at_call 37; refine (l00In_is h3 _).mono ?_; rintro e w1 ⟨rfl, rfl⟩))
    go_ret2
    exact ⟨by rw [HR.out.1, HR.out.2]; rfl, rfl⟩

set_option maxHeartbeats 800000 in
theorem law_PageAt (s : ByteArray) (e t : Int) (w : World) (hm : s.size ≤ 9223372036854775807) :
    Calls Try.prog 3 #[.string s, .int .i64 e, .int .i64 t] w fun en w' => en = .returned (.bool true) ∧ Below w.heap.size w w' := by
  by_cases hn : s.size ≤ 1048576
  · have hni : (s.size : Int) ≤ 1048576 := by omega
    go_enter Try.func3, Try.ntmps3
    go_wp2_with (first | (go_at_call 12; refine (sPageAt_any s e t _ hn).mono ?_; rintro e w1 ⟨rfl, rfl⟩) | (go_at_call 13; refine (iPageAt_any s e t _ hn).mono ?_; rintro e w1 ⟨rfl, rfl⟩))
    go_ret
    refine ⟨rfl, ?_⟩
    repeat (first | exact Below.refl _ _ | refine bw_drew ?_ | refine bw_drewN ?_ _ | refine bw_set ?_ (by simp; try omega) _ | refine bw_alloc ?_ _ | refine bw_trans ?_ (by assumption) | assumption)
  · have hni : 1048576 < (s.size : Int) := by omega
    go_enter Try.func3, Try.ntmps3
    go_wp2
    go_ret
    refine ⟨rfl, ?_⟩
    repeat (first | exact Below.refl _ _ | refine bw_drew ?_ | refine bw_drewN ?_ _ | refine bw_set ?_ (by simp; try omega) _ | refine bw_alloc ?_ _ | refine bw_trans ?_ (by assumption) | assumption)
end Go.Proofs.Ytnjndlngkoadfaa
