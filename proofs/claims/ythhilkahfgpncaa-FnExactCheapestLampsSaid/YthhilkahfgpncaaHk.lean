/-
  HallsFor: in the program and in the reference.
-/
import Derived.Test.YthhilkahfgpncaaHj
import Derived.Test.YthhilkahfgpncaaHd
import Derived.Test.YthhilkahfgpncaaMk
namespace Go.Proofs.Ythhilkahfgpncaa
open Go.RowKit

/-- The numbers below k that answer yes. -/
def selL (q : Nat → Bool) : Nat → List Int
  | 0 => []
  | k + 1 => if q k then selL q k ++ [(k : Int)] else selL q k
theorem sel_yes {q : Nat → Bool} {k : Nat} (h : q k = true) : selL q (k + 1) = selL q k ++ [(k : Int)] := if_pos h
theorem sel_no {q : Nat → Bool} {k : Nat} (h : q k = false) : selL q (k + 1) = selL q k := if_neg (by rw [h]; simp)
theorem sel_len (q : Nat → Bool) (k : Nat) : (selL q k).length ≤ k := by
  induction k with
  | zero => simp [selL]
  | succ k ih =>
    cases h : q k
    · rw [sel_no h]; omega
    · rw [sel_yes h]; simp; omega
theorem sel_congr {q r : Nat → Bool} {k : Nat} (h : ∀ i, i < k → q i = r i) : selL q k = selL r k := by
  induction k with
  | zero => rfl
  | succ k ih =>
    show (if q k then _ else _) = (if r k then _ else _)
    rw [h k (by omega), ih fun i hi => h i (by omega)]
def suH (xs : List LhE) (s f : Int) (i : Nat) : Bool := suB (xs.getD i LhE.zero).f0 (xs.getD i LhE.zero).f1 (xs.getD i LhE.zero).f2 s f
def hfL (xs : List LhE) (n : Nat) (s f : Int) : List Int := if hcC (vhB xs n) s f [] 0 = 0 then selL (suH xs s f) n else []
theorem hf_yes {xs : List LhE} {n : Nat} {s f : Int} (h : hcC (vhB xs n) s f [] 0 = 0) : hfL xs n s f = selL (suH xs s f) n := if_pos h
theorem hf_no {xs : List LhE} {n : Nat} {s f : Int} (h : ¬ hcC (vhB xs n) s f [] 0 = 0) : hfL xs n s f = [] := if_neg h
theorem hf_len {xs : List LhE} {n : Nat} {s f : Int} (hn : n ≤ 1048576) : (hfL xs n s f).length ≤ 1048576 := by
  have := sel_len (suH xs s f) n
  unfold hfL; split
  · omega
  · simp
theorem vh_at {xs : List LhE} {n k : Nat} (h : vhB xs n = true) (hl : xs.length = n) (hk : k < n) : vHa (xs.getD k LhE.zero).f0 (xs.getD k LhE.zero).f1 (xs.getD k LhE.zero).f2 = true := by
  unfold vhB at h
  rw [Bool.and_eq_true] at h
  have := gany_at (d := LhE.zero) (p := badH) (xs := xs) (by simpa using h.2) (k := k) (by omega)
  unfold badH hvB at this
  simpa using this
theorem vh_le {xs : List LhE} {n : Nat} (h : vhB xs n = true) : n ≤ 8 := by
  unfold vhB at h
  rw [Bool.and_eq_true] at h
  exact of_decide_eq_true h.1
theorem hc_zero {v : Bool} {s f : Int} {xs : List Int} {n : Nat} (h : hcC v s f xs n = 0) : v = true ∧ isSl s = true ∧ isFo f = true ∧ lkB xs n 12 = true := by
  rcases hc_three v s f xs n with ⟨h1, _⟩ | ⟨h1, _⟩ | ⟨_, h2⟩
  · rw [h1] at h; cases h
  · rw [h1] at h; cases h
  · exact h2

set_option maxHeartbeats 1600000 in
theorem iHallsFor_any (A : Option Addr) (n c : Nat) (xs : List LhE) (s f : Int) (w : World) (H : SlLh w A n xs) (hn : n ≤ 1048576) :
    Calls Try.prog 40 #[.slice A n c, .int .i64 s, .int .i64 f] w (GivesIC (hfL xs n s f) (hcC (vhB xs n) s f [] 0) w) := by
  have HV := Lib.hid (validLensHalls_is A n c xs w H hn rfl)
  have HK := Lib.hid (fun W => hallsCode_any (vhB xs n) s f none 0 0 [] W (SlI.nil W) small0)
  by_cases hc : hcC (vhB xs n) s f [] 0 = 0
  case neg =>
    rw [hf_no hc]
    have hce : (hcC (vhB xs n) s f [] 0 != 0) = true := by simpa using hc
    clear H
    generalize hcC (vhB xs n) s f [] 0 = C at *
    generalize vhB xs n = V at *
    go_enter Try.func40, Try.ntmps40
    go_wp2_with fail
    refine HV.out.mono ?_
    rintro e w1 ⟨rfl, hb1⟩
    go_wp2_with fail
    refine (HK.out _).mono ?_
    rintro e w2 ⟨rfl, hb2⟩
    go_wp2
    go_ret2
    exact ⟨_, rfl, OwnI.nil _ _, bw_trans hb1 hb2⟩
  rw [hf_yes hc]
  obtain ⟨hv, hs, hf, _⟩ := hc_zero hc
  obtain ⟨f1, f2⟩ := isFo_true.1 hf
  have HT := Lib.hid (fun k (hk : k < n) => vh_at hv H.1 hk)
  have n8 := vh_le hv
  have HS := Lib.hid hs
  rw [hc] at HK
  rw [hc]
  rw [hv] at HV HK
  clear hc hv hs hf
  go_enter Try.func40, Try.ntmps40
  go_wp2_with fail
  refine HV.out.mono ?_
  rintro e w1 ⟨rfl, hb1⟩
  go_wp2_with fail
  refine (HK.out _).mono ?_
  rintro e w2 ⟨rfl, hb2⟩
  have hb0 := bw_trans hb1 hb2
  clear HV HK hb1 hb2
  go_wp2_with fail
  go_loopg [9, 23] n (fun gh v x wr => ∃ k : Nat, k ≤ n ∧ gh = n - k ∧ OwnI wr w.heap.size v (selL (suH xs s f) k) ∧ x = .int .i64 k ∧ Below w.heap.size w wr)
  case atStart => exact ⟨0, by omega, by omega, OwnI.lit w2 hb0.size, rfl, bw_alloc hb0 _⟩
  case round =>
    obtain ⟨k, hk, rfl, hown, rfl, hbr⟩ := hrel
    have HO := Lib.hid hown
    have hl := sel_len (suH xs s f) k
    clear hown
    by_cases hlt : k < n
    · obtain ⟨b, off, rfl, hbl, hc0, hc1, hc2⟩ := (H.below hbr).get hlt
      clear H
      have hsz := hbr.size
      have hp : suH xs s f k = suB (xs.getD k LhE.zero).f0 (xs.getD k LhE.zero).f1 (xs.getD k LhE.zero).f2 s f := rfl
      have hC := fun W => suits_any (xs.getD k LhE.zero).f0 (xs.getD k LhE.zero).f1 (xs.getD k LhE.zero).f2 s f W (HT.out k hlt) HS.out ⟨f1, f2⟩
      rw [← hp] at hC
      clear hp
      generalize xs.getD k LhE.zero = y at *
      cases hq : suH xs s f k
      · have HE := Lib.hid (sel_no hq)
        rw [hq] at hC
        have HC := Lib.hid hC
        clear hC hq
        go_wp2_with fail
        refine (HC.out _).mono ?_
        rintro e w3 ⟨rfl, hb3⟩
        have hown3 := Lib.hid ((HO.out.alloc (.cells #[.int .i64 y.f0, .int .i64 y.f1, .int .i64 y.f2] 26)).below hb3)
        have hbr3 := bw_trans (bw_alloc hbr _) hb3
        clear hb3
        go_wp2_with fail
        go_roundg (n - (k + 1))
        case rel => exact ⟨k + 1, by omega, rfl, by rw [HE.out]; exact hown3.out, by go_num, hbr3⟩
        case measure => omega
      · have HE := Lib.hid (sel_yes hq)
        rw [hq] at hC
        have HC := Lib.hid hC
        clear hC hq
        go_wp2_with fail
        refine (HC.out _).mono ?_
        rintro e w3 ⟨rfl, hb3⟩
        have hown3 := Lib.hid ((HO.out.alloc (.cells #[.int .i64 y.f0, .int .i64 y.f1, .int .i64 y.f2] 26)).below hb3)
        have hbr3 := bw_trans (bw_alloc hbr _) hb3
        have hsz3 := hbr3.size
        clear hb3
        go_wp2_with (at_builtin; refine wpAppI rfl _ _ rfl _ _ _ rfl (hown3.out.alloc _) _ ((k : Int)) rfl (by go_simp) (by omega) (by simp; omega) ?_; intro v4 w4 hown4 hg4 hb4)
        go_roundg (n - (k + 1))
        case rel => exact ⟨k + 1, by omega, rfl, by rw [HE.out]; exact hown4, by go_num, bw_from (bw_alloc hbr3 _) hb4⟩
        case measure => omega
    · have hkk : k = n := by omega
      subst hkk
      clear H
      obtain ⟨A', c', rfl⟩ := HO.out.form
      go_wp2
      go_ret2
      exact ⟨_, rfl, HO.out, hbr⟩

set_option maxHeartbeats 1600000 in
theorem sHallsFor_any (A : Option Addr) (n c : Nat) (xs : List LhE) (s f : Int) (w : World) (H : SlLh w A n xs) (hn : n ≤ 1048576) :
    Calls Try.prog 39 #[.slice A n c, .int .i64 s, .int .i64 f] w (GivesIC (hfL xs n s f) (hcC (vhB xs n) s f [] 0) w) := by
  have HV := Lib.hid (l11Ok_is A n c xs w H hn rfl)
  rcases hc_three (vhB xs n) s f [] 0 with ⟨hc, hv⟩ | ⟨hc, hv, hx⟩ | ⟨hc, hv, hs, hf, _⟩
  · rw [hf_no (by rw [hc]; decide), hc]
    rw [hv] at HV
    clear H hc hv
    go_enter Try.func39, Try.ntmps39
    go_wp2_with fail
    refine HV.out.mono ?_
    rintro e w1 ⟨rfl, hb1⟩
    go_wp2
    go_ret2
    exact ⟨_, rfl, OwnI.nil _ _, hb1⟩
  · rw [hf_no (by rw [hc]; decide), hc]
    rw [hv] at HV
    rw [lk_nil, Bool.and_true] at hx
    clear H hc hv
    cases h1 : isSl s
    · go_enter Try.func39, Try.ntmps39
      go_wp2_with fail
      refine HV.out.mono ?_
      rintro e w1 ⟨rfl, hb1⟩
      go_wp2_with (first | (go_at_call 53; refine (l11Slide_is h1 _).mono ?_; rintro e w1 ⟨rfl, rfl⟩))
      go_ret2
      exact ⟨_, rfl, OwnI.nil _ _, hb1⟩
    · have h2 : isFo f = false := by rw [h1] at hx; simpa using hx
      clear hx
      go_enter Try.func39, Try.ntmps39
      go_wp2_with fail
      refine HV.out.mono ?_
      rintro e w1 ⟨rfl, hb1⟩
      go_wp2_with (first | (go_at_call 53; refine (l11Slide_is h1 _).mono ?_; rintro e w1 ⟨rfl, rfl⟩) | (go_at_call 54; refine (l11Focal_is h2 _).mono ?_; rintro e w1 ⟨rfl, rfl⟩))
      go_ret2
      exact ⟨_, rfl, OwnI.nil _ _, hb1⟩
  rw [hf_yes hc, hc]
  obtain ⟨f1, f2⟩ := isFo_true.1 hf
  have HT := Lib.hid (fun k (hk : k < n) => vh_at hv H.1 hk)
  have n8 := vh_le hv
  have HS := Lib.hid hs
  have HF := Lib.hid hf
  rw [hv] at HV
  clear hc hv hs hf
  go_enter Try.func39, Try.ntmps39
  go_wp2_with fail
  refine HV.out.mono ?_
  rintro e w1 ⟨rfl, hb0⟩
  clear HV
  go_wp2_with (first | (go_at_call 53; refine (l11Slide_is HS.out _).mono ?_; rintro e w1 ⟨rfl, rfl⟩) | (go_at_call 54; refine (l11Focal_is HF.out _).mono ?_; rintro e w1 ⟨rfl, rfl⟩))
  go_loopg [8, 9] n (fun gh v x wr => ∃ k : Nat, k ≤ n ∧ gh = n - k ∧ OwnI wr w.heap.size v (selL (suH xs s f) k) ∧ x = .int .i64 k ∧ Below w.heap.size w wr)
  case atStart => exact ⟨0, by omega, by omega, OwnI.lit w1 hb0.size, rfl, bw_alloc hb0 _⟩
  case round =>
    obtain ⟨k, hk, rfl, hown, rfl, hbr⟩ := hrel
    have HO := Lib.hid hown
    have hl := sel_len (suH xs s f) k
    clear hown
    by_cases hlt : k < n
    · obtain ⟨b, off, rfl, hbl, hc0, hc1, hc2⟩ := (H.below hbr).get hlt
      clear H
      have hsz := hbr.size
      have hp : suH xs s f k = suB (xs.getD k LhE.zero).f0 (xs.getD k LhE.zero).f1 (xs.getD k LhE.zero).f2 s f := rfl
      have hC := l11Suits_any (xs.getD k LhE.zero).f0 (xs.getD k LhE.zero).f1 (xs.getD k LhE.zero).f2 s f b (off + k * 3) wr (HT.out k hlt) HS.out ⟨f1, f2⟩ hc0 hc1 hc2
      rw [← hp] at hC
      clear hp
      generalize xs.getD k LhE.zero = y at *
      cases hq : suH xs s f k
      · have HE := Lib.hid (sel_no hq)
        rw [hq] at hC
        have HC := Lib.hid hC
        clear hC hq
        go_wp2_with fail
        refine HC.out.mono ?_
        rintro e w3 ⟨rfl, hb3⟩
        have hown3 := Lib.hid (HO.out.below hb3)
        have hbr3 := bw_trans hbr hb3
        clear hb3
        go_wp2_with fail
        go_roundg (n - (k + 1))
        case rel => exact ⟨k + 1, by omega, rfl, by rw [HE.out]; exact hown3.out, by go_num, hbr3⟩
        case measure => omega
      · have HE := Lib.hid (sel_yes hq)
        rw [hq] at hC
        have HC := Lib.hid hC
        clear hC hq
        go_wp2_with fail
        refine HC.out.mono ?_
        rintro e w3 ⟨rfl, hb3⟩
        have hown3 := Lib.hid (HO.out.below hb3)
        have hbr3 := bw_trans hbr hb3
        have hsz3 := hbr3.size
        clear hb3
        go_wp2_with (at_builtin; refine wpAppI rfl _ _ rfl _ _ _ rfl (hown3.out.alloc _) _ ((k : Int)) rfl (by go_simp) (by omega) (by simp; omega) ?_; intro v4 w4 hown4 hg4 hb4)
        go_roundg (n - (k + 1))
        case rel => exact ⟨k + 1, by omega, rfl, by rw [HE.out]; exact hown4, by go_num, bw_from (bw_alloc hbr3 _) hb4⟩
        case measure => omega
    · have hkk : k = n := by omega
      subst hkk
      clear H
      obtain ⟨A', c', rfl⟩ := HO.out.form
      go_wp2
      go_ret2
      exact ⟨_, rfl, HO.out, hbr⟩
end Go.Proofs.Ythhilkahfgpncaa
