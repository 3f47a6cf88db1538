/-
  The stock of lenses in the reference; LensesFor in the program and in the reference.
-/
import Derived.Test.YthhilkahfgpncaaHk
namespace Go.Proofs.Ythhilkahfgpncaa
open Go.RowKit

set_option maxHeartbeats 800000 in
theorem l11Stock_is (A : Option Addr) (n c : Nat) (xs : List Int) (w : World) (H : SlI w A n xs) (hn : n ≤ 1048576) {b : Bool} (hb : lkB xs n 12 = b) :
    Calls Try.prog 76 #[.slice A n c] w fun e w' => e = .returned (.bool b) ∧ w = w' := by
  have HL := Lib.hid H.length
  have HB := Lib.hid hb
  clear hb
  go_enter Try.func76, Try.ntmps76
  go_wp2_with fail
  go_loopg [3] n (fun gh x wr => ∃ k : Nat, k ≤ n ∧ gh = n - k ∧ x = .int .i64 k ∧ Hid (∀ j, j < k → notFo (xs.getD j 0) = false) ∧ w = wr)
  case atStart => exact ⟨0, by omega, by omega, rfl, fun j hj => absurd hj (by omega), rfl⟩
  case round =>
    obtain ⟨k, hk, rfl, rfl, hno, rfl⟩ := hrel
    by_cases hlt : k < n
    · obtain ⟨b', off, rfl, hbl, hc⟩ := H.get hlt
      cases hp : isFo (xs.getD k 0)
      · have hbad : b = false := by
          have h1 : notFo (xs.getD k 0) = true := by unfold notFo; rw [hp]; rfl
          have h2 := any_true (by rw [HL.out]; exact hlt) h1
          rw [← HB.out]; unfold lkB allFo; rw [h2]; simp
        subst hbad
        clear H HB
        generalize xs.getD k 0 = x at *
        go_wp2_with (go_at_call 54; refine (l11Focal_is hp _).mono ?_; rintro e w1 ⟨rfl, rfl⟩)
        go_ret
        exact ⟨rfl, rfl⟩
      · have hn' : ∀ j, j < k + 1 → notFo (xs.getD j 0) = false := fun j hj => by
          rcases Nat.lt_or_ge j k with h | h
          · exact hno.out j h
          · have : j = k := by omega
            subst this; unfold notFo; rw [hp]; rfl
        have HN := Lib.hid hn'
        clear hn' H
        generalize xs.getD k 0 = x at hc hp
        go_wp2_with (go_at_call 54; refine (l11Focal_is hp _).mono ?_; rintro e w1 ⟨rfl, rfl⟩)
        go_roundg (n - (k + 1))
        case rel => exact ⟨k + 1, by omega, rfl, by go_num, HN.out, rfl⟩
        case measure => omega
    · have hkk : k = n := by omega
      subst hkk
      have hall : allFo xs = true := by
        have := any_false (p := notFo) (xs := xs) (fun j hj => hno.out j (by rw [← HL.out]; exact hj))
        unfold allFo; rw [this]; rfl
      have hbb : decide ((k : Int) ≤ 12) = b := by rw [← HB.out]; unfold lkB; rw [hall, Bool.and_true]
      clear hall H HB
      subst hbb
      by_cases h2 : (k : Int) ≤ 12
      · have d2 : decide ((k : Int) ≤ 12) = true := decide_eq_true h2
        go_wp2
        go_ret
        first | exact ⟨rfl, rfl⟩ | exact ⟨ret_bool d2.symm, rfl⟩
      · have d2 : decide ((k : Int) ≤ 12) = false := decide_eq_false h2
        go_wp2
        go_ret
        first | exact ⟨rfl, rfl⟩ | exact ⟨ret_bool d2.symm, rfl⟩
theorem lk_len {xs : List Int} {n : Nat} (h : lkB xs n 12 = true) : n ≤ 12 ∧ allFo xs = true := by
  unfold lkB at h
  rw [Bool.and_eq_true, decide_eq_true_iff] at h
  exact ⟨by omega, h.2⟩
theorem isFo_one : isFo 1 = true := rfl

def lfC (t l x s : Int) (xs : List Int) (n : Nat) : Int := hcC (vHa t l x) s 1 xs n
def lfL (t l x s : Int) (xs : List Int) (n : Nat) : List Int := if hcC (vHa t l x) s 1 xs n = 0 then selL (fun i => suB t l x s (xs.getD i 0)) n else []
theorem lf_yes {t l x s : Int} {xs : List Int} {n : Nat} (h : hcC (vHa t l x) s 1 xs n = 0) : lfL t l x s xs n = selL (fun i => suB t l x s (xs.getD i 0)) n := if_pos h
theorem lf_no {t l x s : Int} {xs : List Int} {n : Nat} (h : ¬ hcC (vHa t l x) s 1 xs n = 0) : lfL t l x s xs n = [] := if_neg h
theorem lf_len {t l x s : Int} {xs : List Int} {n : Nat} (hn : n ≤ 1048576) : (lfL t l x s xs n).length ≤ 1048576 := by
  have := sel_len (fun i => suB t l x s (xs.getD i 0)) n
  unfold lfL; split
  · omega
  · simp

set_option maxHeartbeats 1600000 in
theorem iLensesFor_any (t l x s : Int) (A : Option Addr) (n c : Nat) (xs : List Int) (w : World) (H : SlI w A n xs) (hn : n ≤ 1048576) :
    Calls Try.prog 36 #[.agg #[.int .i64 t, .int .i64 l, .int .i64 x], .int .i64 s, .slice A n c] w (GivesIC (lfL t l x s xs n) (lfC t l x s xs n) w) := by
  have HK := Lib.hid (fun W hW => hallsCode_any (vHa t l x) s 1 A n c xs W (H.below hW) hn)
  unfold lfC
  by_cases hc : hcC (vHa t l x) s 1 xs n = 0
  case neg =>
    rw [lf_no hc]
    have hce : (hcC (vHa t l x) s 1 xs n != 0) = true := by simpa using hc
    have HV := Lib.hid (validHall_any t l x)
    clear H
    generalize hcC (vHa t l x) s 1 xs n = C at *
    generalize vHa t l x = V at *
    go_enter Try.func36, Try.ntmps36
    go_wp2_with fail
    refine (HV.out _).mono ?_
    rintro e w1 ⟨rfl, hb1⟩
    have hb1' := bw_trans (bw_alloc (Below.refl _ _) _) hb1
    go_wp2_with fail
    refine (HK.out _ hb1').mono ?_
    rintro e w2 ⟨rfl, hb2⟩
    go_wp2
    go_ret2
    exact ⟨_, rfl, OwnI.nil _ _, bw_trans hb1' hb2⟩
  rw [lf_yes hc]
  obtain ⟨hv, hs, _, hlk⟩ := hc_zero hc
  obtain ⟨n12, hall⟩ := lk_len hlk
  have HLN := Lib.hid H.length
  have HA := Lib.hid hall
  have HS := Lib.hid hs
  have HVV := Lib.hid hv
  have HV := Lib.hid (validHall_any t l x)
  rw [hc] at HK
  rw [hc]
  rw [hv] at HK HV
  clear hc hv hs hlk hall
  go_enter Try.func36, Try.ntmps36
  go_wp2_with fail
  refine (HV.out _).mono ?_
  rintro e w1 ⟨rfl, hb1⟩
  have hb1' := bw_trans (bw_alloc (Below.refl _ _) _) hb1
  go_wp2_with fail
  refine (HK.out _ hb1').mono ?_
  rintro e w2 ⟨rfl, hb2⟩
  have hb0 := bw_trans hb1' hb2
  have hd0 : w2.cell? ⟨w.heap.size, 0, none⟩ = some (.int .i64 t) := cell_of (bw_trans hb1 hb2) (by go_simp)
  have hd1 : w2.cell? ⟨w.heap.size, 1, none⟩ = some (.int .i64 l) := cell_of (bw_trans hb1 hb2) (by go_simp)
  have hd2 : w2.cell? ⟨w.heap.size, 2, none⟩ = some (.int .i64 x) := cell_of (bw_trans hb1 hb2) (by go_simp)
  have hz2 : w.heap.size < w2.heap.size := by (have h := (bw_trans hb1 hb2).size; simp at h; omega)
  clear HV HK hb1 hb2 hb1'
  go_wp2_with fail
  go_loopg [9, 23] n (fun gh v y wr => ∃ k : Nat, k ≤ n ∧ gh = n - k ∧ OwnI wr w2.heap.size v (selL (fun i => suB t l x s (xs.getD i 0)) k) ∧ y = .int .i64 k ∧ Below w2.heap.size w2 wr)
  case atStart => exact ⟨0, by omega, by omega, OwnI.lit w2 (Nat.le_refl _), rfl, bw_alloc (Below.refl _ _) _⟩
  case round =>
    obtain ⟨k, hk, rfl, hown, rfl, hbr2⟩ := hrel
    have hbr := bw_trans hb0 hbr2
    have HO := Lib.hid hown
    have hl := sel_len (fun i => suB t l x s (xs.getD i 0)) k
    clear hown
    by_cases hlt : k < n
    · obtain ⟨b, off, rfl, hbl, hc0⟩ := (H.below hbr).get hlt
      have he0 := cell_of hbr2 hd0
      have he1 := cell_of hbr2 hd1
      have he2 := cell_of hbr2 hd2
      clear H hd0 hd1 hd2
      have hsz := hbr.size
      have hf := allFo_at HA.out (k := k) (by rw [HLN.out]; exact hlt)
      have hC := fun W => suits_any t l x s (xs.getD k 0) W HVV.out HS.out hf
      have hyes := sel_yes (q := fun i => suB t l x s (xs.getD i 0)) (k := k)
      have hno := sel_no (q := fun i => suB t l x s (xs.getD i 0)) (k := k)
      have HYES := Lib.hid hyes
      have HNO := Lib.hid hno
      clear hyes hno
      cases hq : suB t l x s (xs.getD k 0)
      · have HE := Lib.hid (HNO.out hq)
        rw [hq] at hC
        have HC := Lib.hid hC
        clear hC hq HYES HNO
        generalize xs.getD k 0 = y at *
        go_wp2_with fail
        refine (HC.out _).mono ?_
        rintro e w3 ⟨rfl, hb3⟩
        have hown3 := Lib.hid (HO.out.below hb3)
        have hbr4 := bw_trans hbr2 hb3
        clear hb3
        go_wp2_with fail
        go_roundg (n - (k + 1))
        case rel => exact ⟨k + 1, by omega, rfl, by rw [HE.out]; exact hown3.out, by go_num, hbr4⟩
        case measure => omega
      · have HE := Lib.hid (HYES.out hq)
        rw [hq] at hC
        have HC := Lib.hid hC
        clear hC hq HYES HNO
        generalize xs.getD k 0 = y at *
        go_wp2_with fail
        refine (HC.out _).mono ?_
        rintro e w3 ⟨rfl, hb3⟩
        have hown3 := Lib.hid (HO.out.below hb3)
        have hbr4 := bw_trans hbr2 hb3
        have hsz3 := hbr4.size
        clear hb3
        go_wp2_with (at_builtin; refine wpAppI rfl _ _ rfl _ _ _ rfl (hown3.out.alloc _) _ ((k : Int)) rfl (by go_simp) (by omega) (by simp; omega) ?_; intro v5 w5 hown5 hg5 hb5)
        go_roundg (n - (k + 1))
        case rel => exact ⟨k + 1, by omega, rfl, by rw [HE.out]; exact hown5, by go_num, bw_from (bw_alloc hbr4 _) hb5⟩
        case measure => omega
    · have hkk : k = n := by omega
      subst hkk
      clear H
      obtain ⟨A', c', rfl⟩ := HO.out.form
      go_wp2
      go_ret2
      exact ⟨_, rfl, OwnI.base HO.out hb0.size, hbr⟩

set_option maxHeartbeats 1600000 in
theorem sLensesFor_any (t l x s : Int) (A : Option Addr) (n c : Nat) (xs : List Int) (w : World) (H : SlI w A n xs) (hn : n ≤ 1048576) :
    Calls Try.prog 35 #[.agg #[.int .i64 t, .int .i64 l, .int .i64 x], .int .i64 s, .slice A n c] w (GivesIC (lfL t l x s xs n) (lfC t l x s xs n) w) := by
  unfold lfC
  have HK := Lib.hid (fun W hW b hb => l11Stock_is A n c xs W (H.below hW) hn (b := b) hb)
  rcases hc_three (vHa t l x) s 1 xs n with ⟨hc, hv⟩ | ⟨hc, hv, hx⟩ | ⟨hc, hv, hs, _, hlk⟩
  · rw [lf_no (by rw [hc]; decide), hc]
    have HV := Lib.hid hv
    clear H hc hv
    go_enter Try.func35, Try.ntmps35
    go_wp2_with fail
    refine (l11One_is HV.out _ _ _ (by go_simp) (by go_simp) (by go_simp)).mono ?_
    rintro e w1 ⟨rfl, hb1⟩
    go_wp2
    go_ret2
    exact ⟨_, rfl, OwnI.nil _ _, bw_trans (bw_alloc (Below.refl _ _) _) hb1⟩
  · rw [lf_no (by rw [hc]; decide), hc]
    have HV := Lib.hid hv
    rw [isFo_one, Bool.and_true] at hx
    clear H hc hv
    cases h1 : isSl s
    · go_enter Try.func35, Try.ntmps35
      go_wp2_with fail
      refine (l11One_is HV.out _ _ _ (by go_simp) (by go_simp) (by go_simp)).mono ?_
      rintro e w1 ⟨rfl, hb1⟩
      go_wp2_with (first | (go_at_call 53; refine (l11Slide_is h1 _).mono ?_; rintro e w1 ⟨rfl, rfl⟩))
      go_ret2
      exact ⟨_, rfl, OwnI.nil _ _, bw_trans (bw_alloc (Below.refl _ _) _) hb1⟩
    · have h2 : lkB xs n 12 = false := by rw [h1] at hx; simpa using hx
      have HB := Lib.hid h2
      clear hx h2
      go_enter Try.func35, Try.ntmps35
      go_wp2_with fail
      refine (l11One_is HV.out _ _ _ (by go_simp) (by go_simp) (by go_simp)).mono ?_
      rintro e w1 ⟨rfl, hb1⟩
      have hb1' := bw_trans (bw_alloc (Below.refl _ _) _) hb1
      go_wp2_with (first | (go_at_call 53; refine (l11Slide_is h1 _).mono ?_; rintro e w1 ⟨rfl, rfl⟩) | (go_at_call 76; refine (HK.out _ hb1' _ HB.out).mono ?_; rintro e w1 ⟨rfl, rfl⟩))
      go_ret2
      exact ⟨_, rfl, OwnI.nil _ _, hb1'⟩
  rw [lf_yes hc, hc]
  obtain ⟨n12, hall⟩ := lk_len hlk
  have HLN := Lib.hid H.length
  have HA := Lib.hid hall
  have HS := Lib.hid hs
  have HVV := Lib.hid hv
  have HB := Lib.hid hlk
  clear hc hv hs hlk hall
  go_enter Try.func35, Try.ntmps35
  go_wp2_with fail
  refine (l11One_is HVV.out _ _ _ (by go_simp) (by go_simp) (by go_simp)).mono ?_
  rintro e w2 ⟨rfl, hb1⟩
  have hb0 := bw_trans (bw_alloc (Below.refl _ _) _) hb1
  have hd0 : w2.cell? ⟨w.heap.size, 0, none⟩ = some (.int .i64 t) := cell_of hb1 (by go_simp)
  have hd1 : w2.cell? ⟨w.heap.size, 1, none⟩ = some (.int .i64 l) := cell_of hb1 (by go_simp)
  have hd2 : w2.cell? ⟨w.heap.size, 2, none⟩ = some (.int .i64 x) := cell_of hb1 (by go_simp)
  have hz2 : w.heap.size < w2.heap.size := by (have h := hb1.size; simp at h; omega)
  clear hb1
  go_wp2_with (first | (go_at_call 53; refine (l11Slide_is HS.out _).mono ?_; rintro e w1 ⟨rfl, rfl⟩) | (go_at_call 76; refine (HK.out _ hb0 _ HB.out).mono ?_; rintro e w1 ⟨rfl, rfl⟩))
  clear HK
  go_loopg [8, 9] n (fun gh v y wr => ∃ k : Nat, k ≤ n ∧ gh = n - k ∧ OwnI wr w2.heap.size v (selL (fun i => suB t l x s (xs.getD i 0)) k) ∧ y = .int .i64 k ∧ Below w2.heap.size w2 wr)
  case atStart => exact ⟨0, by omega, by omega, OwnI.lit w2 (Nat.le_refl _), rfl, bw_alloc (Below.refl _ _) _⟩
  case round =>
    obtain ⟨k, hk, rfl, hown, rfl, hbr2⟩ := hrel
    have hbr := bw_trans hb0 hbr2
    have HO := Lib.hid hown
    have hl := sel_len (fun i => suB t l x s (xs.getD i 0)) k
    clear hown
    by_cases hlt : k < n
    · obtain ⟨b, off, rfl, hbl, hc0⟩ := (H.below hbr).get hlt
      have he0 := cell_of hbr2 hd0
      have he1 := cell_of hbr2 hd1
      have he2 := cell_of hbr2 hd2
      clear H hd0 hd1 hd2
      have hsz := hbr2.size
      have hf := allFo_at HA.out (k := k) (by rw [HLN.out]; exact hlt)
      have hC := l11Suits_any t l x s (xs.getD k 0) w.heap.size 0 wr HVV.out HS.out hf he0 he1 he2
      have hyes := sel_yes (q := fun i => suB t l x s (xs.getD i 0)) (k := k)
      have hno := sel_no (q := fun i => suB t l x s (xs.getD i 0)) (k := k)
      have HYES := Lib.hid hyes
      have HNO := Lib.hid hno
      clear hyes hno
      cases hq : suB t l x s (xs.getD k 0)
      · have HE := Lib.hid (HNO.out hq)
        rw [hq] at hC
        have HC := Lib.hid hC
        clear hC hq HYES HNO
        generalize xs.getD k 0 = y at *
        go_wp2_with fail
        refine HC.out.mono ?_
        rintro e w3 ⟨rfl, hb3⟩
        have hown3 := Lib.hid (HO.out.below hb3)
        have hbr4 := bw_trans hbr2 hb3
        clear hb3
        go_wp2_with fail
        go_roundg (n - (k + 1))
        case rel => exact ⟨k + 1, by omega, rfl, by rw [HE.out]; exact hown3.out, by go_num, hbr4⟩
        case measure => omega
      · have HE := Lib.hid (HYES.out hq)
        rw [hq] at hC
        have HC := Lib.hid hC
        clear hC hq HYES HNO
        generalize xs.getD k 0 = y at *
        go_wp2_with fail
        refine HC.out.mono ?_
        rintro e w3 ⟨rfl, hb3⟩
        have hown3 := Lib.hid (HO.out.below hb3)
        have hbr4 := bw_trans hbr2 hb3
        have hsz3 := hbr4.size
        clear hb3
        go_wp2_with (at_builtin; refine wpAppI rfl _ _ rfl _ _ _ rfl (hown3.out.alloc _) _ ((k : Int)) rfl (by go_simp) (by omega) (by simp; omega) ?_; intro v5 w5 hown5 hg5 hb5)
        go_roundg (n - (k + 1))
        case rel => exact ⟨k + 1, by omega, rfl, by rw [HE.out]; exact hown5, by go_num, bw_from (bw_alloc hbr4 _) hb5⟩
        case measure => omega
    · have hkk : k = n := by omega
      subst hkk
      clear H
      obtain ⟨A', c', rfl⟩ := HO.out.form
      go_wp2
      go_ret2
      exact ⟨_, rfl, OwnI.base HO.out hb0.size, hbr⟩
end Go.Proofs.Ythhilkahfgpncaa
