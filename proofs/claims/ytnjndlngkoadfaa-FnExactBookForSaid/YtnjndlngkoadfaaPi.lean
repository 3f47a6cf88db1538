/-
  ErrorOfBook and BestTick: in the program and in the reference; the laws.
-/
import Derived.Test.YtnjndlngkoadfaaPh
namespace Go.Proofs.Ytnjndlngkoadfaa
open Go.RowKit

noncomputable def bkC (xs : List ScE) (n : Nat) (each : Int) : Int := if vsB xs n then (if inB each 1 100 then (if 60 < pgT xs each n then 5 else 0) else 2) else 1
theorem bk_1 {xs : List ScE} {n : Nat} {each : Int} (h : vsB xs n = false) : bkC xs n each = 1 := by unfold bkC; rw [h]; rfl
theorem bk_2 {xs : List ScE} {n : Nat} {each : Int} (h : vsB xs n = true) (h2 : inB each 1 100 = false) : bkC xs n each = 2 := by unfold bkC; rw [h, h2]; rfl
theorem bk_5 {xs : List ScE} {n : Nat} {each : Int} (h : vsB xs n = true) (h2 : inB each 1 100 = true) (h3 : 60 < pgT xs each n) : bkC xs n each = 5 := by unfold bkC; rw [h, h2]; simp [h3]
theorem bk_0 {xs : List ScE} {n : Nat} {each : Int} (h : vsB xs n = true) (h2 : inB each 1 100 = true) (h3 : ¬ 60 < pgT xs each n) : bkC xs n each = 0 := by unfold bkC; rw [h, h2]; simp; omega
theorem bk_ok {xs : List ScE} {n : Nat} {each : Int} (h : bkC xs n each = 0) : vsB xs n = true ∧ inB each 1 100 = true ∧ pgT xs each n ≤ 60 := by
  cases h1 : vsB xs n
  · rw [bk_1 h1] at h; cases h
  cases h2 : inB each 1 100
  · rw [bk_2 h1 h2] at h; cases h
  by_cases h3 : 60 < pgT xs each n
  · rw [bk_5 h1 h2 h3] at h; cases h
  · exact ⟨rfl, rfl, by omega⟩
noncomputable def ebN (xs : List ScE) (n : Nat) (each : Int) : Int := if bkC xs n each = 0 then erT xs each n else 0
theorem eb_yes {xs : List ScE} {n : Nat} {each : Int} (h : bkC xs n each = 0) : ebN xs n each = erT xs each n := if_pos h
theorem eb_no {xs : List ScE} {n : Nat} {each : Int} (h : ¬ bkC xs n each = 0) : ebN xs n each = 0 := if_neg h

theorem l08Each_is {m : Int} {b : Bool} (h : inB m 1 100 = b) (w : World) :
    Calls Try.prog 36 #[.int .i64 m] w fun e w' => e = .returned (.bool b) ∧ w = w' := by
  go_enter Try.func36, Try.ntmps36
  go_wp2_with (go_at_call 37; refine (l00In_is (by assumption) _).mono ?_; rintro e w1 ⟨rfl, rfl⟩)
  go_ret
  exact ⟨rfl, rfl⟩

theorem l08Count_any (s : ByteArray) (t each : Int) (w : World) (ht : 1 ≤ t ∧ t ≤ 1000) (he : 1 ≤ each ∧ each ≤ 100) :
    Calls Try.prog 58 #[.agg #[.string s, .int .i64 t], .int .i64 each] w fun e w' => e = .returned (.int .i64 (pgN t each)) ∧ Below w.heap.size w w' := by
  obtain ⟨t1, t2⟩ := ht
  obtain ⟨e1, e2⟩ := he
  by_cases h : 1 ≤ rnd t each
  · have HP := Lib.hid (pgN_yes h)
    go_enter Try.func58, Try.ntmps58
    go_wp2_with (first | (go_at_call 65; refine (l00Round_any _ _ _ ⟨by omega, by omega⟩ ⟨by omega, by omega⟩).mono ?_; rintro e w1 ⟨rfl, rfl⟩) | (go_at_call 64; refine (l00Max_le (by omega) _).mono ?_; rintro e w1 ⟨rfl, rfl⟩))
    go_ret
    exact ⟨ret_int HP.out.symm, bw_alloc (Below.refl _ _) _⟩
  · have HP := Lib.hid (pgN_no h)
    go_enter Try.func58, Try.ntmps58
    go_wp2_with (first | (go_at_call 65; refine (l00Round_any _ _ _ ⟨by omega, by omega⟩ ⟨by omega, by omega⟩).mono ?_; rintro e w1 ⟨rfl, rfl⟩) | (go_at_call 64; refine (l00Max_gt (by omega) _).mono ?_; rintro e w1 ⟨rfl, rfl⟩))
    go_ret
    exact ⟨ret_int HP.out.symm, bw_alloc (Below.refl _ _) _⟩

set_option maxHeartbeats 800000 in
theorem l08Many_any (A : Option Addr) (n c : Nat) (xs : List ScE) (each : Int) (w : World) (H : SlSc w A n xs) (hn : n ≤ 12) (ht : tkOk xs n) (he : 1 ≤ each ∧ each ≤ 100) :
    Calls Try.prog 55 #[.slice A n c, .int .i64 each] w fun e w' => e = .returned (.int .i64 (pgT xs each n)) ∧ Below w.heap.size w w' := by
  have HT := Lib.hid ht
  have HE := Lib.hid he
  obtain ⟨he1, he2⟩ := he
  clear ht
  go_enter Try.func55, Try.ntmps55
  go_wp2_with fail
  go_loopw [5, 6] (fun x y wr => ∃ k : Nat, k ≤ n ∧ x = .int .i64 (pgT xs each k) ∧ y = .int .i64 k ∧ Below w.heap.size w wr) (fun _ y _ => (n - (intOf y).toNat))
  case atStart => exact ⟨0, by omega, rfl, rfl, Below.refl _ _⟩
  case round =>
    obtain ⟨k, hk, rfl, rfl, hbr⟩ := hrel
    obtain ⟨p1, p2⟩ := pgT_bd (xs := xs) (k := k) HT.out he1 hk
    by_cases hlt : k < n
    · obtain ⟨b', off', rfl, hbl', hd0, hd1⟩ := (H.below hbr).get hlt
      clear H
      obtain ⟨q1, q2⟩ := pgN_bd (HT.out k hlt) he1
      have hC := Lib.hid (fun W => l08Count_any (xs.getD k ScE.zero).f0 (xs.getD k ScE.zero).f1 each W (HT.out k hlt) HE.out)
      have HQ := Lib.hid (show pgT xs each (k + 1) = pgT xs each k + pgN (xs.getD k ScE.zero).f1 each from rfl)
      generalize xs.getD k ScE.zero = z at *
      generalize pgN z.f1 each = y at *
      generalize pgT xs each k = p at *
      go_wp2_with fail
      refine (hC.out _).mono ?_
      rintro e w2 ⟨rfl, hb2⟩
      go_wp2_with fail
      go_roundw
      case rel =>
        exact ⟨k + 1, by omega, by rw [HQ.out], by go_num, bw_trans hbr hb2⟩
      case measure => simp [intOf]; omega
    · have hkk : k = n := by omega
      subst hkk
      clear H
      go_wp2
      go_ret
      exact ⟨rfl, hbr⟩

set_option maxHeartbeats 800000 in
theorem l08Error_any (A : Option Addr) (n c : Nat) (xs : List ScE) (each : Int) (w : World) (H : SlSc w A n xs) (hn : n ≤ 12) (ht : tkOk xs n) (he : 1 ≤ each ∧ each ≤ 100) :
    Calls Try.prog 52 #[.slice A n c, .int .i64 each] w fun e w' => e = .returned (.int .i64 (erT xs each n)) ∧ Below w.heap.size w w' := by
  have HT := Lib.hid ht
  have HE := Lib.hid he
  obtain ⟨he1, he2⟩ := he
  clear ht
  go_enter Try.func52, Try.ntmps52
  go_wp2_with fail
  go_loopw [5, 6] (fun x y wr => ∃ k : Nat, k ≤ n ∧ x = .int .i64 (erT xs each k) ∧ y = .int .i64 k ∧ Below w.heap.size w wr) (fun _ y _ => (n - (intOf y).toNat))
  case atStart => exact ⟨0, by omega, rfl, rfl, Below.refl _ _⟩
  case round =>
    obtain ⟨k, hk, rfl, rfl, hbr⟩ := hrel
    obtain ⟨p1, p2⟩ := erT_bd (xs := xs) (k := k) HT.out HE.out hk
    by_cases hlt : k < n
    · obtain ⟨b', off', rfl, hbl', hd0, hd1⟩ := (H.below hbr).get hlt
      clear H
      obtain ⟨q1, q2⟩ := pgN_bd (HT.out k hlt) he1
      obtain ⟨m1, m2⟩ := pgM_bd (HT.out k hlt) HE.out
      obtain ⟨t1, t2⟩ := HT.out k hlt
      have hC := Lib.hid (fun W => l08Count_any (xs.getD k ScE.zero).f0 (xs.getD k ScE.zero).f1 each W (HT.out k hlt) HE.out)
      have HQ := Lib.hid (show erT xs each (k + 1) = erT xs each k + ((pgN (xs.getD k ScE.zero).f1 each * each - (xs.getD k ScE.zero).f1).natAbs : Int) from rfl)
      generalize xs.getD k ScE.zero = z at *
      generalize pgN z.f1 each = y at *
      generalize erT xs each k = p at *
      go_wp2_with fail
      refine wp_region_bel (by kernel_rfl) (by kernel_rfl) ?_
      repeat (go_big_quiet_step (((first | (go_at_call 58; exact calm_of (hC.out _)) | (go_at_call 61; exact calm_same (l00Size_any _ _ (by omega) (by omega)))))))
      refine wpQuiet_nil ?_
      intro w2 hw'
      obtain ⟨tq, hw''⟩ := hw'
      have hw2 := tq.2
      rw [← hw''] at hw2
      clear hw'' tq
      obtain ⟨hcw2, hfw2⟩ := bcell hw2
      try (have hzw2 : w.heap.size < w2.heap.size := by (have h := hw2.size; (try simp at h); omega))
      try (have hyw2 : w.heap.size + 1 < w2.heap.size := by (have h := hw2.size; (try simp at h); omega))
      try (have hxw2 : w.heap.size + 1 + 1 < w2.heap.size := by (have h := hw2.size; (try simp at h); omega))
      try (have hvw2 : w.heap.size + 1 + 1 + 1 < w2.heap.size := by (have h := hw2.size; (try simp at h); omega))
      go_wp2_with fail
      go_roundw
      case rel =>
        exact ⟨k + 1, by omega, by rw [HQ.out], by go_num, bw_trans hbr hw2⟩
      case measure => simp [intOf]; omega
    · have hkk : k = n := by omega
      subst hkk
      clear H
      go_wp2
      go_ret
      exact ⟨rfl, hbr⟩

set_option maxHeartbeats 800000 in
theorem bookCode_any (A : Option Addr) (n c : Nat) (xs : List ScE) (each : Int) (w : World) (H : SlSc w A n xs) (hn : n ≤ 1048576) (hz : ∀ k, k < n → (xs.getD k ScE.zero).f0.size ≤ 9223372036854775807) :
    Calls Try.prog 53 #[.slice A n c, .int .i64 each] w fun e w' => e = .returned (.int .i64 (bkC xs n each)) ∧ Below w.heap.size w w' := by
  have HC := Lib.hid (fun b hb => validScenes_is A n c xs w H hn (b := b) hb hz)
  clear hz
  cases h1 : vsB xs n
  · have HR := Lib.hid (bk_1 (each := each) h1)
    have H1 := Lib.hid h1
    clear h1 H
    go_enter Try.func53, Try.ntmps53
    go_wp2_with fail
    refine (HC.out _ H1.out).mono ?_
    rintro e w1 ⟨rfl, hb1⟩
    go_wp2
    go_ret
    exact ⟨ret_int HR.out.symm, hb1⟩
  cases h2 : inB each 1 100
  · have HR := Lib.hid (bk_2 h1 h2)
    have H1 := Lib.hid h1
    clear h1 H
    go_enter Try.func53, Try.ntmps53
    go_wp2_with fail
    refine (HC.out _ H1.out).mono ?_
    rintro e w1 ⟨rfl, hb1⟩
    go_wp2_with (go_at_call 39; refine (within_is h2 _).mono ?_; rintro e w1 ⟨rfl, rfl⟩)
    go_ret
    exact ⟨ret_int HR.out.symm, hb1⟩
  obtain ⟨hok, n1, n2⟩ := vs_of h1
  have HT := Lib.hid (tk_of hok)
  have HE := Lib.hid (inB_true.1 h2)
  by_cases h3 : 60 < pgT xs each n
  · have HR := Lib.hid (bk_5 h1 h2 h3)
    have H1 := Lib.hid h1
    clear h1 hok
    go_enter Try.func53, Try.ntmps53
    go_wp2_with fail
    refine (HC.out _ H1.out).mono ?_
    rintro e w1 ⟨rfl, hb1⟩
    go_wp2_with (go_at_call 39; refine (within_is h2 _).mono ?_; rintro e w1 ⟨rfl, rfl⟩)
    refine (pagesOf_any A n c xs each _ (H.below hb1) n2 HT.out HE.out).mono ?_
    rintro e w2 ⟨A', c', rfl, HS, hb2⟩
    have HL := pgL_len xs each n
    rw [HL] at HS
    rw [HL]
    clear HL
    go_wp2_with fail
    refine (sumOf_any A' n n c' xs each _ rfl HS n2 HT.out HE.out).mono ?_
    rintro e w3 ⟨rfl, hb3⟩
    clear HS
    clear H
    go_wp2
    go_ret
    refine ⟨ret_int HR.out.symm, ?_⟩
    repeat (first | exact Below.refl _ _ | refine bw_drew ?_ | refine bw_drewN ?_ _ | refine bw_set ?_ (by simp; try omega) _ | refine bw_alloc ?_ _ | refine bw_trans ?_ (by assumption) | assumption)
  · have HR := Lib.hid (bk_0 h1 h2 h3)
    have H1 := Lib.hid h1
    clear h1 hok
    go_enter Try.func53, Try.ntmps53
    go_wp2_with fail
    refine (HC.out _ H1.out).mono ?_
    rintro e w1 ⟨rfl, hb1⟩
    go_wp2_with (go_at_call 39; refine (within_is h2 _).mono ?_; rintro e w1 ⟨rfl, rfl⟩)
    refine (pagesOf_any A n c xs each _ (H.below hb1) n2 HT.out HE.out).mono ?_
    rintro e w2 ⟨A', c', rfl, HS, hb2⟩
    have HL := pgL_len xs each n
    rw [HL] at HS
    rw [HL]
    clear HL
    go_wp2_with fail
    refine (sumOf_any A' n n c' xs each _ rfl HS n2 HT.out HE.out).mono ?_
    rintro e w3 ⟨rfl, hb3⟩
    clear HS
    clear H
    go_wp2
    go_ret
    refine ⟨ret_int HR.out.symm, ?_⟩
    repeat (first | exact Below.refl _ _ | refine bw_drew ?_ | refine bw_drewN ?_ _ | refine bw_set ?_ (by simp; try omega) _ | refine bw_alloc ?_ _ | refine bw_trans ?_ (by assumption) | assumption)

set_option maxHeartbeats 800000 in
theorem l08Code_any (A : Option Addr) (n c : Nat) (xs : List ScE) (each : Int) (w : World) (H : SlSc w A n xs) (hn : n ≤ 1048576) (hz : ∀ k, k < n → (xs.getD k ScE.zero).f0.size ≤ 9223372036854775807) :
    Calls Try.prog 51 #[.slice A n c, .int .i64 each] w fun e w' => e = .returned (.int .i64 (bkC xs n each)) ∧ Below w.heap.size w w' := by
  have HC := Lib.hid (fun b hb => l08Ok_is A n c xs w H hn (b := b) hb hz)
  clear hz
  cases h1 : vsB xs n
  · have HR := Lib.hid (bk_1 (each := each) h1)
    have H1 := Lib.hid h1
    clear h1 H
    go_enter Try.func51, Try.ntmps51
    go_wp2_with fail
    refine (HC.out _ H1.out).mono ?_
    rintro e w1 ⟨rfl, hb1⟩
    go_wp2
    go_ret
    exact ⟨ret_int HR.out.symm, hb1⟩
  cases h2 : inB each 1 100
  · have HR := Lib.hid (bk_2 h1 h2)
    have H1 := Lib.hid h1
    clear h1 H
    go_enter Try.func51, Try.ntmps51
    go_wp2_with fail
    refine (HC.out _ H1.out).mono ?_
    rintro e w1 ⟨rfl, hb1⟩
    go_wp2_with (go_at_call 36; refine (l08Each_is h2 _).mono ?_; rintro e w1 ⟨rfl, rfl⟩)
    go_ret
    exact ⟨ret_int HR.out.symm, hb1⟩
  obtain ⟨hok, n1, n2⟩ := vs_of h1
  have HT := Lib.hid (tk_of hok)
  have HE := Lib.hid (inB_true.1 h2)
  by_cases h3 : 60 < pgT xs each n
  · have HR := Lib.hid (bk_5 h1 h2 h3)
    have H1 := Lib.hid h1
    clear h1 hok
    go_enter Try.func51, Try.ntmps51
    go_wp2_with fail
    refine (HC.out _ H1.out).mono ?_
    rintro e w1 ⟨rfl, hb1⟩
    go_wp2_with (go_at_call 36; refine (l08Each_is h2 _).mono ?_; rintro e w1 ⟨rfl, rfl⟩)
    refine (l08Many_any A n c xs each _ (H.below hb1) n2 HT.out HE.out).mono ?_
    rintro e w2 ⟨rfl, hb2⟩
    clear H
    go_wp2
    go_ret
    refine ⟨ret_int HR.out.symm, ?_⟩
    repeat (first | exact Below.refl _ _ | refine bw_drew ?_ | refine bw_drewN ?_ _ | refine bw_set ?_ (by simp; try omega) _ | refine bw_alloc ?_ _ | refine bw_trans ?_ (by assumption) | assumption)
  · have HR := Lib.hid (bk_0 h1 h2 h3)
    have H1 := Lib.hid h1
    clear h1 hok
    go_enter Try.func51, Try.ntmps51
    go_wp2_with fail
    refine (HC.out _ H1.out).mono ?_
    rintro e w1 ⟨rfl, hb1⟩
    go_wp2_with (go_at_call 36; refine (l08Each_is h2 _).mono ?_; rintro e w1 ⟨rfl, rfl⟩)
    refine (l08Many_any A n c xs each _ (H.below hb1) n2 HT.out HE.out).mono ?_
    rintro e w2 ⟨rfl, hb2⟩
    clear H
    go_wp2
    go_ret
    refine ⟨ret_int HR.out.symm, ?_⟩
    repeat (first | exact Below.refl _ _ | refine bw_drew ?_ | refine bw_drewN ?_ _ | refine bw_set ?_ (by simp; try omega) _ | refine bw_alloc ?_ _ | refine bw_trans ?_ (by assumption) | assumption)

set_option maxHeartbeats 800000 in
theorem iErrorOfBook_any (A : Option Addr) (n c : Nat) (xs : List ScE) (each : Int) (w : World) (H : SlSc w A n xs) (hn : n ≤ 1048576) (hz : ∀ k, k < n → (xs.getD k ScE.zero).f0.size ≤ 9223372036854775807) :
    Calls Try.prog 30 #[.slice A n c, .int .i64 each] w fun e w' => e = .returned (.tuple #[.int .i64 (ebN xs n each), .int .i64 (bkC xs n each)]) ∧ Below w.heap.size w w' := by
  have HC := Lib.hid (bookCode_any A n c xs each w H hn hz)
  clear hz
  by_cases h : bkC xs n each = 0
  · have HR := Lib.hid (And.intro (eb_yes h) h)
    obtain ⟨h1, h2, h3⟩ := bk_ok h
    obtain ⟨hok, n1, n2⟩ := vs_of h1
    have HT := Lib.hid (tk_of hok)
    have HE := Lib.hid (inB_true.1 h2)
    clear h1 h2 hok
    rw [h] at HC
    clear h
    go_enter Try.func30, Try.ntmps30
    go_wp2_with fail
    refine HC.out.mono ?_
    rintro e w1 ⟨rfl, hb1⟩
    go_wp2_with fail
    refine (errorOf_any A n c xs each _ (H.below hb1) n2 HT.out HE.out).mono ?_
    rintro e w2 ⟨rfl, hb2⟩
    clear H
    go_wp2
    go_ret2
    exact ⟨by rw [HR.out.1, HR.out.2]; rfl, bw_trans hb1 hb2⟩
  · have HR := Lib.hid (eb_no h)
    have hC : (bkC xs n each != 0) = true := by simpa using h
    clear H
    generalize bkC xs n each = C at *
    go_enter Try.func30, Try.ntmps30
    go_wp2_with fail
    refine HC.out.mono ?_
    rintro e w1 ⟨rfl, hb1⟩
    go_wp2
    go_ret2
    exact ⟨by rw [HR.out]; rfl, hb1⟩

set_option maxHeartbeats 800000 in
theorem sErrorOfBook_any (A : Option Addr) (n c : Nat) (xs : List ScE) (each : Int) (w : World) (H : SlSc w A n xs) (hn : n ≤ 1048576) (hz : ∀ k, k < n → (xs.getD k ScE.zero).f0.size ≤ 9223372036854775807) :
    Calls Try.prog 29 #[.slice A n c, .int .i64 each] w fun e w' => e = .returned (.tuple #[.int .i64 (ebN xs n each), .int .i64 (bkC xs n each)]) ∧ Below w.heap.size w w' := by
  have HC := Lib.hid (l08Code_any A n c xs each w H hn hz)
  clear hz
  by_cases h : bkC xs n each = 0
  · have HR := Lib.hid (And.intro (eb_yes h) h)
    obtain ⟨h1, h2, h3⟩ := bk_ok h
    obtain ⟨hok, n1, n2⟩ := vs_of h1
    have HT := Lib.hid (tk_of hok)
    have HE := Lib.hid (inB_true.1 h2)
    clear h1 h2 hok
    rw [h] at HC
    clear h
    go_enter Try.func29, Try.ntmps29
    go_wp2_with fail
    refine HC.out.mono ?_
    rintro e w1 ⟨rfl, hb1⟩
    go_wp2_with fail
    refine (l08Error_any A n c xs each _ (H.below hb1) n2 HT.out HE.out).mono ?_
    rintro e w2 ⟨rfl, hb2⟩
    clear H
    go_wp2
    go_ret2
    exact ⟨by rw [HR.out.1, HR.out.2]; rfl, bw_trans hb1 hb2⟩
  · have HR := Lib.hid (eb_no h)
    have hC : (bkC xs n each != 0) = true := by simpa using h
    clear H
    generalize bkC xs n each = C at *
    go_enter Try.func29, Try.ntmps29
    go_wp2_with fail
    refine HC.out.mono ?_
    rintro e w1 ⟨rfl, hb1⟩
    go_wp2
    go_ret2
    exact ⟨by rw [HR.out]; rfl, hb1⟩

set_option maxRecDepth 100000 in
set_option maxHeartbeats 800000 in
theorem law_ErrorOfBook (a : Option Addr) (l c : Nat) (xs : List ScE) (each : Int) (w : World) (hm : l ≤ 9223372036854775807) (H0 : SlSc w a l xs) (hz : ∀ k, k < l → (xs.getD k ScE.zero).f0.size ≤ 9223372036854775807) :
    Calls Try.prog 9 #[.slice a l c, .int .i64 each] w fun e w' => e = .returned (.bool true) ∧ Below w.heap.size w w' := by
  by_cases hn : l ≤ 1048576
  · have HZ := Lib.hid hz
    have hsz := Scsz_any a l c xs w H0 hn hz
    clear hz
    by_cases hneg : szR xs l < 0
    · generalize szR xs l = r at *
      clear H0
      go_enter Try.func9, Try.ntmps9
      go_wp2_with fail
      refine hsz.mono ?_
      rintro e w0 ⟨rfl, hB0⟩
      go_wp2
      go_ret
      exact ⟨rfl, hB0⟩
    generalize szR xs l = r at *
    go_enter Try.func9, Try.ntmps9
    go_wp2_with fail
    refine hsz.mono ?_
    rintro e w0 ⟨rfl, hB0⟩
    go_wp2_with fail
    refine (SctoS_any a l c xs _ (H0.below hB0) hn).mono ?_
    rintro e w1 ⟨rfl, HS, hb1⟩
    have hB1 := bw_trans hB0 hb1
    clear hb1
    go_wp2_with fail
    refine (sErrorOfBook_any  _ _ _ xs each _ HS hn HZ.out).mono ?_
    rintro e w2 ⟨rfl, hb2⟩
    have hB2 := bw_trans hB1 hb2
    clear hb2 HS
    go_wp2_with fail
    refine (SctoS_any a l c xs _ (H0.below hB2) hn).mono ?_
    rintro e w3 ⟨rfl, HM, hb3⟩
    have hB3 := bw_trans hB2 hb3
    clear hb3
    go_wp2_with fail
    refine (iErrorOfBook_any  _ _ _ xs each _ HM hn HZ.out).mono ?_
    rintro e w4 ⟨rfl, hb4⟩
    have hB4 := bw_trans hB3 hb4
    have HM4 := HM.below hb4
    clear hb4 HM
    go_wp2_with fail
    refine (SctoS_any a l c xs _ (H0.below hB4) hn).mono ?_
    rintro e w5 ⟨rfl, HQ, hb5⟩
    have HM5 := HM4.below hb5
    have hB5 := bw_trans hB4 hb5
    clear hb5 HM4
    go_wp2_with fail
    refine (SceqS_any _ _ _ _ _ xs _ HM5 HQ hn).mono ?_
    rintro e w6 ⟨rfl, hb6⟩
    clear HM5 HQ H0
    go_wp2
    go_ret
    exact ⟨rfl, bw_trans hB5 hb6⟩
  · clear H0 hz
    go_enter Try.func9, Try.ntmps9
    go_wp2_with fail
    refine (ScszNo_any a l c _ hm hn).mono ?_
    rintro e w0 ⟨rfl, hB0⟩
    go_wp2
    go_ret
    exact ⟨rfl, hB0⟩
end Go.Proofs.Ytnjndlngkoadfaa
