/-
  PlacesAfter: in the program and in the reference.
-/
import Derived.Test.YtjgigmlhnnkjiaaWf
import Derived.Test.YtjgigmlhnnkjiaaMk
namespace Go.Proofs.Ytjgigmlhnnkjiaa
open Go.RowKit

/-- The places of the first k wheels. -/
def plL (xs : List WhE) (m : Int) (k : Nat) : List Int := (List.range k).map fun i => plT (xs.getD i WhE.zero).f0 (xs.getD i WhE.zero).f1 m
theorem plL_len (xs : List WhE) (m : Int) (k : Nat) : (plL xs m k).length = k := by simp [plL]
theorem plL_succ (xs : List WhE) (m : Int) (k : Nat) : plL xs m (k + 1) = plL xs m k ++ [plT (xs.getD k WhE.zero).f0 (xs.getD k WhE.zero).f1 m] := by simp [plL, List.range_succ]
def paC (cr : Int) (xs : List WhE) (n : Nat) (m : Int) : Int := if vwB cr xs n then (if inB m 0 100000 then 0 else 2) else 1
def paL (cr : Int) (xs : List WhE) (n : Nat) (m : Int) : List Int := if paC cr xs n m = 0 then plL xs m n else []
theorem pa_1 {cr : Int} {xs : List WhE} {n : Nat} {m : Int} (h : vwB cr xs n = false) : paC cr xs n m = 1 ∧ paL cr xs n m = [] := by
  have e : paC cr xs n m = 1 := by unfold paC; rw [h]; rfl
  unfold paL; rw [e]; exact ⟨rfl, rfl⟩
theorem pa_2 {cr : Int} {xs : List WhE} {n : Nat} {m : Int} (h : vwB cr xs n = true) (h2 : inB m 0 100000 = false) : paC cr xs n m = 2 ∧ paL cr xs n m = [] := by
  have e : paC cr xs n m = 2 := by unfold paC; rw [h, h2]; rfl
  unfold paL; rw [e]; exact ⟨rfl, rfl⟩
theorem pa_0 {cr : Int} {xs : List WhE} {n : Nat} {m : Int} (h : vwB cr xs n = true) (h2 : inB m 0 100000 = true) : paC cr xs n m = 0 ∧ paL cr xs n m = plL xs m n := by
  have e : paC cr xs n m = 0 := by unfold paC; rw [h, h2]; rfl
  unfold paL; rw [e]; exact ⟨rfl, rfl⟩
theorem paL_len {cr : Int} {xs : List WhE} {n : Nat} {m : Int} (hn : n ≤ 1048576) : (paL cr xs n m).length ≤ 1048576 := by
  unfold paL; split
  · rw [plL_len]; exact hn
  · simp

set_option maxHeartbeats 800000 in
theorem iPlacesAfter_any (cr : Int) (A : Option Addr) (n c : Nat) (xs : List WhE) (m : Int) (w : World) (H : SlWh w A n xs) (hn : n ≤ 1048576) :
    Calls Try.prog 25 #[.int .i64 cr, .slice A n c, .int .i64 m] w (GivesIC (paL cr xs n m) (paC cr xs n m) w) := by
  have hC : ∀ W, Below w.heap.size w W → ∀ b, vwB cr xs n = b → Calls Try.prog 13 #[.int .i64 cr, .slice A n c] W fun e w' => e = .returned (.bool b) ∧ Below W.heap.size W w' := fun W hW b hb => validWheels_is cr A n c xs W (H.below hW) hn hb
  have HC := Lib.hid hC
  clear hC
  cases h1 : vwB cr xs n
  · obtain ⟨r1, r2⟩ := pa_1 (m := m) h1
    rw [r1, r2]
    have H1 := Lib.hid h1
    clear h1 r1 r2 H
    go_enter Try.func25, Try.ntmps25
    go_wp2_with fail
    refine (HC.out _ (Below.refl _ _) _ H1.out).mono ?_
    rintro e w1 ⟨rfl, hb1⟩
    go_wp2
    go_ret2
    exact ⟨_, rfl, OwnI.nil _ _, hb1⟩
  cases h2 : inB m 0 100000
  · obtain ⟨r1, r2⟩ := pa_2 h1 h2
    rw [r1, r2]
    have H1 := Lib.hid h1
    clear h1 r1 r2 H
    go_enter Try.func25, Try.ntmps25
    go_wp2_with fail
    refine (HC.out _ (Below.refl _ _) _ H1.out).mono ?_
    rintro e w1 ⟨rfl, hb1⟩
    go_wp2_with (go_at_call 35; refine (within_is h2 _).mono ?_; rintro e w1 ⟨rfl, rfl⟩)
    go_ret2
    exact ⟨_, rfl, OwnI.nil _ _, hb1⟩
  obtain ⟨r1, r2⟩ := pa_0 h1 h2
  rw [r1, r2]
  obtain ⟨_, hn8, hbad⟩ := vw_parts h1
  obtain ⟨m1, m2⟩ := inB_true.1 h2
  have HT := Lib.hid (fun k (hk : k < n) => badW_at hbad (k := k) (by rw [H.1]; exact hk))
  have H1 := Lib.hid h1
  clear h1 r1 r2 hbad
  go_enter Try.func25, Try.ntmps25
  go_wp2_with fail
  refine (HC.out _ (Below.refl _ _) _ H1.out).mono ?_
  rintro e w1 ⟨rfl, hb1⟩
  clear HC H1
  go_wp2_with (go_at_call 35; refine (within_is h2 _).mono ?_; rintro e w1 ⟨rfl, rfl⟩)
  go_loopg [8, 23] n (fun gh v x wr => ∃ k : Nat, k ≤ n ∧ gh = n - k ∧ OwnI wr w.heap.size v (plL xs m k) ∧ x = .int .i64 k ∧ Below w.heap.size w wr)
  case atStart => exact ⟨0, by omega, by omega, OwnI.lit w1 hb1.size, rfl, bw_alloc hb1 _⟩
  case round =>
    obtain ⟨k, hk, rfl, hown, rfl, hbr⟩ := hrel
    have HO := Lib.hid hown
    have HL := Lib.hid (plL_len xs m k)
    clear hown
    by_cases hlt : k < n
    · obtain ⟨b, off, rfl, hbl, hc0, hc1⟩ := (H.below hbr).get hlt
      clear H
      obtain ⟨t1, t2⟩ := HT.out k hlt
      have hsz := hbr.size
      have HS := Lib.hid (plL_succ xs m k)
      generalize xs.getD k WhE.zero = y at *
      go_wp2_with fail
      refine (place_any y.f0 y.f1 _ _ ⟨by omega, by omega⟩ ⟨by omega, by omega⟩).mono ?_
      rintro e w2 ⟨rfl, hb2⟩
      have hown2 := Lib.hid ((HO.out.alloc (.cells #[.int .i64 y.f0, .bool y.f1] 51)).below hb2)
      have hbr2 := bw_trans (bw_alloc hbr _) hb2
      have hz2 := hbr2.size
      clear hb2
      generalize plT y.f0 y.f1 m = P at *
      go_wp2_with (at_builtin; refine wpAppI rfl _ _ rfl _ _ _ rfl (hown2.out.alloc _) _ (P) rfl (by go_simp) (by rw [HL.out]; omega) (by simp; omega) ?_; intro v3 w3 hown3 hg3 hb3)
      go_roundg (n - (k + 1))
      case rel => exact ⟨k + 1, by omega, rfl, by rw [HS.out]; exact hown3, by go_num, bw_from (bw_alloc hbr2 _) hb3⟩
      case measure => omega
    · have hkk : k = n := by omega
      subst hkk
      clear H
      obtain ⟨A', c', rfl⟩ := HO.out.form
      go_wp2
      go_ret2
      exact ⟨_, rfl, HO.out, hbr⟩

set_option maxHeartbeats 800000 in
theorem sPlacesAfter_any (cr : Int) (A : Option Addr) (n c : Nat) (xs : List WhE) (m : Int) (w : World) (H : SlWh w A n xs) (hn : n ≤ 1048576) :
    Calls Try.prog 24 #[.int .i64 cr, .slice A n c, .int .i64 m] w (GivesIC (paL cr xs n m) (paC cr xs n m) w) := by
  have hC : ∀ W, Below w.heap.size w W → ∀ b, vwB cr xs n = b → Calls Try.prog 33 #[.int .i64 cr, .slice A n c] W fun e w' => e = .returned (.bool b) ∧ Below W.heap.size W w' := fun W hW b hb => l14Ok_is cr A n c xs W (H.below hW) hn hb
  have HC := Lib.hid hC
  clear hC
  cases h1 : vwB cr xs n
  · obtain ⟨r1, r2⟩ := pa_1 (m := m) h1
    rw [r1, r2]
    have H1 := Lib.hid h1
    clear h1 r1 r2 H
    go_enter Try.func24, Try.ntmps24
    go_wp2_with fail
    refine (HC.out _ (Below.refl _ _) _ H1.out).mono ?_
    rintro e w1 ⟨rfl, hb1⟩
    go_wp2
    go_ret2
    exact ⟨_, rfl, OwnI.nil _ _, hb1⟩
  cases h2 : inB m 0 100000
  · obtain ⟨r1, r2⟩ := pa_2 h1 h2
    rw [r1, r2]
    have H1 := Lib.hid h1
    clear h1 r1 r2 H
    go_enter Try.func24, Try.ntmps24
    go_wp2_with fail
    refine (HC.out _ (Below.refl _ _) _ H1.out).mono ?_
    rintro e w1 ⟨rfl, hb1⟩
    go_wp2_with (go_at_call 48; refine (l14Many_is h2 _).mono ?_; rintro e w1 ⟨rfl, rfl⟩)
    go_ret2
    exact ⟨_, rfl, OwnI.nil _ _, hb1⟩
  obtain ⟨r1, r2⟩ := pa_0 h1 h2
  rw [r1, r2]
  obtain ⟨_, hn8, hbad⟩ := vw_parts h1
  obtain ⟨m1, m2⟩ := inB_true.1 h2
  have HT := Lib.hid (fun k (hk : k < n) => badW_at hbad (k := k) (by rw [H.1]; exact hk))
  have H1 := Lib.hid h1
  clear h1 r1 r2 hbad
  go_enter Try.func24, Try.ntmps24
  go_wp2_with fail
  refine (HC.out _ (Below.refl _ _) _ H1.out).mono ?_
  rintro e w1 ⟨rfl, hb1⟩
  clear HC H1
  go_wp2_with (go_at_call 48; refine (l14Many_is h2 _).mono ?_; rintro e w1 ⟨rfl, rfl⟩)
  go_loopg [8, 9] n (fun gh v x wr => ∃ k : Nat, k ≤ n ∧ gh = n - k ∧ OwnI wr w.heap.size v (plL xs m k) ∧ x = .int .i64 k ∧ Below w.heap.size w wr)
  case atStart => exact ⟨0, by omega, by omega, OwnI.lit w1 hb1.size, rfl, bw_alloc hb1 _⟩
  case round =>
    obtain ⟨k, hk, rfl, hown, rfl, hbr⟩ := hrel
    have HO := Lib.hid hown
    have HL := Lib.hid (plL_len xs m k)
    clear hown
    by_cases hlt : k < n
    · obtain ⟨b, off, rfl, hbl, hc0, hc1⟩ := (H.below hbr).get hlt
      clear H
      obtain ⟨t1, t2⟩ := HT.out k hlt
      have hsz := hbr.size
      have HS := Lib.hid (plL_succ xs m k)
      generalize xs.getD k WhE.zero = y at *
      go_wp2_with fail
      refine (l14Place_any _ y.f0 y.f1 _ _ b (off + k * 2) rfl hc0 hc1 ⟨by omega, by omega⟩ ⟨by omega, by omega⟩).mono ?_
      rintro e w2 ⟨rfl, hb2⟩
      have hown2 := Lib.hid (HO.out.below hb2)
      have hbr2 := bw_trans hbr hb2
      have hz2 := hbr2.size
      clear hb2
      generalize plT y.f0 y.f1 m = P at *
      go_wp2_with (at_builtin; refine wpAppI rfl _ _ rfl _ _ _ rfl (hown2.out.alloc _) _ (P) rfl (by go_simp) (by rw [HL.out]; omega) (by simp; omega) ?_; intro v3 w3 hown3 hg3 hb3)
      go_roundg (n - (k + 1))
      case rel => exact ⟨k + 1, by omega, rfl, by rw [HS.out]; exact hown3, by go_num, bw_from (bw_alloc hbr2 _) hb3⟩
      case measure => omega
    · have hkk : k = n := by omega
      subst hkk
      clear H
      obtain ⟨A', c', rfl⟩ := HO.out.form
      go_wp2
      go_ret2
      exact ⟨_, rfl, HO.out, hbr⟩
end Go.Proofs.Ytjgigmlhnnkjiaa
