/-
  The nearest lens in the reference, and the law.
-/
import Derived.Test.YthhilkahfgpncaaHf
namespace Go.Proofs.Ythhilkahfgpncaa
open Go.RowKit

theorem nbT_one (xs : List Int) (wd : Int) : nbT xs wd 1 = 0 := by
  unfold nbT; split <;> rfl

set_option maxRecDepth 100000 in
set_option maxHeartbeats 800000 in
theorem sNearestLens_any (A : Option Addr) (n c : Nat) (xs : List Int) (wd : Int) (w : World) (H : SlI w A n xs) (hn : n ≤ 1048576) :
    Calls Try.prog 24 #[.slice A n c, .int .i64 wd] w fun e w' => e = .returned (.tuple #[.int .i64 (nlN xs n wd), .int .i64 (liC xs n wd 1)]) ∧ Below w.heap.size w w' := by
  have hli := l10List_any A n c xs wd 1 w H hn
  rcases li_one xs n wd with ⟨h1, h2⟩ | ⟨h1, h2, h3, h4⟩ | ⟨h1, h2, h3, h4, h5⟩
  case inl =>
    have H1 := Lib.hid h1
    rw [h1] at hli
    have HLI := Lib.hid hli
    clear h1 h2 hli
    go_enter Try.func24, Try.ntmps24
    go_wp2_with fail
    refine (HLI.out).mono ?_
    rintro e w' ⟨rfl, rfl⟩
    go_wp2
    go_ret2
    exact ⟨by simp [nlN, H1.out], Below.refl _ _⟩
  case inr.inl =>
    have H1 := Lib.hid h1
    rw [h1] at hli
    have HLI := Lib.hid hli
    clear h1 h2 hli h4
    go_enter Try.func24, Try.ntmps24
    go_wp2_with fail
    refine (HLI.out).mono ?_
    rintro e w' ⟨rfl, rfl⟩
    go_wp2
    go_ret2
    exact ⟨by simp [nlN, H1.out], Below.refl _ _⟩
  case inr.inr =>
    have hN : nlN xs n wd = (nbT xs wd n : Int) := by unfold nlN; rw [if_pos h1]
    have HN := Lib.hid hN
    have H1 := Lib.hid h1
    rw [h1] at hli
    have HLI := Lib.hid hli
    have hall : allFo xs = true := by unfold lkB at h2; rw [Bool.and_eq_true] at h2; exact h2.2
    have HA := Lib.hid hall
    have HL := Lib.hid H.length
    obtain ⟨d1, d2⟩ := isFo_true.1 h3
    clear h1 hN hall hli h2 h3
    go_enter Try.func24, Try.ntmps24
    go_wp2_with fail
    refine (HLI.out).mono ?_
    rintro e w' ⟨rfl, rfl⟩
    go_wp2_with fail
    go_loopw [7, 8] (fun x y wr => ∃ k j : Nat, 1 ≤ k ∧ k ≤ n ∧ x = .int .i64 j ∧ y = .int .i64 k ∧ Hid (nbT xs wd k = j) ∧ Below w.heap.size w wr) (fun _ y _ => (n - (intOf y).toNat))
    case atStart => exact ⟨1, 0, by omega, by omega, rfl, rfl, nbT_one _ _, Below.refl _ _⟩
    case round =>
      obtain ⟨k, j, hk1, hk, rfl, rfl, hj, hbr⟩ := hrel
      by_cases hlt : k < n
      · have hjk := nbT_lt xs wd k
        rw [hj.out] at hjk
        have hjn : j < n := by omega
        obtain ⟨b, off, rfl, hbl, hc⟩ := (H.below hbr).get hlt
        have hc' := (H.below hbr).cell hjn
        clear H hjk
        obtain ⟨x1, x2⟩ := allFo_at HA.out (k := k) (by rw [HL.out]; exact hlt)
        obtain ⟨y1, y2⟩ := allFo_at HA.out (k := j) (by rw [HL.out]; exact hjn)
        have hik : (k : Int) < (n : Int) := by omega
        have hij : (j : Int) < (n : Int) := by omega
        have hyes : (xs.getD k 0 - wd).natAbs < (xs.getD j 0 - wd).natAbs → nbT xs wd (k + 1) = k := fun h => nbT_yes (by rw [hj.out]; exact h)
        have hno : ¬ (xs.getD k 0 - wd).natAbs < (xs.getD j 0 - wd).natAbs → nbT xs wd (k + 1) = j := fun h => (nbT_no (by rw [hj.out]; exact h)).trans hj.out
        have HYES := Lib.hid hyes
        have HNO := Lib.hid hno
        clear hyes hno
        generalize xs.getD k 0 = x at *
        generalize xs.getD j 0 = y at *
        by_cases hxy : (x - wd).natAbs < (y - wd).natAbs
        · have HQ := Lib.hid (HYES.out hxy)
          have hxy' : (((x - wd).natAbs : Nat) : Int) < (((y - wd).natAbs : Nat) : Int) := by omega
          clear hxy HYES HNO
          go_wp2_with fail
          refine wp_region_bel (by kernel_rfl) (by kernel_rfl) ?_
          repeat (go_big_quiet_step (((go_at_call 64; exact calm_same (l00Size_any _ _ (by omega) (by omega))))))
          refine wpQuiet_nil ?_
          intro w2 hw'
          obtain ⟨tq, hw''⟩ := hw'
          have hw2 := tq.2
          rw [← hw''] at hw2
          clear hw'' tq
          obtain ⟨hcw2, hfw2⟩ := bcell hw2
          try (have hzw2 : w.heap.size < w2.heap.size := by (have h := hw2.size; (try simp at h); omega))
          try (have hyw2 : w.heap.size + 1 < w2.heap.size := by (have h := hw2.size; (try simp at h); omega))
          try (have hxw2 : w.heap.size + 1 + 1 < w2.heap.size := by (have h := hw2.size; (try simp at h); omega))
          try (have hvw2 : w.heap.size + 1 + 1 + 1 < w2.heap.size := by (have h := hw2.size; (try simp at h); omega))
          go_wp2_with fail
          go_roundw
          case rel => exact ⟨k + 1, k, by omega, by omega, rfl, by go_num, HQ.out, bw_trans hbr hw2⟩
          case measure => simp [intOf]; omega
        · have HQ := Lib.hid (HNO.out hxy)
          have hxy' : ¬ (((x - wd).natAbs : Nat) : Int) < (((y - wd).natAbs : Nat) : Int) := by omega
          clear hxy HYES HNO
          go_wp2_with fail
          refine wp_region_bel (by kernel_rfl) (by kernel_rfl) ?_
          repeat (go_big_quiet_step (((go_at_call 64; exact calm_same (l00Size_any _ _ (by omega) (by omega))))))
          refine wpQuiet_nil ?_
          intro w2 hw'
          obtain ⟨tq, hw''⟩ := hw'
          have hw2 := tq.2
          rw [← hw''] at hw2
          clear hw'' tq
          obtain ⟨hcw2, hfw2⟩ := bcell hw2
          try (have hzw2 : w.heap.size < w2.heap.size := by (have h := hw2.size; (try simp at h); omega))
          try (have hyw2 : w.heap.size + 1 < w2.heap.size := by (have h := hw2.size; (try simp at h); omega))
          try (have hxw2 : w.heap.size + 1 + 1 < w2.heap.size := by (have h := hw2.size; (try simp at h); omega))
          try (have hvw2 : w.heap.size + 1 + 1 + 1 < w2.heap.size := by (have h := hw2.size; (try simp at h); omega))
          go_wp2_with fail
          go_roundw
          case rel => exact ⟨k + 1, j, by omega, by omega, rfl, by go_num, HQ.out, bw_trans hbr hw2⟩
          case measure => simp [intOf]; omega
      · have hkk : k = n := by omega
        subst hkk
        clear H
        go_wp2
        go_ret2
        exact ⟨by rw [HN.out, H1.out, hj.out]; rfl, hbr⟩

set_option maxRecDepth 100000 in
set_option maxHeartbeats 800000 in
theorem law_NearestLens (a : Option Addr) (l c : Nat) (zs : List Int) (wd : Int) (w : World) (H : IsRow .i64 w a l c zs) :
    Calls Try.prog 5 #[.slice a l c, .int .i64 wd] w fun e w' => e = .returned (.bool true) ∧ Below w.heap.size w w' := by
  have hl := H.len
  by_cases hn : l ≤ 1048576
  · have H0 := H.sl
    have hx := H0.length
    obtain ⟨xs, hxs⟩ : ∃ xs, zs.take l = xs := ⟨_, rfl⟩
    rw [hxs] at H0 hx
    clear hxs H
    have HX := Lib.hid hx
    clear hx
    have hni : (l : Int) ≤ 1048576 := by omega
    go_enter Try.func5, Try.ntmps5
    go_wp2_with fail
    refine (toInts_is a l c xs _ H0 hn).mono ?_
    rintro e w' ⟨rfl, rfl⟩
    go_wp2_with fail
    refine (sNearestLens_any _ _ _ xs _ _ (SlI.made HX.out) hn).mono ?_
    rintro e w1 ⟨rfl, hb1⟩
    have hB1 := bw_trans (bw_alloc (Below.refl w.heap.size w) _) hb1
    clear hb1
    go_wp2_with fail
    refine (toInts_is a l c xs _ (H0.below hB1) hn).mono ?_
    rintro e w' ⟨rfl, rfl⟩
    go_wp2_with fail
    have HM := SlI.made (w := w1) (t := 2) HX.out
    refine (nearestLens_any _ _ _ xs _ _ HM hn).mono ?_
    rintro e w2 ⟨rfl, hb2⟩
    have hB2 := bw_trans (bw_alloc hB1 _) hb2
    have HM2 := HM.below hb2
    clear hb2 HM
    go_wp2_with fail
    refine (toInts_is a l c xs _ (H0.below hB2) hn).mono ?_
    rintro e w' ⟨rfl, rfl⟩
    go_wp2_with fail
    refine (eqInts_any _ _ _ _ _ xs _ (HM2.below (bw_alloc (Below.refl _ _) _)) (SlI.made HX.out) hn).mono ?_
    rintro e w3 ⟨rfl, hb3⟩
    clear HM2 H0
    go_wp2
    go_ret
    exact ⟨rfl, bw_trans (bw_alloc hB2 _) hb3⟩
  · have hni : 1048576 < (l : Int) := by omega
    clear H
    go_enter Try.func5, Try.ntmps5
    go_wp2
    go_ret
    exact ⟨rfl, Below.refl _ _⟩
end Go.Proofs.Ythhilkahfgpncaa
