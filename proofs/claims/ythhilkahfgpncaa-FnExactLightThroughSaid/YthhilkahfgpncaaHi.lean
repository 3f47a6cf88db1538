/-
  Light behind losses in the reference; the law.
-/
import Derived.Test.YthhilkahfgpncaaHh
import Derived.Test.YthhilkahfgpncaaRowE
namespace Go.Proofs.Ythhilkahfgpncaa
open Go.RowKit

set_option maxRecDepth 100000 in
set_option maxHeartbeats 1600000 in
theorem sLightThrough_any (lum : Int) (A : Option Addr) (n c : Nat) (xs : List Int) (w : World) (H : SlI w A n xs) (hn : n ≤ 1048576) :
    Calls Try.prog 30 #[.int .i64 lum, .slice A n c] w fun e w' => e = .returned (.tuple #[.agg #[.int .i64 ((ltT lum xs n).1), .int .i64 ((ltT lum xs n).2.1)], .int .i64 ((ltT lum xs n).2.2)]) ∧ Below w.heap.size w w' := by
  have HL := Lib.hid H.length
  cases h1 : inB lum 0 100000
  · have hT := lt_no (lum := lum) (xs := xs) (n := n) (by unfold ltOk; rw [h1]; rfl)
    have HT := Lib.hid hT
    clear hT
    go_enter Try.func30, Try.ntmps30
    go_wp2_with (go_at_call 68; refine (l00In_is h1 _).mono ?_; rintro e w1 ⟨rfl, rfl⟩)
    try simp only [Exit.inBlock, Exit.then]
    refine bodyPost_ret (v := .tuple #[.agg #[.int .i64 (0), .int .i64 (0)], .int .i64 (2)]) (by simp [results, Try.results30, go_sem, *]) rfl ⟨by rw [HT.out], ?_⟩
    repeat (first | exact Below.refl _ _ | refine bw_drew ?_ | refine bw_drewN ?_ _ | refine bw_set ?_ (by simp; try omega) _ | refine bw_alloc ?_ _ | refine bw_trans ?_ (by assumption) | assumption)
  have hlum := inB_true.1 h1
  have HW : SlI (w.alloc (.cells #[.int .i64 0, .int .i64 0] 46)) A n xs := H.below (bw_alloc (Below.refl _ _) _)
  clear H
  go_enter Try.func30, Try.ntmps30
  go_wp2_with (go_at_call 68; refine (l00In_is h1 _).mono ?_; rintro e w1 ⟨rfl, rfl⟩)
  go_loopw [6] (fun x wr => ∃ k : Nat, k ≤ n ∧ x = .int .i64 k ∧ Hid (∀ j, j < k → notLo (xs.getD j 0) = false) ∧ Below (w.alloc (.cells #[.int .i64 0, .int .i64 0] 46)).heap.size (w.alloc (.cells #[.int .i64 0, .int .i64 0] 46)) wr) (fun x _ => (n - (intOf x).toNat))
  case atStart =>
    refine ⟨0, by omega, rfl, fun j hj => absurd hj (by omega), ?_⟩
    repeat (first | exact Below.refl _ _ | refine bw_drew ?_ | refine bw_drewN ?_ _ | refine bw_set ?_ (by simp; try omega) _ | refine bw_alloc ?_ _ | refine bw_trans ?_ (by assumption) | assumption)
  case round =>
    obtain ⟨k, hk, rfl, hno, hbr⟩ := hrel
    obtain ⟨hc1, hf1⟩ := bcell hbr
    have hz1 : w.heap.size < wr.heap.size := by (have h := hbr.size; simp at h; omega)
    by_cases hlt : k < n
    · obtain ⟨b, off, rfl, hbl, hc⟩ := (HW.below hbr).get hlt
      cases hp : inB (xs.getD k 0) 0 1000
      · have hbad : ltT lum xs n = (0, 0, 2) := by
          have g1 : notLo (xs.getD k 0) = true := by unfold notLo; rw [hp]; rfl
          have g2 := any_true (by rw [HL.out]; exact hlt) g1
          exact lt_no (by unfold ltOk; rw [g2]; simp)
        have HT := Lib.hid hbad
        clear hbad HW
        generalize xs.getD k 0 = x at hc hp
        go_wp2_with (go_at_call 68; refine (l00In_is hp _).mono ?_; rintro e w1 ⟨rfl, rfl⟩)
        try simp only [Exit.inBlock, Exit.then]
        refine bodyPost_ret (v := .tuple #[.agg #[.int .i64 (0), .int .i64 (0)], .int .i64 (2)]) (by simp [results, Try.results30, go_sem, *]) rfl ⟨by rw [HT.out], ?_⟩
        repeat (first | exact Below.refl _ _ | refine bw_drew ?_ | refine bw_drewN ?_ _ | refine bw_set ?_ (by simp; try omega) _ | refine bw_alloc ?_ _ | refine bw_trans ?_ (by assumption) | assumption)
      · have hn' : ∀ j, j < k + 1 → notLo (xs.getD j 0) = false := fun j hj => by
          rcases Nat.lt_or_ge j k with h | h
          · exact hno.out j h
          · have : j = k := by omega
            subst this; unfold notLo; rw [hp]; rfl
        have HN := Lib.hid hn'
        clear hn' HW
        generalize xs.getD k 0 = x at hc hp
        go_wp2_with (go_at_call 68; refine (l00In_is hp _).mono ?_; rintro e w1 ⟨rfl, rfl⟩)
        go_roundw
        case rel => exact ⟨k + 1, by omega, by go_num, HN.out, hbr⟩
        case measure => simp [intOf]; omega
    · have hkk : k = n := by omega
      subst hkk
      have hany : xs.any notLo = false := any_false (p := notLo) (xs := xs) (fun j hj => hno.out j (by rw [← HL.out]; exact hj))
      have HA := Lib.hid hany
      clear hany
      by_cases h2 : k ≤ 4
      · have d2 : decide (4 < (k : Int)) = false := decide_eq_false (by omega)
        have hT := lt_yes (lum := lum) (xs := xs) (n := k) (by unfold ltOk; rw [h1, HA.out, decide_eq_true h2]; rfl)
        have HT := Lib.hid hT
        clear hT
        go_wp2_with fail
        go_loop [7, 8, 9] (fun x y z => ∃ j : Nat, j ≤ k ∧ x = .int .i64 (pN lum xs j) ∧ y = .int .i64 (pD j) ∧ z = .int .i64 j) (fun _ _ z => (k - (intOf z).toNat))
        case atStart => exact ⟨0, by omega, rfl, rfl, rfl⟩
        case round =>
          obtain ⟨j, hj, rfl, rfl, rfl⟩ := hrel
          have hpn := pN_bd (xs := xs) hlum (k := j) (fun i hi => lo_at HA.out (by rw [HL.out]; omega))
          by_cases hlt : j < k
          · obtain ⟨e1, e2, e3⟩ := bd3 (k := j) (by omega)
            obtain ⟨g1, g2⟩ := hpn
            obtain ⟨x1, x2⟩ := lo_at HA.out (k := j) (by rw [HL.out]; exact hlt)
            obtain ⟨b, off, rfl, hbl, hc⟩ := (HW.below hbr).get hlt
            have hq : pN lum xs (j + 1) = pN lum xs j * (1000 - xs.getD j 0) := rfl
            have hq2 : pD (j + 1) = pD j * 1000 := rfl
            have HQ := Lib.hid hq
            have HQ2 := Lib.hid hq2
            clear HW hq hq2
            generalize xs.getD j 0 = x at *
            generalize pN lum xs j = p at *
            generalize pD j = q at *
            obtain ⟨m1, m2⟩ := mul_bd0 (a := p) (b := 1000 - x) (A := 100000000000000) g1 (by omega) (by omega) (by omega)
            go_wp2
            go_round
            case rel => exact ⟨j + 1, by omega, by rw [HQ.out], by rw [HQ2.out], by go_num⟩
            case measure => simp [intOf]; omega
          · have hkk : j = k := by omega
            subst hkk
            obtain ⟨e1, e2, e3⟩ := bd4 h2
            obtain ⟨g1, g2⟩ := hpn
            clear HW
            generalize pN lum xs j = p at *
            generalize pD j = q at *
            go_wp2_with fail
            refine (l02Make_any p q _ ⟨by omega, by omega⟩ ⟨by omega, by omega⟩).mono ?_
            rintro e w2 ⟨rfl, hb2⟩
            obtain ⟨hc2, hf2⟩ := bcell hb2
            have hz2 : w.heap.size < w2.heap.size := by (have h := hb2.size; omega)
            go_wp2
            try simp only [Exit.inBlock, Exit.then]
            refine bodyPost_ret (v := .tuple #[.agg #[.int .i64 (lowNum p q), .int .i64 (lowDen p q)], .int .i64 (0)]) (by simp [results, Try.results30, go_sem, *]) rfl ⟨by rw [HT.out], ?_⟩
            repeat (first | exact Below.refl _ _ | refine bw_drew ?_ | refine bw_drewN ?_ _ | refine bw_set ?_ (by simp; try omega) _ | refine bw_alloc ?_ _ | refine bw_trans ?_ (by assumption) | assumption)
      · have d2 : decide (4 < (k : Int)) = true := decide_eq_true (by omega)
        have hT := lt_no (lum := lum) (xs := xs) (n := k) (by unfold ltOk; rw [decide_eq_false h2]; simp)
        have HT := Lib.hid hT
        clear hT HW
        go_wp2_with fail
        try simp only [Exit.inBlock, Exit.then]
        refine bodyPost_ret (v := .tuple #[.agg #[.int .i64 (0), .int .i64 (0)], .int .i64 (2)]) (by simp [results, Try.results30, go_sem, *]) rfl ⟨by rw [HT.out], ?_⟩
        repeat (first | exact Below.refl _ _ | refine bw_drew ?_ | refine bw_drewN ?_ _ | refine bw_set ?_ (by simp; try omega) _ | refine bw_alloc ?_ _ | refine bw_trans ?_ (by assumption) | assumption)

set_option maxRecDepth 100000 in
set_option maxHeartbeats 1600000 in
theorem law_LightThrough (lum : Int) (a : Option Addr) (l c : Nat) (zs : List Int) (w : World) (H : IsRow .i64 w a l c zs) :
    Calls Try.prog 7 #[.int .i64 lum, .slice a l c] w fun e w' => e = .returned (.bool true) ∧ Below w.heap.size w w' := by
  have hl := H.len
  by_cases hn : l ≤ 1048576
  · have H0 := H.sl
    have hx := H0.length
    obtain ⟨xs, hxs⟩ : ∃ xs, zs.take l = xs := ⟨_, rfl⟩
    rw [hxs] at H0 hx
    clear hxs H
    have HX := Lib.hid hx
    clear hx
    have hni : (l : Int) ≤ 1048576 := by omega
    go_enter Try.func7, Try.ntmps7
    go_wp2_with fail
    refine (toInts_is a l c xs _ H0 hn).mono ?_
    rintro e w' ⟨rfl, rfl⟩
    go_wp2_with fail
    refine (sLightThrough_any lum _ _ _ xs _ (SlI.made HX.out) hn).mono ?_
    rintro e w1 ⟨rfl, hb1⟩
    have hB1 := bw_trans (bw_alloc (Below.refl w.heap.size w) _) hb1
    clear hb1
    go_wp2_with fail
    have hB1' := bw_alloc hB1 (.cells #[.int .i64 (ltT lum xs l).1, .int .i64 (ltT lum xs l).2.1] 46)
    have hk0 : (w1.alloc (.cells #[.int .i64 (ltT lum xs l).1, .int .i64 (ltT lum xs l).2.1] 46)).cell? ⟨w1.heap.size, 0, none⟩ = some (.int .i64 (ltT lum xs l).1) := by go_simp
    have hk1 : (w1.alloc (.cells #[.int .i64 (ltT lum xs l).1, .int .i64 (ltT lum xs l).2.1] 46)).cell? ⟨w1.heap.size, 1, none⟩ = some (.int .i64 (ltT lum xs l).2.1) := by go_simp
    have hz0 : w1.heap.size < (w1.alloc (.cells #[.int .i64 (ltT lum xs l).1, .int .i64 (ltT lum xs l).2.1] 46)).heap.size := by simp
    generalize w1.alloc (.cells #[.int .i64 (ltT lum xs l).1, .int .i64 (ltT lum xs l).2.1] 46) = W1 at *
    clear hB1
    refine (toInts_is a l c xs _ (H0.below hB1') hn).mono ?_
    rintro e w' ⟨rfl, rfl⟩
    go_wp2_with fail
    have HM := SlI.made (w := W1) (t := 2) HX.out
    refine (lightThrough_any lum _ _ _ xs _ HM hn).mono ?_
    rintro e w2 ⟨rfl, hb2⟩
    have hB2 := bw_trans (bw_alloc hB1' _) hb2
    have hB3 := bw_trans (bw_alloc (Below.refl W1.heap.size W1) _) hb2
    have HM2 := HM.below hb2
    have hz : w1.heap.size < w2.heap.size := by (have h := hB3.size; omega)
    have hr0 := cell_of hB3 hk0
    have hr1 := cell_of hB3 hk1
    clear HM hk0 hk1 hB3 hb2 hB1'
    generalize ltT lum xs l = T at *
    obtain ⟨t1, t2, t3⟩ := T
    go_wp2_with fail
    refine (eqFraction_any _ _ _).mono ?_
    rintro e w3 ⟨rfl, hb3⟩
    have hB4 := bw_trans (bw_alloc hB2 _) hb3
    have HM3 := (HM2.below (bw_alloc (Below.refl w2.heap.size w2) _)).below hb3
    clear HM2 hb3
    go_wp2_with fail
    refine (toInts_is a l c xs _ (H0.below hB4) hn).mono ?_
    rintro e w' ⟨rfl, rfl⟩
    go_wp2_with fail
    refine (eqInts_any _ _ _ _ _ xs _ (HM3.below (bw_alloc (Below.refl _ _) _)) (SlI.made HX.out) hn).mono ?_
    rintro e w4 ⟨rfl, hb4⟩
    clear HM3 H0
    go_wp2
    go_ret
    exact ⟨rfl, bw_trans (bw_alloc hB4 _) hb4⟩
  · have hni : 1048576 < (l : Int) := by omega
    clear H
    go_enter Try.func7, Try.ntmps7
    go_wp2
    go_ret
    refine ⟨rfl, ?_⟩
    repeat (first | exact Below.refl _ _ | refine bw_drew ?_ | refine bw_drewN ?_ _ | refine bw_set ?_ (by simp; try omega) _ | refine bw_alloc ?_ _ | refine bw_trans ?_ (by assumption) | assumption)
end Go.Proofs.Ythhilkahfgpncaa
