/-
  BestTick: in the program and in the reference; the law.
-/
import Derived.Test.YtnjndlngkoadfaaPi
namespace Go.Proofs.Ytnjndlngkoadfaa
open Go.RowKit

/-- The best number of ticks among the first k, and its error; 0 and -1 if there is none. -/
def btS (xs : List ScE) (n : Nat) (most : Int) : Nat → Int × Int
  | 0 => (0, -1)
  | k + 1 => if most < pgT xs ((k : Int) + 1) n then btS xs n most k else if (btS xs n most k).2 < 0 ∨ erT xs ((k : Int) + 1) n ≤ (btS xs n most k).2 then ((k : Int) + 1, erT xs ((k : Int) + 1) n) else btS xs n most k
theorem bt_skip {xs : List ScE} {n k : Nat} {most : Int} (h : most < pgT xs ((k : Int) + 1) n) : btS xs n most (k + 1) = btS xs n most k := if_pos h
theorem bt_take {xs : List ScE} {n k : Nat} {most : Int} (h : ¬ most < pgT xs ((k : Int) + 1) n) (h2 : (btS xs n most k).2 < 0 ∨ erT xs ((k : Int) + 1) n ≤ (btS xs n most k).2) : btS xs n most (k + 1) = ((k : Int) + 1, erT xs ((k : Int) + 1) n) := by
  show (if _ then _ else _) = _
  rw [if_neg h, if_pos h2]
theorem bt_keep {xs : List ScE} {n k : Nat} {most : Int} (h : ¬ most < pgT xs ((k : Int) + 1) n) (h2 : ¬ ((btS xs n most k).2 < 0 ∨ erT xs ((k : Int) + 1) n ≤ (btS xs n most k).2)) : btS xs n most (k + 1) = btS xs n most k := by
  show (if _ then _ else _) = _
  rw [if_neg h, if_neg h2]
theorem bt_bd {xs : List ScE} {n k : Nat} {most : Int} (h : tkOk xs n) (hn : n ≤ 12) (hk : k ≤ 100) : ((btS xs n most k).1 = 0 ∧ (btS xs n most k).2 = -1) ∨ (1 ≤ (btS xs n most k).1 ∧ (btS xs n most k).1 ≤ 100 ∧ 0 ≤ (btS xs n most k).2 ∧ (btS xs n most k).2 ≤ 2400000) := by
  induction k with
  | zero => exact .inl ⟨rfl, rfl⟩
  | succ k ih =>
    have ih := ih (by omega)
    by_cases h1 : most < pgT xs ((k : Int) + 1) n
    · rw [bt_skip h1]; exact ih
    by_cases h2 : (btS xs n most k).2 < 0 ∨ erT xs ((k : Int) + 1) n ≤ (btS xs n most k).2
    · rw [bt_take h1 h2]
      have := erT_bd (xs := xs) (each := (k : Int) + 1) (k := n) h ⟨by omega, by omega⟩ (Nat.le_refl _)
      exact .inr ⟨by show (1 : Int) ≤ k + 1; omega, by show (k : Int) + 1 ≤ 100; omega, this.1, by show erT xs ((k : Int) + 1) n ≤ _; omega⟩
    · rw [bt_keep h1 h2]; exact ih
def spYi (p : Int × Int) : Int := p.2
def spYs (p : Int × Int) : Int := if p.1 = 0 then 0 else p.2
noncomputable def btC (xs : List ScE) (n : Nat) (most : Int) : Int := if vsB xs n then (if inB most 1 60 then (if (btS xs n most 100).2 < 0 then 3 else 0) else 2) else 1
noncomputable def btB (xs : List ScE) (n : Nat) (most : Int) : Int := if btC xs n most = 0 then (btS xs n most 100).1 else 0
noncomputable def btL (xs : List ScE) (n : Nat) (most : Int) : Int := if btC xs n most = 0 then (btS xs n most 100).2 else 0
theorem bt_1 {xs : List ScE} {n : Nat} {most : Int} (h : vsB xs n = false) : btC xs n most = 1 ∧ btB xs n most = 0 ∧ btL xs n most = 0 := by
  have : btC xs n most = 1 := by unfold btC; rw [h]; rfl
  unfold btB btL; rw [this]; exact ⟨rfl, rfl, rfl⟩
theorem bt_2 {xs : List ScE} {n : Nat} {most : Int} (h : vsB xs n = true) (h2 : inB most 1 60 = false) : btC xs n most = 2 ∧ btB xs n most = 0 ∧ btL xs n most = 0 := by
  have : btC xs n most = 2 := by unfold btC; rw [h, h2]; rfl
  unfold btB btL; rw [this]; exact ⟨rfl, rfl, rfl⟩
theorem bt_3 {xs : List ScE} {n : Nat} {most : Int} (h : vsB xs n = true) (h2 : inB most 1 60 = true) (h3 : (btS xs n most 100).2 < 0) : btC xs n most = 3 ∧ btB xs n most = 0 ∧ btL xs n most = 0 := by
  have : btC xs n most = 3 := by unfold btC; rw [h, h2]; simp [h3]
  unfold btB btL; rw [this]; exact ⟨rfl, rfl, rfl⟩
theorem bt_0 {xs : List ScE} {n : Nat} {most : Int} (h : vsB xs n = true) (h2 : inB most 1 60 = true) (h3 : ¬ (btS xs n most 100).2 < 0) : btC xs n most = 0 ∧ btB xs n most = (btS xs n most 100).1 ∧ btL xs n most = (btS xs n most 100).2 := by
  have : btC xs n most = 0 := by unfold btC; rw [h, h2]; simp; omega
  unfold btB btL; rw [this]; exact ⟨rfl, rfl, rfl⟩

set_option maxHeartbeats 1600000 in
theorem iBestTick_any (A : Option Addr) (n c : Nat) (xs : List ScE) (most : Int) (w : World) (H : SlSc w A n xs) (hn : n ≤ 1048576) (hz : ∀ k, k < n → (xs.getD k ScE.zero).f0.size ≤ 9223372036854775807) :
    Calls Try.prog 32 #[.slice A n c, .int .i64 most] w fun e w' => e = .returned (.tuple #[.int .i64 (btB xs n most), .int .i64 (btL xs n most), .int .i64 (btC xs n most)]) ∧ Below w.heap.size w w' := by
  have HC := Lib.hid (fun b hb => validScenes_is A n c xs w H hn (b := b) hb hz)
  clear hz
  cases h1 : vsB xs n
  · have HR := Lib.hid (bt_1 (most := most) h1)
    have H1 := Lib.hid h1
    clear h1 H
    go_enter Try.func32, Try.ntmps32
    go_wp2_with fail
    refine (HC.out _ H1.out).mono ?_
    rintro e w1 ⟨rfl, hb1⟩
    go_wp2
    go_ret3
    exact ⟨by rw [HR.out.1, HR.out.2.1, HR.out.2.2]; rfl, hb1⟩
  cases h2 : inB most 1 60
  · have HR := Lib.hid (bt_2 h1 h2)
    have H1 := Lib.hid h1
    clear h1 H
    go_enter Try.func32, Try.ntmps32
    go_wp2_with fail
    refine (HC.out _ H1.out).mono ?_
    rintro e w1 ⟨rfl, hb1⟩
    go_wp2_with (go_at_call 39; refine (within_is h2 _).mono ?_; rintro e w1 ⟨rfl, rfl⟩)
    go_ret3
    exact ⟨by rw [HR.out.1, HR.out.2.1, HR.out.2.2]; rfl, hb1⟩
  obtain ⟨hok, n1, n2⟩ := vs_of h1
  have HT := Lib.hid (tk_of hok)
  have R3 := Lib.hid (@bt_3 xs n most h1 h2)
  have R0 := Lib.hid (@bt_0 xs n most h1 h2)
  have H1 := Lib.hid h1
  clear h1 hok
  go_enter Try.func32, Try.ntmps32
  go_wp2_with fail
  refine (HC.out _ H1.out).mono ?_
  rintro e w1 ⟨rfl, hb1⟩
  clear HC H1
  go_wp2_with (go_at_call 39; refine (within_is h2 _).mono ?_; rintro e w1 ⟨rfl, rfl⟩)
  go_loopw [7, 8, 9] (fun x y z wr => ∃ (k : Nat) (Y : Int), k ≤ 100 ∧ x = .int .i64 (btS xs n most k).1 ∧ y = .int .i64 Y ∧ Hid (Y = spYi (btS xs n most k)) ∧ z = .int .i64 ((k : Int) + 1) ∧ Below w.heap.size w wr) (fun _ _ z _ => (101 - (intOf z).toNat))
  case atStart => exact ⟨0, _, by omega, rfl, rfl, rfl, rfl, hb1⟩
  case round =>
    obtain ⟨k, Y, hk, rfl, rfl, HY, rfl, hbr⟩ := hrel
    have hbd := bt_bd (most := most) HT.out n2 hk
    have HSK := Lib.hid (@bt_skip xs n k most)
    have HTK := Lib.hid (@bt_take xs n k most)
    have HKP := Lib.hid (@bt_keep xs n k most)
    have HK := Lib.hid (show k = 100 → btS xs n most 100 = btS xs n most k from fun h => by rw [h])
    generalize hS : btS xs n most k = S at *
    obtain ⟨B, L⟩ := S
    have HS0 := Lib.hid hS
    clear hS
    simp only at hbd
    rcases hbd with hbd | hbd
    · obtain ⟨rfl, rfl⟩ := hbd
      obtain rfl : Y = -1 := by rw [HY.out]; rfl
      by_cases hlt : k < 100
      · have hi : ((k : Int) + 1) ≤ 100 := by omega
        clear HK
        go_wp2_with fail
        refine (pagesOf_any A n c xs _ _ (H.below hbr) n2 HT.out ⟨by omega, by omega⟩).mono ?_
        rintro e w2 ⟨A', c', rfl, HS, hb2⟩
        have HL := pgL_len xs ((k : Int) + 1) n
        rw [HL] at HS
        rw [HL]
        clear HL
        go_wp2_with fail
        refine (sumOf_any A' n n c' xs _ _ rfl HS n2 HT.out ⟨by omega, by omega⟩).mono ?_
        rintro e w3 ⟨rfl, hb3⟩
        have hbs := bw_trans (bw_trans hbr hb2) hb3
        clear HS hb2 hb3
        by_cases hmo : most < pgT xs ((k : Int) + 1) n
        · have HE := Lib.hid (HSK.out hmo)
          clear HSK HTK HKP H
          generalize pgT xs ((k : Int) + 1) n = P at *
          go_wp2
          go_roundw
          case rel => exact ⟨k + 1, _, by omega, by rw [HE.out], rfl, by rw [HE.out]; rfl, by go_num, hbs⟩
          case measure => simp [intOf]; omega
        have hmo' : pgT xs ((k : Int) + 1) n ≤ most := by omega
        go_wp2_with fail
        refine (errorOf_any A n c xs _ _ (H.below hbs) n2 HT.out ⟨by omega, by omega⟩).mono ?_
        rintro e w4 ⟨rfl, hb4⟩
        have hbt := bw_trans hbs hb4
        clear H hb4
        have HTK2 := Lib.hid (HTK.out (by omega))
        have HKP2 := Lib.hid (HKP.out (by omega))
        clear HSK HTK HKP
        have e1 := erT_bd (xs := xs) (each := (k : Int) + 1) (k := n) HT.out ⟨by omega, by omega⟩ (Nat.le_refl _)
        generalize erT xs ((k : Int) + 1) n = E at *
        have HE := Lib.hid (HTK2.out (by simp))
        clear HTK2 HKP2 HS0
        go_wp2
        skip
        go_roundw
        case rel => exact ⟨k + 1, _, by omega, by rw [HE.out], rfl, by rw [HE.out]; rfl, by go_num, hbt⟩
        case measure => simp [intOf]; omega
      · have hkk : k = 100 := by omega
        have HQ := Lib.hid (HK.out hkk)
        clear H HSK HTK HKP HK HS0 hkk
        have HR := Lib.hid (R3.out (by rw [HQ.out]; simp))
        go_wp2
        go_ret3
        exact ⟨by rw [HR.out.1, HR.out.2.1, HR.out.2.2]; rfl, hbr⟩
    · obtain ⟨b1, b2, l1, l2⟩ := hbd
      obtain rfl : L = Y := by rw [HY.out]; rfl
      by_cases hlt : k < 100
      · have hi : ((k : Int) + 1) ≤ 100 := by omega
        clear HK
        go_wp2_with fail
        refine (pagesOf_any A n c xs _ _ (H.below hbr) n2 HT.out ⟨by omega, by omega⟩).mono ?_
        rintro e w2 ⟨A', c', rfl, HS, hb2⟩
        have HL := pgL_len xs ((k : Int) + 1) n
        rw [HL] at HS
        rw [HL]
        clear HL
        go_wp2_with fail
        refine (sumOf_any A' n n c' xs _ _ rfl HS n2 HT.out ⟨by omega, by omega⟩).mono ?_
        rintro e w3 ⟨rfl, hb3⟩
        have hbs := bw_trans (bw_trans hbr hb2) hb3
        clear HS hb2 hb3
        by_cases hmo : most < pgT xs ((k : Int) + 1) n
        · have HE := Lib.hid (HSK.out hmo)
          clear HSK HTK HKP H
          generalize pgT xs ((k : Int) + 1) n = P at *
          go_wp2
          go_roundw
          case rel => exact ⟨k + 1, _, by omega, by rw [HE.out], rfl, by rw [HE.out]; rfl, by go_num, hbs⟩
          case measure => simp [intOf]; omega
        have hmo' : pgT xs ((k : Int) + 1) n ≤ most := by omega
        go_wp2_with fail
        refine (errorOf_any A n c xs _ _ (H.below hbs) n2 HT.out ⟨by omega, by omega⟩).mono ?_
        rintro e w4 ⟨rfl, hb4⟩
        have hbt := bw_trans hbs hb4
        clear H hb4
        have HTK2 := Lib.hid (HTK.out (by omega))
        have HKP2 := Lib.hid (HKP.out (by omega))
        clear HSK HTK HKP
        have e1 := erT_bd (xs := xs) (each := (k : Int) + 1) (k := n) HT.out ⟨by omega, by omega⟩ (Nat.le_refl _)
        generalize erT xs ((k : Int) + 1) n = E at *
        by_cases hle : E ≤ L
        · have HE := Lib.hid (HTK2.out (by first | omega | (simp only; omega)))
          clear HTK2 HKP2 HS0
          go_wp2
          skip
          go_roundw
          case rel => exact ⟨k + 1, _, by omega, by rw [HE.out], rfl, by rw [HE.out]; rfl, by go_num, hbt⟩
          case measure => simp [intOf]; omega
        · have HE := Lib.hid (HKP2.out (by first | omega | (simp only; omega)))
          clear HTK2 HKP2 HS0
          go_wp2
          skip
          go_roundw
          case rel => exact ⟨k + 1, _, by omega, by rw [HE.out], rfl, by rw [HE.out]; rfl, by go_num, hbt⟩
          case measure => simp [intOf]; omega
      · have hkk : k = 100 := by omega
        have HQ := Lib.hid (HK.out hkk)
        clear H HSK HTK HKP HK HS0 hkk
        have HR := Lib.hid (R0.out (by rw [HQ.out]; simp only; omega))
        go_wp2
        go_ret3
        exact ⟨by rw [HR.out.1, HR.out.2.1, HR.out.2.2, HQ.out]; rfl, hbr⟩

set_option maxHeartbeats 1600000 in
theorem sBestTick_any (A : Option Addr) (n c : Nat) (xs : List ScE) (most : Int) (w : World) (H : SlSc w A n xs) (hn : n ≤ 1048576) (hz : ∀ k, k < n → (xs.getD k ScE.zero).f0.size ≤ 9223372036854775807) :
    Calls Try.prog 31 #[.slice A n c, .int .i64 most] w fun e w' => e = .returned (.tuple #[.int .i64 (btB xs n most), .int .i64 (btL xs n most), .int .i64 (btC xs n most)]) ∧ Below w.heap.size w w' := by
  have HC := Lib.hid (fun b hb => l08Ok_is A n c xs w H hn (b := b) hb hz)
  clear hz
  cases h1 : vsB xs n
  · have HR := Lib.hid (bt_1 (most := most) h1)
    have H1 := Lib.hid h1
    clear h1 H
    go_enter Try.func31, Try.ntmps31
    go_wp2_with fail
    refine (HC.out _ H1.out).mono ?_
    rintro e w1 ⟨rfl, hb1⟩
    go_wp2
    go_ret3
    exact ⟨by rw [HR.out.1, HR.out.2.1, HR.out.2.2]; rfl, hb1⟩
  cases h2 : inB most 1 60
  · have HR := Lib.hid (bt_2 h1 h2)
    have H1 := Lib.hid h1
    clear h1 H
    go_enter Try.func31, Try.ntmps31
    go_wp2_with fail
    refine (HC.out _ H1.out).mono ?_
    rintro e w1 ⟨rfl, hb1⟩
    go_wp2_with (go_at_call 37; refine (l00In_is h2 _).mono ?_; rintro e w1 ⟨rfl, rfl⟩)
    go_ret3
    exact ⟨by rw [HR.out.1, HR.out.2.1, HR.out.2.2]; rfl, hb1⟩
  obtain ⟨hok, n1, n2⟩ := vs_of h1
  have HT := Lib.hid (tk_of hok)
  have R3 := Lib.hid (@bt_3 xs n most h1 h2)
  have R0 := Lib.hid (@bt_0 xs n most h1 h2)
  have H1 := Lib.hid h1
  clear h1 hok
  go_enter Try.func31, Try.ntmps31
  go_wp2_with fail
  refine (HC.out _ H1.out).mono ?_
  rintro e w1 ⟨rfl, hb1⟩
  clear HC H1
  go_wp2_with (go_at_call 37; refine (l00In_is h2 _).mono ?_; rintro e w1 ⟨rfl, rfl⟩)
  go_loopw [7, 8, 9] (fun x y z wr => ∃ (k : Nat) (Y : Int), k ≤ 100 ∧ x = .int .i64 (btS xs n most k).1 ∧ y = .int .i64 Y ∧ Hid (Y = spYs (btS xs n most k)) ∧ z = .int .i64 ((k : Int) + 1) ∧ Below w.heap.size w wr) (fun _ _ z _ => (101 - (intOf z).toNat))
  case atStart => exact ⟨0, _, by omega, rfl, rfl, rfl, rfl, hb1⟩
  case round =>
    obtain ⟨k, Y, hk, rfl, rfl, HY, rfl, hbr⟩ := hrel
    have hbd := bt_bd (most := most) HT.out n2 hk
    have HSK := Lib.hid (@bt_skip xs n k most)
    have HTK := Lib.hid (@bt_take xs n k most)
    have HKP := Lib.hid (@bt_keep xs n k most)
    have HK := Lib.hid (show k = 100 → btS xs n most 100 = btS xs n most k from fun h => by rw [h])
    generalize hS : btS xs n most k = S at *
    obtain ⟨B, L⟩ := S
    have HS0 := Lib.hid hS
    clear hS
    simp only at hbd
    rcases hbd with hbd | hbd
    · obtain ⟨rfl, rfl⟩ := hbd
      obtain rfl : Y = 0 := by rw [HY.out]; rfl
      by_cases hlt : k < 100
      · have hi : ((k : Int) + 1) ≤ 100 := by omega
        clear HK
        go_wp2_with fail
        refine (l08Many_any A n c xs _ _ (H.below hbr) n2 HT.out ⟨by omega, by omega⟩).mono ?_
        rintro e w3 ⟨rfl, hb3⟩
        have hbs := bw_trans hbr hb3
        clear hb3
        by_cases hmo : most < pgT xs ((k : Int) + 1) n
        · have HE := Lib.hid (HSK.out hmo)
          clear HSK HTK HKP H
          generalize pgT xs ((k : Int) + 1) n = P at *
          go_wp2
          go_roundw
          case rel => exact ⟨k + 1, _, by omega, by rw [HE.out], rfl, by rw [HE.out]; rfl, by go_num, hbs⟩
          case measure => simp [intOf]; omega
        have hmo' : pgT xs ((k : Int) + 1) n ≤ most := by omega
        go_wp2_with fail
        refine (l08Error_any A n c xs _ _ (H.below hbs) n2 HT.out ⟨by omega, by omega⟩).mono ?_
        rintro e w4 ⟨rfl, hb4⟩
        have hbt := bw_trans hbs hb4
        clear H hb4
        have HTK2 := Lib.hid (HTK.out (by omega))
        have HKP2 := Lib.hid (HKP.out (by omega))
        clear HSK HTK HKP
        have e1 := erT_bd (xs := xs) (each := (k : Int) + 1) (k := n) HT.out ⟨by omega, by omega⟩ (Nat.le_refl _)
        generalize erT xs ((k : Int) + 1) n = E at *
        have HE := Lib.hid (HTK2.out (by simp))
        clear HTK2 HKP2 HS0
        go_wp2
        skip
        go_roundw
        case rel => exact ⟨k + 1, _, by omega, by rw [HE.out], rfl, by rw [HE.out]; exact (if_neg (by first | omega | (simp only; omega))).symm, by go_num, hbt⟩
        case measure => simp [intOf]; omega
      · have hkk : k = 100 := by omega
        have HQ := Lib.hid (HK.out hkk)
        clear H HSK HTK HKP HK HS0 hkk
        have HR := Lib.hid (R3.out (by rw [HQ.out]; simp))
        go_wp2
        go_ret3
        exact ⟨by rw [HR.out.1, HR.out.2.1, HR.out.2.2]; rfl, hbr⟩
    · obtain ⟨b1, b2, l1, l2⟩ := hbd
      obtain rfl : L = Y := by rw [HY.out]; exact (if_neg (by omega)).symm
      have hB0 : (B == 0) = false := by simp; omega
      by_cases hlt : k < 100
      · have hi : ((k : Int) + 1) ≤ 100 := by omega
        clear HK
        go_wp2_with fail
        refine (l08Many_any A n c xs _ _ (H.below hbr) n2 HT.out ⟨by omega, by omega⟩).mono ?_
        rintro e w3 ⟨rfl, hb3⟩
        have hbs := bw_trans hbr hb3
        clear hb3
        by_cases hmo : most < pgT xs ((k : Int) + 1) n
        · have HE := Lib.hid (HSK.out hmo)
          clear HSK HTK HKP H
          generalize pgT xs ((k : Int) + 1) n = P at *
          go_wp2
          go_roundw
          case rel => exact ⟨k + 1, _, by omega, by rw [HE.out], rfl, by rw [HE.out]; exact (if_neg (by first | omega | (simp only; omega))).symm, by go_num, hbs⟩
          case measure => simp [intOf]; omega
        have hmo' : pgT xs ((k : Int) + 1) n ≤ most := by omega
        go_wp2_with fail
        refine (l08Error_any A n c xs _ _ (H.below hbs) n2 HT.out ⟨by omega, by omega⟩).mono ?_
        rintro e w4 ⟨rfl, hb4⟩
        have hbt := bw_trans hbs hb4
        clear H hb4
        have HTK2 := Lib.hid (HTK.out (by omega))
        have HKP2 := Lib.hid (HKP.out (by omega))
        clear HSK HTK HKP
        have e1 := erT_bd (xs := xs) (each := (k : Int) + 1) (k := n) HT.out ⟨by omega, by omega⟩ (Nat.le_refl _)
        generalize erT xs ((k : Int) + 1) n = E at *
        by_cases hle : E ≤ L
        · have HE := Lib.hid (HTK2.out (by first | omega | (simp only; omega)))
          clear HTK2 HKP2 HS0
          go_wp2
          skip
          go_roundw
          case rel => exact ⟨k + 1, _, by omega, by rw [HE.out], rfl, by rw [HE.out]; exact (if_neg (by first | omega | (simp only; omega))).symm, by go_num, hbt⟩
          case measure => simp [intOf]; omega
        · have HE := Lib.hid (HKP2.out (by first | omega | (simp only; omega)))
          clear HTK2 HKP2 HS0
          go_wp2
          skip
          go_roundw
          case rel => exact ⟨k + 1, _, by omega, by rw [HE.out], rfl, by rw [HE.out]; exact (if_neg (by first | omega | (simp only; omega))).symm, by go_num, hbt⟩
          case measure => simp [intOf]; omega
      · have hkk : k = 100 := by omega
        have HQ := Lib.hid (HK.out hkk)
        clear H HSK HTK HKP HK HS0 hkk
        have HR := Lib.hid (R0.out (by rw [HQ.out]; simp only; omega))
        go_wp2
        go_ret3
        exact ⟨by rw [HR.out.1, HR.out.2.1, HR.out.2.2, HQ.out]; rfl, hbr⟩

set_option maxRecDepth 100000 in
set_option maxHeartbeats 800000 in
theorem law_BestTick (a : Option Addr) (l c : Nat) (xs : List ScE) (most : Int) (w : World) (hm : l ≤ 9223372036854775807) (H0 : SlSc w a l xs) (hz : ∀ k, k < l → (xs.getD k ScE.zero).f0.size ≤ 9223372036854775807) :
    Calls Try.prog 10 #[.slice a l c, .int .i64 most] w fun e w' => e = .returned (.bool true) ∧ Below w.heap.size w w' := by
  by_cases hn : l ≤ 1048576
  · have HZ := Lib.hid hz
    have hsz := Scsz_any a l c xs w H0 hn hz
    clear hz
    by_cases hneg : szR xs l < 0
    · generalize szR xs l = r at *
      clear H0
      go_enter Try.func10, Try.ntmps10
      go_wp2_with fail
      refine hsz.mono ?_
      rintro e w0 ⟨rfl, hB0⟩
      go_wp2
      go_ret
      exact ⟨rfl, hB0⟩
    generalize szR xs l = r at *
    go_enter Try.func10, Try.ntmps10
    go_wp2_with fail
    refine hsz.mono ?_
    rintro e w0 ⟨rfl, hB0⟩
    go_wp2_with fail
    refine (SctoS_any a l c xs _ (H0.below hB0) hn).mono ?_
    rintro e w1 ⟨rfl, HS, hb1⟩
    have hB1 := bw_trans hB0 hb1
    clear hb1
    go_wp2_with fail
    refine (sBestTick_any  _ _ _ xs most _ HS hn HZ.out).mono ?_
    rintro e w2 ⟨rfl, hb2⟩
    have hB2 := bw_trans hB1 hb2
    clear hb2 HS
    go_wp2_with fail
    refine (SctoS_any a l c xs _ (H0.below hB2) hn).mono ?_
    rintro e w3 ⟨rfl, HM, hb3⟩
    have hB3 := bw_trans hB2 hb3
    clear hb3
    go_wp2_with fail
    refine (iBestTick_any  _ _ _ xs most _ HM hn HZ.out).mono ?_
    rintro e w4 ⟨rfl, hb4⟩
    have hB4 := bw_trans hB3 hb4
    have HM4 := HM.below hb4
    clear hb4 HM
    go_wp2_with fail
    refine (SctoS_any a l c xs _ (H0.below hB4) hn).mono ?_
    rintro e w5 ⟨rfl, HQ, hb5⟩
    have HM5 := HM4.below hb5
    have hB5 := bw_trans hB4 hb5
    clear hb5 HM4
    go_wp2_with fail
    refine (SceqS_any _ _ _ _ _ xs _ HM5 HQ hn).mono ?_
    rintro e w6 ⟨rfl, hb6⟩
    clear HM5 HQ H0
    go_wp2
    go_ret
    exact ⟨rfl, bw_trans hB5 hb6⟩
  · clear H0 hz
    go_enter Try.func10, Try.ntmps10
    go_wp2_with fail
    refine (ScszNo_any a l c _ hm hn).mono ?_
    rintro e w0 ⟨rfl, hB0⟩
    go_wp2
    go_ret
    exact ⟨rfl, hB0⟩
end Go.Proofs.Ytnjndlngkoadfaa
