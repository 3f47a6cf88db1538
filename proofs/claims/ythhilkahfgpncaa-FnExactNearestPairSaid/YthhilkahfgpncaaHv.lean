/-
  The nearest pair of lenses: in the program; the law.
-/
import Derived.Test.YthhilkahfgpncaaHu
import Derived.Deep.RegionHeld3
import Derived.Deep.CutRange
import Derived.IntWalk
import Derived.Test.YthhilkahfgpncaaRowE
import Derived.Test.YthhilkahfgpncaaMk
namespace Go.Proofs.Ythhilkahfgpncaa
open Go.RowKit

theorem joinLenses_any (a b : Int) (w : World) (ha : 1 ≤ a ∧ a ≤ 2000) (hb : 1 ≤ b ∧ b ≤ 2000) :
    Calls Try.prog 75 #[.int .i64 a, .int .i64 b] w fun e w' => e = .returned (.agg #[.int .i64 (lowNum (a * b) (a + b)), .int .i64 (lowDen (a * b) (a + b))]) ∧ Below w.heap.size w w' := by
  obtain ⟨m1, m2⟩ := mulB (a := a) (b := b) (A := 2000) (B := 2000) (by omega) (by omega) (by omega) (by omega)
  obtain ⟨a1, a2⟩ := ha
  obtain ⟨b1, b2⟩ := hb
  go_enter Try.func75, Try.ntmps75
  go_wp2_with ((go_at_call 73; refine (lowest_any _ _ _ ⟨by omega, by omega⟩ ⟨by omega, by omega⟩).mono ?_; rintro e w1 ⟨rfl, hb1⟩; obtain ⟨hc1, hf1⟩ := bcell hb1; try (have hz1 : w.heap.size < w1.heap.size := by (have h := hb1.size; (try simp at h); omega)); try (have hy1 : w.heap.size + 1 < w1.heap.size := by (have h := hb1.size; (try simp at h); omega)); try (have hx1 : w.heap.size + 1 + 1 < w1.heap.size := by (have h := hb1.size; (try simp at h); omega)); try (have hv1 : w.heap.size + 1 + 1 + 1 < w1.heap.size := by (have h := hb1.size; (try simp at h); omega)); try (have hp1 : w.heap.size ≤ w1.heap.size := by omega)))
  refine bodyPost_ret (v := .agg #[.int .i64 (lowNum (a * b) (a + b)), .int .i64 (lowDen (a * b) (a + b))]) (by simp [results, Try.results75, go_sem, *]) rfl ⟨rfl, ?_⟩
  repeat (first | exact Below.refl _ _ | refine bw_drew ?_ | refine bw_drewN ?_ _ | refine bw_set ?_ (by simp; try omega) _ | refine bw_alloc ?_ _ | refine bw_trans ?_ (by assumption) | assumption)
theorem low_bd2 {a b wd : Int} (ha : 1 ≤ a ∧ a ≤ 2000) (hb : 1 ≤ b ∧ b ≤ 2000) (hw : 1 ≤ wd ∧ wd ≤ 2000) : (0 ≤ lowNum (a * b) (a + b) ∧ lowNum (a * b) (a + b) ≤ 4000000) ∧ (1 ≤ lowDen (a * b) (a + b) ∧ lowDen (a * b) (a + b) ≤ 4000) ∧ (0 ≤ wd * lowDen (a * b) (a + b) ∧ wd * lowDen (a * b) (a + b) ≤ 8000000) := by
  obtain ⟨m1, m2⟩ := mulB (a := a) (b := b) (A := 2000) (B := 2000) (by omega) (by omega) (by omega) (by omega)
  have h1 := lowNum_bd (n := a * b) (d := a + b) (B := 4000000) (by omega) (by omega)
  have h2 := lowNum_nonneg (n := a * b) (d := a + b) m1
  have h3 := lowDen_pos (n := a * b) (d := a + b) (by omega)
  have h4 := lowDen_le (n := a * b) (d := a + b) (by omega)
  obtain ⟨q1, q2⟩ := mulB (a := wd) (b := lowDen (a * b) (a + b)) (A := 2000) (B := 4000) (by omega) (by omega) (by omega) (by omega)
  omega
/-- The program's best fraction behind some rounds: -1 and 0 ahead of the first one. -/
def bN (xs : List Int) (wd : Int) (i j : Nat) (s : Nat × Nat) : Int := if i = 0 ∧ j = 0 then -1 else onP xs wd s
def bD (xs : List Int) (i j : Nat) (s : Nat × Nat) : Int := if i = 0 ∧ j = 0 then 0 else odP xs s
def bX (i j : Nat) (s : Nat × Nat) : Int := if i = 0 ∧ j = 0 then 0 else (s.1 : Int)
def bY (i j : Nat) (s : Nat × Nat) : Int := if i = 0 ∧ j = 0 then 0 else (s.2 : Int)

set_option maxRecDepth 100000 in
set_option maxHeartbeats 6400000 in
theorem iNearestPair_any (A : Option Addr) (n c : Nat) (xs : List Int) (wd : Int) (w : World) (H : SlI w A n xs) (hn : n ≤ 1048576) :
    Calls Try.prog 34 #[.slice A n c, .int .i64 wd] w fun e w' => e = .returned (.tuple #[.int .i64 (npR xs n wd).1, .int .i64 (npR xs n wd).2.1, .int .i64 (npR xs n wd).2.2]) ∧ Below w.heap.size w w' := by
  rcases li_two xs n wd with ⟨h1, h2⟩ | ⟨h1, h2, h3, h4⟩ | ⟨h1, h2, h3, n2, n12⟩
  · rw [np_no (by rw [h1]; decide), h1]
    cases hk : lkB xs n 12
    · clear h1 h2
      go_enter Try.func34, Try.ntmps34
      go_wp2_with fail
      refine (lensesOk_is A n c xs _ _ H hn hk).mono ?_
      rintro e w1 ⟨rfl, hb1⟩
      go_wp2
      go_ret3
      exact ⟨rfl, hb1⟩
    · have hf : isFo wd = false := by rw [hk] at h2; simpa using h2
      clear h1 h2
      go_enter Try.func34, Try.ntmps34
      go_wp2_with fail
      refine (lensesOk_is A n c xs _ _ H hn hk).mono ?_
      rintro e w1 ⟨rfl, hb1⟩
      go_wp2_with (go_at_call 66; refine (isFocal_is hf _).mono ?_; rintro e w1 ⟨rfl, rfl⟩)
      go_ret3
      exact ⟨rfl, hb1⟩
  · rw [np_no (by rw [h1]; decide), h1]
    have hlt : (n : Int) < 2 := by omega
    clear h1
    go_enter Try.func34, Try.ntmps34
    go_wp2_with fail
    refine (lensesOk_is A n c xs _ _ H hn h2).mono ?_
    rintro e w1 ⟨rfl, hb1⟩
    clear h2 H
    go_wp2_with (go_at_call 66; refine (isFocal_is h3 _).mono ?_; rintro e w1 ⟨rfl, rfl⟩)
    go_ret3
    exact ⟨rfl, hb1⟩
  rw [np_yes h1]
  have hfo : foAll xs := fun _ hk => allFo_at (lk_len h2).2 hk
  obtain ⟨d1, d2⟩ := isFo_true.1 h3
  have HF := Lib.hid hfo
  have HL := Lib.hid H.length
  have HLK := Lib.hid h2
  have HFW := Lib.hid h3
  have hlt : ¬ (n : Int) < 2 := by omega
  clear h1 h2 h3 hfo
  go_enter Try.func34, Try.ntmps34
  go_wp2_with fail
  refine (lensesOk_is A n c xs _ _ H hn HLK.out).mono ?_
  rintro e w1 ⟨rfl, hb1⟩
  have hs1 := hb1.size
  go_wp2_with (go_at_call 66; refine (isFocal_is HFW.out _).mono ?_; rintro e w1 ⟨rfl, rfl⟩)
  go_loopg [8, 9, 30] n (fun gh x y z wr => ∃ i : Nat, i ≤ n ∧ gh = n - i ∧ x = .int .i64 (bX i 0 (ouT xs wd n i)) ∧ y = .int .i64 (bY i 0 (ouT xs wd n i)) ∧ z = .int .i64 i ∧
    wr.cell? ⟨w1.heap.size, 0, none⟩ = some (.int .i64 (bN xs wd i 0 (ouT xs wd n i))) ∧ wr.cell? ⟨w1.heap.size, 1, none⟩ = some (.int .i64 (bD xs i 0 (ouT xs wd n i))) ∧ (∀ j, wr.frozen? ⟨w1.heap.size, j, none⟩ = false) ∧ w1.heap.size < wr.heap.size ∧ Below w.heap.size w wr)
  case atStart => exact ⟨0, by omega, by omega, rfl, rfl, rfl, by go_simp; rfl, by go_simp; rfl, (by intro j; go_simp), by simp, bw_alloc hb1 _⟩
  case round =>
    obtain ⟨i, hi, rfl, rfl, rfl, rfl, hcN, hcD, hfr, hgw, hbr⟩ := hrel
    have hst := ou_lt (xs := xs) (wd := wd) n2 hi
    by_cases hlt : i < n
    · obtain ⟨wo, rfl⟩ : ∃ wo : World, wo = wr := ⟨_, rfl⟩
      have HO := Lib.hid (show ouT xs wd n (i + 1) = inT xs wd i (n - (i + 1)) (ouT xs wd n i) from rfl)
      have HS0 := Lib.hid (show i = 0 → ouT xs wd n i = (0, 1) from fun h => by rw [h]; rfl)
      generalize ouT xs wd n i = S0 at *
      have HII := Lib.hid (show (i : Int) + 1 = ((i + 1 + 0 : Nat) : Int) by simp)
      have HCN := Lib.hid hcN
      have HCD := Lib.hid hcD
      clear hcN hcD
      obtain ⟨X0, hX0⟩ : ∃ X0, bX i 0 S0 = X0 := ⟨_, rfl⟩
      obtain ⟨Y0, hY0⟩ : ∃ Y0, bY i 0 S0 = Y0 := ⟨_, rfl⟩
      have HX0 := Lib.hid hX0
      have HY0 := Lib.hid hY0
      rw [hX0, hY0]
      clear hX0 hY0
      go_wp2_with fail
      go_loopg [8, 9, 11] (n - (i + 1)) (fun gi x y z wq => ∃ j : Nat, i + 1 + j ≤ n ∧ gi = n - (i + 1) - j ∧ x = .int .i64 (bX i j (inT xs wd i j S0)) ∧ y = .int .i64 (bY i j (inT xs wd i j S0)) ∧ z = .int .i64 ((i + 1 + j : Nat) : Int) ∧
        wq.cell? ⟨w1.heap.size, 0, none⟩ = some (.int .i64 (bN xs wd i j (inT xs wd i j S0))) ∧ wq.cell? ⟨w1.heap.size, 1, none⟩ = some (.int .i64 (bD xs i j (inT xs wd i j S0))) ∧ (∀ j, wq.frozen? ⟨w1.heap.size, j, none⟩ = false) ∧ w1.heap.size < wq.heap.size ∧ Below w.heap.size w wq)
      case atStart => exact ⟨0, by omega, by omega, by rw [← HX0.out]; rfl, by rw [← HY0.out]; rfl, by rw [← HII.out], HCN.out, HCD.out, hfr, hgw, hbr⟩
      case round =>
        obtain ⟨j, hj, rfl, rfl, rfl, rfl, hcN, hcD, hfr2, hgw2, hbq⟩ := hrel
        clear hfr hgw
        have hs := in_lt (xs := xs) (wd := wd) (i := i) hst hj
        have HY := Lib.hid (@in_yes xs wd i j S0)
        have HN := Lib.hid (@in_no xs wd i j S0)
        have HE := Lib.hid (show i + 1 + j = n → inT xs wd i (n - (i + 1)) S0 = inT xs wd i j S0 from fun h => by rw [show n - (i + 1) = j by omega])
        have HZ := Lib.hid (show i = 0 → j = 0 → inT xs wd i j S0 = (0, 1) from fun h1 h2 => by rw [h2]; exact HS0.out h1)
        generalize inT xs wd i j S0 = S at *
        by_cases hjn : i + 1 + j < n
        · obtain ⟨K, hK⟩ : ∃ K, i + 1 + j = K := ⟨_, rfl⟩
          rw [hK] at hjn HY HN
          have HKE := Lib.hid hK
          rw [hK]
          obtain ⟨b, off, rfl, hbl, hc0⟩ := (H.below hbq).get (k := i) (by omega)
          have hc1 := (H.below hbq).cell (j := K) hjn
          obtain ⟨f1, f2⟩ := fo2 HF.out (p := (i, K)) HL.out ⟨hlt, hjn⟩
          obtain ⟨f3, f4⟩ := fo2 HF.out (p := S) HL.out hs
          have l1 := low_bd2 f1 f2 ⟨d1, d2⟩
          have l2 := low_bd2 f3 f4 ⟨d1, d2⟩
          have CJ := Lib.hid (fun W => joinLenses_any _ _ W f1 f2)
          have i0 : (i : Int) < (n : Int) := by omega
          have i1 : (K : Int) < (n : Int) := by omega
          have hp : 1 ≤ ddP xs (i, K) := by unfold ddP; omega
          have hq : 1 ≤ ddP xs S := by unfold ddP; omega
          have hB : (onP xs wd (i, K) * odP xs S < onP xs wd S * odP xs (i, K)) ↔ lsP xs wd (i, K) S = true := by
            unfold lsP; rw [decide_eq_true_iff]; exact on_ls hp hq
          have HB := Lib.hid hB
          have p1 : 0 ≤ onP xs wd S ∧ onP xs wd S ≤ 12000000 := by unfold onP ddP; omega
          have p2 : 1 ≤ odP xs S ∧ odP xs S ≤ 4000 := l2.2.1
          have p3 : 0 ≤ onP xs wd (i, K) ∧ onP xs wd (i, K) ≤ 12000000 := by unfold onP ddP; simp only; simp only at l1; omega
          have HON := Lib.hid (show ((lowNum (xs.getD i 0 * xs.getD K 0) (xs.getD i 0 + xs.getD K 0) - wd * lowDen (xs.getD i 0 * xs.getD K 0) (xs.getD i 0 + xs.getD K 0)).natAbs : Int) = onP xs wd (i, K) from rfl)
          have HOD := Lib.hid (show lowDen (xs.getD i 0 * xs.getD K 0) (xs.getD i 0 + xs.getD K 0) = odP xs (i, K) from rfl)
          have p4 : 0 ≤ odP xs (i, K) ∧ odP xs (i, K) ≤ 4000 := ⟨Int.le_trans (show (0 : Int) ≤ 1 by decide) l1.2.1.1, l1.2.1.2⟩
          simp only at l1 CJ
          clear H hB hK hp hq f1 f2 f3 f4 l2 HL HF
          generalize xs.getD i 0 = u1 at *
          generalize xs.getD K 0 = u2 at *
          generalize lowNum (u1 * u2) (u1 + u2) = N1 at *
          generalize lowDen (u1 * u2) (u1 + u2) = D1 at *
          obtain ⟨⟨l1a, l1b⟩, ⟨l1c, l1d⟩, ⟨l1e, l1f⟩⟩ := l1
          obtain ⟨p1a, p1b⟩ := p1
          obtain ⟨p2a, p2b⟩ := p2
          obtain ⟨p3a, p3b⟩ := p3
          obtain ⟨q0a, q0b⟩ := p4
          have HCN := Lib.hid hcN
          have HCD := Lib.hid hcD
          have HFR := Lib.hid hfr2
          clear hcN hcD hfr2
          obtain ⟨X1, hX1⟩ : ∃ X1, bX i j S = X1 := ⟨_, rfl⟩
          obtain ⟨Y1, hY1⟩ : ∃ Y1, bY i j S = Y1 := ⟨_, rfl⟩
          have HX1 := Lib.hid hX1
          have HY1 := Lib.hid hY1
          rw [hX1, hY1]
          clear hX1 hY1 HX0 HY0
          go_wp2_with fail
          obtain ⟨wo, rfl⟩ : ∃ wo : World, wo = wr := ⟨_, rfl⟩
          go_cut [12] from 35 to 78 (fun s12 wx => ∃ g : Nat, s12 = .pointer (some ⟨g, 0, none⟩) ∧ wx.cell? ⟨g, 0, none⟩ = some (.int .i64 N1) ∧ wx.cell? ⟨g, 1, none⟩ = some (.int .i64 D1) ∧ g < wx.heap.size ∧ Below wo.heap.size wo wx)
          case first =>
            go_region_held3 (fun w' => w'.cell? ⟨b, off + i, none⟩ = some (.int .i64 u1) ∧ w'.cell? ⟨b, off + K, none⟩ = some (.int .i64 u2))
              (((try dsimp only); (repeat' apply And.intro) <;> first | assumption | go_simp))
              (first | (go_at_call 75; refine (CJ.out _).mono ?_; rintro e wa ⟨rfl, hba⟩; (have hBa : Below wo.heap.size wo wa := by first | exact bw_trans ((Below.refl _ _).drew) hba | exact bw_trans (bw_alloc ((Below.refl _ _).drew) _) hba | exact bw_trans (bw_alloc (Below.refl _ _) _).drew hba | exact bw_trans (Below.refl _ _) hba); (have hsa := hBa.size); (have hqa : b < wa.heap.size := Nat.lt_of_lt_of_le hbl hsa); (have he0 := cell_of hBa hc0); (have he1 := cell_of hBa hc1); (obtain ⟨hca, hfa⟩ := bcell hba); (try (have hga : wo.heap.size < wa.heap.size := by (have h := hba.size; simp at h; omega)))))
            all_goals (go_wp2_with fail; go_meet; exact ⟨_, rfl, by go_simp, by go_simp, by simp; try omega, by (repeat (first | exact Below.refl _ _ | refine bw_drew ?_ | refine bw_drewN ?_ _ | refine bw_set ?_ (by simp; try omega) _ | refine bw_alloc ?_ _ | refine bw_trans ?_ (by assumption) | assumption))⟩)
          case rest =>
            obtain ⟨g, rfl, g0, g1, hg, hB1⟩ := hcut
            obtain ⟨V, rfl⟩ : ∃ V : World, V = wc := ⟨_, rfl⟩
            clear hc0 hc1 CJ hbl
            go_upto_region 13 with fail
            have hud : IntKind.i64.wrap (wd * D1) = wd * D1 := IntWalk.i64_in _ (by omega)
            have CA := Lib.hid (fun W => apart_any N1 (wd * D1) W ⟨by clear hud; omega, by clear hud; omega⟩ ⟨by clear hud; omega, by clear hud; omega⟩)
            go_cut [13] from 35 to 78 (fun s13 wx => ∃ g' : Nat, s13 = .pointer (some ⟨g', 0, none⟩) ∧ wx.cell? ⟨g', 0, none⟩ = some (.int .i64 ((N1 - wd * D1).natAbs : Int)) ∧ wx.cell? ⟨g', 1, none⟩ = some (.int .i64 D1) ∧ g' < wx.heap.size ∧ Below V.heap.size V wx)
            case first =>
              go_region_held3 (fun w' => w'.cell? ⟨g, 0, none⟩ = some (.int .i64 N1) ∧ w'.cell? ⟨g, 1, none⟩ = some (.int .i64 D1))
                (((try dsimp only); (repeat' apply And.intro) <;> first | assumption | go_simp))
                (first | (go_at_call 67; refine (CA.out _).mono ?_; rintro e w' ⟨rfl, rfl⟩))
              all_goals (go_wp2_with fail; go_meet; exact ⟨_, rfl, by go_simp, by go_simp, by simp, by (repeat (first | exact Below.refl _ _ | refine bw_drew ?_ | refine bw_drewN ?_ _ | refine bw_set ?_ (by simp; try omega) _ | refine bw_alloc ?_ _ | refine bw_trans ?_ (by assumption) | assumption))⟩)
            case rest =>
              obtain ⟨g', rfl, g0', g1', hg', hB2⟩ := hcut
              obtain ⟨U, rfl⟩ : ∃ U : World, U = wc := ⟨_, rfl⟩
              have hB3 := bw_trans hB1 hB2
              have hbU := bw_trans hbq hB3
              have hcN := cell_of hB3 HCN.out
              have hcD := cell_of hB3 HCD.out
              have hfr : ∀ j, U.frozen? ⟨w1.heap.size, j, none⟩ = false := fun j => (hB3.frozen (p := ⟨w1.heap.size, j, none⟩) hgw2).trans (HFR.out j)
              have hgU := Nat.lt_of_lt_of_le hgw2 hB3.size
              rw [HON.out] at g0'
              rw [HOD.out] at g1'
              clear hud CA g0 g1 hg hB1 hB2 HCN HCD HFR HON HOD hgw2 hbq
              have hnz : ¬ (i = 0 ∧ j + 1 = 0) := by omega
              have HTX := Lib.hid (show bX i (j + 1) (i, K) = (i : Int) from if_neg hnz)
              have HTY := Lib.hid (show bY i (j + 1) (i, K) = (K : Int) from if_neg hnz)
              have HTN := Lib.hid (show bN xs wd i (j + 1) (i, K) = onP xs wd (i, K) from if_neg hnz)
              have HTD := Lib.hid (show bD xs i (j + 1) (i, K) = odP xs (i, K) from if_neg hnz)
              by_cases hst0 : i = 0 ∧ j = 0
              · have eN : bN xs wd i j S = -1 := if_pos hst0
                have eD : bD xs i j S = 0 := if_pos hst0
                rw [eN] at hcN
                rw [eD] at hcD
                have hSK : S = (i, K) := by
                  rw [HZ.out hst0.1 hst0.2, hst0.1, ← HKE.out, hst0.1, hst0.2]
                have HI := Lib.hid (show inT xs wd i (j + 1) S0 = (i, K) by
                  cases hls : lsP xs wd (i, K) S
                  · rw [HN.out hls]; exact hSK
                  · exact HY.out hls)
                clear eN eD hSK hst0 HB HZ HY HN HE hnz
                generalize onP xs wd (i, K) = ON at *
                generalize odP xs (i, K) = OD at *
                go_wp2_with fail
                go_roundg (n - (i + 1) - (j + 1))
                case rel => exact ⟨j + 1, by have := HKE.out; omega, rfl, by rw [HI.out]; exact HTX.out.symm ▸ rfl, by rw [HI.out]; exact HTY.out.symm ▸ rfl, by rw [show i + 1 + (j + 1) = K + 1 by have := HKE.out; omega]; go_num, by rw [HI.out, HTN.out]; go_simp, by rw [HI.out, HTD.out]; go_simp, by simpa using hfr, by simpa using hgU, bw_set (bw_set hbU (by simpa using hs1) _) (by simpa using hs1) _⟩
                case measure => have := HKE.out; omega
              · have eN : bN xs wd i j S = onP xs wd S := if_neg hst0
                have eD : bD xs i j S = odP xs S := if_neg hst0
                rw [eN] at hcN
                rw [eD] at hcD
                have HSX := Lib.hid (show bX i (j + 1) S = X1 by rw [← HX1.out]; unfold bX; rw [if_neg hnz, if_neg hst0])
                have HSY := Lib.hid (show bY i (j + 1) S = Y1 by rw [← HY1.out]; unfold bY; rw [if_neg hnz, if_neg hst0])
                have HSN := Lib.hid (show bN xs wd i (j + 1) S = onP xs wd S from if_neg hnz)
                have HSD := Lib.hid (show bD xs i (j + 1) S = odP xs S from if_neg hnz)
                obtain ⟨r1, r2⟩ := mulB (a := onP xs wd (i, K)) (b := odP xs S) (A := 12000000) (B := 4000) (by omega) (by omega) (by omega) (by omega)
                obtain ⟨r3, r4⟩ := mulB (a := onP xs wd S) (b := odP xs (i, K)) (A := 12000000) (B := 4000) (by omega) (by omega) (by omega) (by omega)
                have hP0 : ¬ onP xs wd S < 0 := by omega
                by_cases hl : onP xs wd (i, K) * odP xs S < onP xs wd S * odP xs (i, K)
                · have HI := Lib.hid (HY.out (HB.out.1 hl))
                  clear eN eD HB HZ HY HN HE hnz hst0 HSX HSY HSN HSD HX1 HY1
                  generalize onP xs wd (i, K) = ON at *
                  generalize odP xs (i, K) = OD at *
                  generalize onP xs wd S = P at *
                  generalize odP xs S = Q at *
                  go_wp2_with fail
                  go_roundg (n - (i + 1) - (j + 1))
                  case rel => exact ⟨j + 1, by have := HKE.out; omega, rfl, by rw [HI.out]; exact HTX.out.symm ▸ rfl, by rw [HI.out]; exact HTY.out.symm ▸ rfl, by rw [show i + 1 + (j + 1) = K + 1 by have := HKE.out; omega]; go_num, by rw [HI.out, HTN.out]; go_simp, by rw [HI.out, HTD.out]; go_simp, by simpa using hfr, by simpa using hgU, bw_set (bw_set hbU (by simpa using hs1) _) (by simpa using hs1) _⟩
                  case measure => have := HKE.out; omega
                · have HI := Lib.hid (HN.out (Bool.eq_false_iff.2 fun h => absurd (HB.out.2 h) (by omega)))
                  have HCN2 := Lib.hid hcN
                  have HCD2 := Lib.hid hcD
                  clear eN eD HB HZ HY HN HE hnz hst0 HX1 HY1 HTX HTY HTN HTD
                  generalize onP xs wd (i, K) = ON at *
                  generalize odP xs (i, K) = OD at *
                  generalize onP xs wd S = P at *
                  generalize odP xs S = Q at *
                  go_wp2_with fail
                  go_roundg (n - (i + 1) - (j + 1))
                  case rel => exact ⟨j + 1, by have := HKE.out; omega, rfl, by rw [HI.out, HSX.out], by rw [HI.out, HSY.out], by rw [show i + 1 + (j + 1) = K + 1 by have := HKE.out; omega]; go_num, by rw [HI.out, HSN.out]; exact HCN2.out, by rw [HI.out, HSD.out]; exact HCD2.out, hfr, hgU, hbU⟩
                  case measure => have := HKE.out; omega
        · have hjj : i + 1 + j = n := by omega
          have HQ := Lib.hid (HO.out.trans (HE.out hjj))
          have hne : ¬ (i = 0 ∧ j = 0) := by omega
          have e1 : bX i j S = bX (i + 1) 0 S := by unfold bX; rw [if_neg hne, if_neg (by omega)]
          have e2 : bY i j S = bY (i + 1) 0 S := by unfold bY; rw [if_neg hne, if_neg (by omega)]
          have e3 : bN xs wd i j S = bN xs wd (i + 1) 0 S := by unfold bN; rw [if_neg hne, if_neg (by omega)]
          have e4 : bD xs i j S = bD xs (i + 1) 0 S := by unfold bD; rw [if_neg hne, if_neg (by omega)]
          rw [e1, e2, hjj]
          rw [e3] at hcN
          rw [e4] at hcD
          have HCN2 := Lib.hid hcN
          have HCD2 := Lib.hid hcD
          clear H hjj e1 e2 e3 e4 hcN hcD
          go_wp2_with fail
          go_roundg (n - (i + 1))
          case rel => exact ⟨i + 1, by omega, rfl, by rw [HQ.out], by rw [HQ.out], by go_num, by rw [HQ.out]; exact HCN2.out, by rw [HQ.out]; exact HCD2.out, hfr2, hgw2, hbq⟩
          case measure => omega
    · have hkk : i = n := by omega
      subst hkk
      have e1 : bX i 0 (ouT xs wd i i) = ((ouT xs wd i i).1 : Int) := if_neg (by omega)
      have e2 : bY i 0 (ouT xs wd i i) = ((ouT xs wd i i).2 : Int) := if_neg (by omega)
      rw [e1, e2]
      clear H hcN hcD e1 e2
      go_wp2
      go_ret3
      exact ⟨rfl, hbr⟩

set_option maxRecDepth 100000 in
set_option maxHeartbeats 3200000 in
theorem law_NearestPair (a_aList : Option Addr) (l_aList c_aList : Nat) (xs_aList : List Int) (wd : Int) (w : World) (hm_aList : l_aList ≤ 9223372036854775807) (H_aList : SlI w a_aList l_aList xs_aList) :
    Calls Try.prog 8 #[.slice a_aList l_aList c_aList, .int .i64 wd] w fun e w' => e = .returned (.bool true) ∧ Below w.heap.size w w' := by
  by_cases hn_aList : l_aList ≤ 1048576
  case neg =>
    clear H_aList
    go_enter Try.func8, Try.ntmps8
    go_wp2
    go_ret
    exact ⟨rfl, Below.refl _ _⟩
  have hS : ∀ (A_aList : Option Addr) (C_aList : Nat) (W : World), SlI W A_aList l_aList xs_aList → Calls Try.prog 33 #[.slice A_aList l_aList C_aList, .int .i64 wd] W (fun e w' => e = .returned (.tuple #[.int .i64 ((npR xs_aList l_aList wd).1), .int .i64 ((npR xs_aList l_aList wd).2.1), .int .i64 ((npR xs_aList l_aList wd).2.2)]) ∧ Below W.heap.size W w') := fun A_aList C_aList W K_aList => sNearestPair_any A_aList l_aList C_aList xs_aList wd W K_aList hn_aList
  have hI : ∀ (A_aList : Option Addr) (C_aList : Nat) (W : World), SlI W A_aList l_aList xs_aList → Calls Try.prog 34 #[.slice A_aList l_aList C_aList, .int .i64 wd] W (fun e w' => e = .returned (.tuple #[.int .i64 ((npR xs_aList l_aList wd).1), .int .i64 ((npR xs_aList l_aList wd).2.1), .int .i64 ((npR xs_aList l_aList wd).2.2)]) ∧ Below W.heap.size W w') := fun A_aList C_aList W K_aList => iNearestPair_any A_aList l_aList C_aList xs_aList wd W K_aList hn_aList
  generalize (npR xs_aList l_aList wd).1 = K0 at *
  generalize (npR xs_aList l_aList wd).2.1 = K1 at *
  generalize (npR xs_aList l_aList wd).2.2 = K2 at *
  have HS := Lib.hid hS
  have HI := Lib.hid hI
  clear hS hI
  go_enter Try.func8, Try.ntmps8
  go_wp2_with fail
  refine (toInts_any a_aList l_aList c_aList xs_aList _ H_aList hn_aList).mono ?_
  rintro e w1 ⟨rfl, he⟩
  have hb : Below w.heap.size w w1 := by rw [he]; exact bw_alloc (Below.refl _ _) _
  have Os_aList : OwnI w1 w.heap.size (.slice (some ⟨w.heap.size, 0, none⟩) l_aList l_aList) xs_aList := by rw [he]; exact OwnI.made H_aList.length hn_aList
  have Zs_aList : w.heap.size < w1.heap.size := by rw [he]; simp
  clear he
  have hB := hb
  clear hb
  go_wp2_with fail
  refine (HS.out (some ⟨w.heap.size, 0, none⟩) l_aList _ (by have h := Os_aList.sl; rw [← h.1] at h; exact h.2)).mono ?_
  rintro e w2 ⟨rfl, hb⟩
  replace Os_aList := Os_aList.below hb
  replace Zs_aList := Nat.lt_of_lt_of_le Zs_aList hb.size
  replace hB := bw_trans hB hb
  clear hb
  clear Os_aList Zs_aList
  have hW := Below.refl w2.heap.size w2
  go_wp2_with fail
  refine (toInts_any a_aList l_aList c_aList xs_aList _ (H_aList.below hB) hn_aList).mono ?_
  rintro e w3 ⟨rfl, he⟩
  have hb : Below w2.heap.size w2 w3 := by rw [he]; exact bw_alloc (Below.refl _ _) _
  have Ox_aList : OwnI w3 w2.heap.size (.slice (some ⟨w2.heap.size, 0, none⟩) l_aList l_aList) xs_aList := by rw [he]; exact OwnI.made H_aList.length hn_aList
  have Zx_aList : w2.heap.size < w3.heap.size := by rw [he]; simp
  clear he
  replace hB := bw_trans hB hb
  replace hW := bw_trans hW hb
  clear hb
  go_wp2_with fail
  refine (HI.out (some ⟨w2.heap.size, 0, none⟩) l_aList _ (by have h := Ox_aList.sl; rw [← h.1] at h; exact h.2)).mono ?_
  rintro e w4 ⟨rfl, hb⟩
  replace Ox_aList := Ox_aList.below hb
  replace Zx_aList := Nat.lt_of_lt_of_le Zx_aList hb.size
  replace hB := bw_trans hB hb
  replace hW := bw_trans hW hb
  clear hb
  skip
  go_wp2_with fail
  refine (toInts_any a_aList l_aList c_aList xs_aList _ (H_aList.below hB) hn_aList).mono ?_
  rintro e w5 ⟨rfl, he⟩
  have hb : Below w4.heap.size w4 w5 := by rw [he]; exact bw_alloc (Below.refl _ _) _
  have Oq_aList : OwnI w5 w4.heap.size (.slice (some ⟨w4.heap.size, 0, none⟩) l_aList l_aList) xs_aList := by rw [he]; exact OwnI.made H_aList.length hn_aList
  have Zq_aList : w4.heap.size < w5.heap.size := by rw [he]; simp
  clear he
  replace Ox_aList := Ox_aList.below hb
  replace Zx_aList := Nat.lt_of_lt_of_le Zx_aList hb.size
  replace hB := bw_trans hB hb
  replace hW := bw_trans hW hb
  clear hb
  go_wp2_with fail
  refine (eqInts_any _ _ l_aList _ _ xs_aList _ (by have h := Ox_aList.sl; rw [← h.1] at h; exact h.2) (by have h := Oq_aList.sl; rw [← h.1] at h; exact h.2) hn_aList).mono ?_
  rintro e w6 ⟨rfl, hb⟩
  replace Ox_aList := Ox_aList.below hb
  replace Oq_aList := Oq_aList.below hb
  replace Zx_aList := Nat.lt_of_lt_of_le Zx_aList hb.size
  replace Zq_aList := Nat.lt_of_lt_of_le Zq_aList hb.size
  replace hB := bw_trans hB hb
  replace hW := bw_trans hW hb
  clear hb
  clear Oq_aList Zq_aList
  go_wp2
  go_ret
  exact ⟨rfl, hB⟩
end Go.Proofs.Ythhilkahfgpncaa
