/-
  Slides: all places that are reached: in the reference, walked.
-/
import Derived.Test.YticohpimkicphaaYp
namespace Go.Proofs.Yticohpimkicphaa
open Go.RowKit

set_option maxRecDepth 100000 in
set_option maxHeartbeats 6400000 in
theorem l13All_any (g : Nat) (A : Option Addr) (n c : Nat) (ss : List Int) (B : Option Addr) (m d : Nat) (bs : List BrE) (P : Option Addr) (e : Nat) (ps : List Int) (w : World) (HD : SdP w g A n c ss B m d bs) (HP : SlI w P n ps) (n1 : 1 ≤ n) (hn : n ≤ 4) (hm : m ≤ 8) (hst : stBd ss n) (hbd : brBd bs m n) (hpl : plB ss ps n = true) :
    Calls Try.prog 43 #[.pointer (some ⟨g, 0, none⟩), .slice P n e] w (GivesS (allN (mvOk ss n bs) n ps) w) := by
  have HGD := Lib.hid (fun i => GdN.lev (V := fun qs => plB ss qs n = true) (ok := mvOk ss n bs) (n := n) hpl (fun qs mv h => (Bool.and_eq_true_iff.1 h).1) i)
  have HVN := Lib.hid (fun qs (h : plB ss qs n = true) => vn_of hst h)
  have HALL := Lib.hid (fun i hi => all_of (V := fun qs => plB ss qs n = true) (ok := mvOk ss n bs) (i := i) hpl (fun qs mv h => (Bool.and_eq_true_iff.1 h).1) (fun qs h => vn_of hst h) hn hi)
  have HMS := Lib.hid (fun (P' : Option Addr) (e' : Nat) (qs : List Int) W (hW : Below w.heap.size w W) (hq : plB ss qs n = true) (h : SlI W P' n qs) => l13Moves_any g A n c ss B m d bs P' e' qs W (HD.below hW) h hn hm hst hbd hq)
  have HMV := Lib.hid (fun (P' : Option Addr) (e' : Nat) (qs : List Int) mv (hmv : mv < 2 * n) W (hW : Below w.heap.size w W) (hq : plB ss qs n = true) (h : SlI W P' n qs) => l13Move_any g A n c ss B m d bs P' e' qs mv W (HD.below hW) h hn hm hst hbd hq hmv)
  have HV := Lib.hid (fun qs mv (h : mvOk ss n bs qs mv = true) => show (fun qs => plB ss qs n = true) (mvL qs mv) from (Bool.and_eq_true_iff.1 h).1)
  have hvp := vn_of hst hpl
  obtain ⟨k0, k1⟩ := num_256 hvp hn
  obtain ⟨K, hK⟩ : ∃ K : Nat, numI 0 ps = (K : Int) := ⟨(numI 0 ps).toNat, by omega⟩
  rw [hK] at k0 k1
  have HNP := Lib.hid (fun W (hW : Below w.heap.size w W) => l13Number_any P n e ps W (HP.below hW) hvp hn)
  rw [hK] at HNP
  obtain ⟨ZB, hmk, hZ⟩ := makeB
  have HRS := Lib.hid (RS.start (e := e) HP n1 hZ hK)
  have hz2 : ∀ k, k < 256 → ((w.alloc (.cells #[.slice P n e, .int .i64 (-1), .int .i64 (-1), .int .i64 0] 63)).alloc ZB).cell? ⟨w.heap.size + 1, k, none⟩ = some (.bool false) ∧ ((w.alloc (.cells #[.slice P n e, .int .i64 (-1), .int .i64 (-1), .int .i64 0] 63)).alloc ZB).frozen? ⟨w.heap.size + 1, k, none⟩ = false := fun k hk => by
    have h := hZ (w.alloc (.cells #[.slice P n e, .int .i64 (-1), .int .i64 (-1), .int .i64 0] 63)) k hk
    rw [World.size_alloc] at h
    exact h
  obtain ⟨hzc, hzf⟩ := hz2 K (by omega)
  have hkk : (K : Int) < 256 := k1
  clear hZ hz2 hK HD hbd
  generalize mvOk ss n bs = ok at *
  go_enter Try.func43, Try.ntmps43
  go_wp2_with (go_at_call 66; refine (HNP.out _ (by (repeat (first | exact Below.refl _ _ | refine bw_drew ?_ | refine bw_drewN ?_ _ | refine bw_set ?_ (by simp; try omega) _ | refine bw_alloc ?_ _ | refine bw_trans ?_ (by assumption) | assumption)))).mono ?_; rintro e w' ⟨rfl, rfl⟩)
  have hb2 : Below w.heap.size w (((w.alloc (.cells #[.slice P n e, .int .i64 (-1), .int .i64 (-1), .int .i64 0] 63)).alloc ZB).setCell ⟨w.heap.size + 1, K, none⟩ (.bool true)) := by (repeat (first | exact Below.refl _ _ | refine bw_drew ?_ | refine bw_drewN ?_ _ | refine bw_set ?_ (by simp; try omega) _ | refine bw_alloc ?_ _ | refine bw_trans ?_ (by assumption) | assumption))
  go_loopg [5, 7] 256 (fun gh q x wr => ∃ (i : Nat) (cs : List Value), i ≤ 256 ∧ gh = 256 - i ∧ x = .int .i64 i ∧ Hid (RS w wr (lev ok n ps i) q cs) ∧ Below w.heap.size w wr)
  case atStart => exact ⟨0, _, by omega, by omega, rfl, HRS, hb2⟩
  case round =>
    clear HRS hb2 HNP hmk hzc hzf hkk k0 k1 HP hpl
    obtain ⟨i, cs, hi, rfl, rfl, hRS, hbr⟩ := hrel
    have HG := Lib.hid (HGD.out i)
    by_cases hlt : i < (lev ok n ps i).length
    · have hL := HG.out.le HVN.out hn
      have HE := Lib.hid (lev_yes hlt)
      obtain ⟨out0, hO⟩ : ∃ out0, lev ok n ps i = out0 := ⟨_, rfl⟩
      rw [hO] at hRS HG HE hL hlt
      have HO := Lib.hid hO
      clear hO
      have hRS2 := hRS.out
      obtain ⟨gq, cap, rfl, hgl, hgB, hgn, hcq, -⟩ := hRS2.head hlt
      have hpy := HG.out.2.2.1 _ (getD_in hlt)
      have hvn := HVN.out _ hpy
      obtain ⟨y, hy⟩ : ∃ y, out0.getD i Nd.zero = y := ⟨_, rfl⟩
      have hyl : y.pl.length = n := by rw [← hy]; exact hvn.1
      have hyl2 : ∀ mv, (mvL y.pl mv).length = n := fun mv => by rw [mv_len, hyl]
      have HYL := Lib.hid hyl2
      clear hyl2
      obtain ⟨⟨Ai, ci, hqi, hSi, -⟩, -⟩ := hRS2.2.2.1 i hlt
      rw [hy] at hqi hSi hpy hvn
      rw [hyl] at hqi hSi
      rw [hqi] at hcq
      have hsz1 : w.heap.size + 1 < wr.heap.size := hRS2.2.2.2.1
      have i1 : (i : Int) < (out0.length : Int) := by omega
      have i0 : (0 : Int) ≤ (i : Int) := by omega
      have HSM := Lib.hid (HMS.out Ai ci _ _ hbr hpy hSi)
      have HSG := Lib.hid (fun j (hj : j < (selL (ok y.pl) (2 * n)).length) => sel_get hj)
      have HIN := Lib.hid (fun j hj => HG.out.innS (i := i) (K := 2 * n) hlt HV.out j hj)
      have HFI := Lib.hid (innS_sel ok y out0 i (2 * n))
      have HML := Lib.hid (sel_len (ok y.pl) (2 * n))
      rw [hy] at HIN HE
      have HY := Lib.hid hy
      clear hRS2 hqi hSi HALL HMS hy
      obtain ⟨ms, hms⟩ : ∃ ms, selL (ok y.pl) (2 * n) = ms := ⟨_, rfl⟩
      rw [hms] at HSM HSG HIN HFI HML
      clear hms
      go_wp2_with fail
      refine HSM.out.mono ?_
      rintro e wa ⟨V, rfl, hOV, hba⟩
      obtain ⟨Am, cm, rfl⟩ := hOV.form
      have HVS := Lib.hid (hsl_mid (w := w) (N := out0.length) (cap := cap) hOV hgl hsz1)
      have HRA := Lib.hid (hRS.out.below hba)
      have hbw := bw_trans hbr hba
      clear hRS hbr hba hOV HSM hcq hgl hgB hgn hsz1
      go_wp2_with fail
      go_loopg [5, 9] ms.length (fun gh q x wr => ∃ (k : Nat) (cs : List Value), k ≤ ms.length ∧ gh = ms.length - k ∧ x = .int .i64 k ∧ Hid (RS w wr (innS y out0 i (ms.take k)) q cs) ∧ Hid (HSl w wr q (.slice Am ms.length cm) ms) ∧ Below w.heap.size w wr)
      case atStart => exact ⟨0, cs, by omega, by omega, rfl, by rw [List.take_zero]; exact HRA, HVS, hbw⟩
      case round =>
        clear HRA HVS hbw cs
        obtain ⟨k, cs, hk, rfl, rfl, hRS, hVS, hbr⟩ := hrel
        obtain ⟨hG2, zs, hzs⟩ := HIN.out k hk
        have hil : i < (innS y out0 i (ms.take k)).length := by rw [hzs, List.length_append]; omega
        have hyi : (innS y out0 i (ms.take k)).getD i Nd.zero = y := by rw [hzs, getD_left hlt, HY.out]
        have hL2 := hG2.le HVN.out hn
        have hRS2 := hRS.out
        obtain ⟨g2, cap2, rfl, hgl, hgB, hgn, hcq, hqs⟩ := hRS2.head hil
        obtain ⟨⟨Ai, ci, hqi, hSi, -⟩, -⟩ := hRS2.2.2.1 i hil
        rw [hyi] at hqi hSi hqs
        rw [hyl] at hqi hSi
        rw [hqi] at hcq
        have hsz1 : w.heap.size + 1 < wr.heap.size := hRS2.2.2.2.1
        have HVV := Lib.hid (fun z (hz : z ∈ innS y out0 i (ms.take k)) => HVN.out _ (hG2.2.2.1 z hz))
        have hpl3 : y.pt.length ≤ 256 := by
          have h := GdN.pt_len hG2 i hil
          rw [hyi] at h
          omega
        obtain ⟨N, hN⟩ : ∃ N, (innS y out0 i (ms.take k)).length = N := ⟨_, rfl⟩
        rw [hN] at hRS hVS hL2 hil ⊢
        have HN := Lib.hid hN
        clear hRS2 hqi hzs zs hG2 hyi hN
        have i2 : (i : Int) < (N : Int) := by omega
        by_cases hlk : k < ms.length
        · have k2 : (k : Int) < (ms.length : Int) := by omega
          have k3 : (0 : Int) ≤ (k : Int) := by omega
          have hml8 : ms.length ≤ 8 := by have := HML.out; omega
          obtain ⟨mv, hmv2, hmv, hok⟩ := HSG.out k hlk
          obtain ⟨A2, c2, e2, hsm, hne⟩ := hVS.out
          injection e2 with e2 _ e3
          subst e2; subst e3
          obtain ⟨bm, om, rfl, hbm, hmc⟩ := hsm.get hlk
          rw [hmv] at hmc
          have hbm1 := (hne _ rfl).1
          replace hbm1 : bm ≠ w.heap.size + 1 := hbm1
          clear hne
          have hvq := HVN.out _ (HV.out _ _ hok)
          obtain ⟨z0, z1⟩ := num_256 hvq hn
          obtain ⟨K2, hK2⟩ : ∃ K2 : Nat, numI 0 (mvL y.pl mv) = (K2 : Int) := ⟨(numI 0 (mvL y.pl mv)).toNat, by omega⟩
          rw [hK2] at z0 z1
          have HHA := Lib.hid (sn_has HVV.out hvq hK2)
          have HMQ := Lib.hid (fun W (hW : Below wr.heap.size wr W) => HMV.out Ai ci y.pl mv hmv2 W (bw_trans hbr hW) hpy (hSi.below hW))
          rw [hok] at HMQ
          have hst0 := innS_take (y := y) (out := out0) (i := i) hlk
          rw [hmv, Int.toNat_natCast] at hst0
          obtain ⟨X, hX⟩ : ∃ X, hasN (innS y out0 i (ms.take k)) (mvL y.pl mv) = X := ⟨_, rfl⟩
          rw [hX] at hst0 HHA
          obtain ⟨hm1, hm2⟩ := hRS.out.2.2.2.2 K2 (by omega)
          rw [HHA.out] at hm1
          have HSK := Lib.hid hK2
          have HVQ := Lib.hid hvq
          have HST := Lib.hid hst0
          have hkz : (K2 : Int) < 256 := z1
          clear hsm hSi hok hmv hX hst0 hvq hK2 HSG HMV HVV HHA z0 z1 HIN HGD
          go_wp2_with fail
          go_region_held3 (fun w' => w'.cell? ⟨g2, i * 4, none⟩ = some (.slice Ai n ci) ∧ w'.cell? ⟨bm, om + k, none⟩ = some (.int .i64 (mv : Int)))
            (((try dsimp only); (repeat' apply And.intro) <;> first | assumption | go_simp))
            (first | (go_at_call 63; refine (HMQ.out _ (Below.refl _ _).drew).mono ?_; rintro e wa ⟨A3, n3, c3, rfl, hOn, hba0⟩; (have hba : Below wr.heap.size wr wa := bw_trans (Below.refl _ _).drew hba0); (have hv0 := cell_of hba hcq); (have hv1 := cell_of hba hmc)))
          replace hOn : OwnI wa wr.heap.size (.slice A3 n3 c3) (mvL y.pl mv) := hOn (by simp)
          obtain rfl : n = n3 := by rw [hOn.sl.1, mv_len, hyl]
          have HNM := Lib.hid (fun W (hW : Below wa.heap.size wa W) => l13Number_any A3 n c3 (mvL y.pl mv) W ((by have h := hOn.sl; rw [← h.1] at h; exact h.2 : SlI wa A3 n (mvL y.pl mv)).below hW) HVQ.out hn)
          rw [HSK.out] at HNM
          have hw1 := cell_of hba hm1
          have hf1 := (hba.frozen (p := ⟨w.heap.size + 1, K2, none⟩) hsz1).trans hm2
          have hqs2 := cell_of hba hqs
          have hbwa := bw_trans hbr hba
          have HBA := Lib.hid hba
          have HON := Lib.hid hOn
          clear hba0 hba hm1 hm2 hcq hmc hv0 HMQ hqs hOn
          cases X
          case true =>
            rw [if_pos rfl] at HST
            go_wp2_with (go_at_call 66; refine (HNM.out _ (Below.refl _ _)).mono ?_; rintro e w' ⟨rfl, rfl⟩)
            go_roundg (ms.length - (k + 1))
            case rel => exact ⟨k + 1, cs, by omega, rfl, by go_num, by rw [HST.out]; exact hRS.out.below HBA.out, hVS.out.below HBA.out, hbwa⟩
            case measure => omega
          · rw [if_neg (by simp)] at HST
            go_wp2_with (go_at_call 66; refine (HNM.out _ (by (repeat (first | exact Below.refl _ _ | refine bw_drew ?_ | refine bw_drewN ?_ _ | refine bw_set ?_ (by simp; try omega) _ | refine bw_alloc ?_ _ | refine bw_trans ?_ (by assumption) | assumption)))).mono ?_; rintro e w' ⟨rfl, rfl⟩)
            have hgs := grown_set wa ⟨w.heap.size + 1, K2, none⟩ (.bool true)
            have HPU0 := Lib.hid (fun w4 w5 v8 (hB4 : Below (wa.setCell ⟨w.heap.size + 1, K2, none⟩ (.bool true)).heap.size (wa.setCell ⟨w.heap.size + 1, K2, none⟩ (.bool true)) w4) hO4 hG4 hl4 => And.intro (RS.push (w5 := w5) (qv' := v8) (z := kid y i mv) hRS.out HBA.out (hsl_new2 (N := N) (cap := cap2) HON.out (HYL.out mv) hgl hsz1) HSK.out hB4 (by rw [HN.out]; exact hO4) hG4 hl4) (Lib.hid (RS.slide (w5 := w5) (qv' := v8) (v := .slice (some ⟨bm, om, none⟩) ms.length cm) (xs := ms) (m := K2) hRS.out HBA.out (hVS.out.below HBA.out) hB4 hG4 hl4)))
            have HQ0 := Lib.hid (show World.ownsRow (wa.setCell ⟨w.heap.size + 1, K2, none⟩ (.bool true)) w.heap.size 63 4 (.slice (some ⟨g2, 0, none⟩) N cap2) N cs from by
              have h := (kept_below hRS.out.1 HBA.out).kept hgs (.inr (by show some g2 ≠ some (w.heap.size + 1); intro e; injection e; omega))
              rw [HN.out] at h
              exact h)
            have hmc := cell_grown hgs (show some bm ≠ some (w.heap.size + 1) by intro e; injection e; omega) hv1
            have hqs := cell_grown hgs (show some g2 ≠ some (w.heap.size + 1) by intro e; injection e; omega) hqs2
            have HBB := Lib.hid (show Below w.heap.size w (wa.setCell ⟨w.heap.size + 1, K2, none⟩ (.bool true)) by (repeat (first | exact Below.refl _ _ | refine bw_drew ?_ | refine bw_drewN ?_ _ | refine bw_set ?_ (by simp; try omega) _ | refine bw_alloc ?_ _ | refine bw_trans ?_ (by assumption) | assumption)))
            generalize wa.setCell ⟨w.heap.size + 1, K2, none⟩ (.bool true) = wb at *
            have hPE : (cs ++ [(.slice A3 n c3), .int .i64 (kid y i mv).bf, .int .i64 (kid y i mv).mv, .int .i64 ((kid y i mv).pt.length : Int)]) = cs ++ [(.slice A3 n c3), .int .i64 (i : Int), .int .i64 (mv : Int), .int .i64 ((y.pt.length : Int) + 1)] := by rw [show ((kid y i mv).pt.length : Int) = (y.pt.length : Int) + 1 by simp [kid]]; rfl
            rw [hPE] at HPU0
            have HPU := HPU0
            have HBW := Lib.hid (fun w4 w5 (hB4 : Below wb.heap.size wb w4) (hG4 : World.grownBy w4 w5 (Value.ownBlock (.slice (some ⟨g2, 0, none⟩) N cap2))) => show Below w.heap.size w w5 from bw_from (bw_trans HBB.out hB4) (below_grown hG4 (fun j hj => by have h2 := Option.some.inj (show some g2 = some j from hj); omega) (bw_trans HBB.out hB4).size))
            have HQO := HQ0
            have hszb := HBB.out.size
            clear HPU0 HQ0 hPE hgs hRS hVS hw1 hf1 hqs2 hv1 HBA HON HNM HSK HVQ hbr hbwa HFI HML
            refine wp_region_inv' (by kernel_rfl) (by kernel_rfl) (JAl w.heap.size wb N cs (.slice (some ⟨g2, 0, none⟩) N cap2) (.slice A3 n c3) (.slice (some ⟨bm, om, none⟩) ms.length cm) g2 bm om i k mv y.pt.length) ?_ ?_ ?_
            · exact ⟨u63, u64, u65, u66, u67, u68, u69, u70, u71, u72, u73, u74, u75, u76, u77, u78, (.slice (some ⟨g2, 0, none⟩) N cap2), by simp only [Act.put, List.setIfInBounds_toArray, List.set_cons_zero, List.set_cons_succ], .inl ⟨rfl, (Below.refl _ _).drew, rfl, fun h => absurd h (by simp), fun h => absurd h (by simp), fun h => absurd h (by simp), fun h => absurd h (by simp), fun h => absurd h (by simp), fun h => absurd h (by simp), fun h => absurd h (by simp), fun h => absurd h (by simp), fun h => absurd h (by simp), fun h => absurd h (by simp), fun h => absurd h (by simp), fun h => absurd h (by simp), fun h => absurd h (by simp), fun h => absurd h (by simp), fun h => absurd h (by simp)⟩⟩
            · refine ⟨?_, ?_, ?_, ?_, ?_, ?_, ?_, ?_, ?_, ?_, ?_, ?_, ?_, ?_, ?_, ?_, ?_, trivial⟩
              all_goals
                intro d a W hd hpre hcl hJ K hK
              · obtain ⟨t63, t64, t65, t66, t67, t68, t69, t70, t71, t72, t73, t74, t75, t76, t77, t78, t5, hA, hJ⟩ := hJ
                have hJ1 : d 15 = false ∧ _ := hJ.resolve_right (fun h => by have h2 := h.2.1 0 (by omega); rw [hd] at h2; cases h2)
                obtain ⟨h14, hB, q0, f0, f1, f2, f3, f4, f5, f6, f7, f8, f9, f10, f11, f12, f13, f14⟩ := hJ1
                clear hJ
                have e5 := q0
                subst e5
                have HF := Lib.hid (And.intro q0 (And.intro f0 (And.intro f1 (And.intro f2 (And.intro f3 (And.intro f4 (And.intro f5 (And.intro f6 (And.intro f7 (And.intro f8 (And.intro f9 (And.intro f10 (And.intro f11 (And.intro f12 (And.intro f13 (f14))))))))))))))))
                have HK := Lib.hid hK
                have HD2 := Lib.hid (And.intro hd h14)
                clear hpre hcl hK hd h14 q0 f0 f1 f2 f3 f4 f5 f6 f7 f8 f9 f10 f11 f12 f13 f14
                try clear hp
                simp only [Act.put, List.setIfInBounds_toArray, List.set_cons_zero, List.set_cons_succ] at hA
                subst hA
                go_simp
                obtain ⟨q0, f0, f1, f2, f3, f4, f5, f6, f7, f8, f9, f10, f11, f12, f13, f14⟩ := HF.out
                obtain ⟨hd, h14⟩ := HD2.out
                exact HK.out _ _ ⟨((.slice (some ⟨g2, 0, none⟩) N cap2)), t64, t65, t66, t67, t68, t69, t70, t71, t72, t73, t74, t75, t76, t77, t78, (.slice (some ⟨g2, 0, none⟩) N cap2), by simp only [Act.put, List.setIfInBounds_toArray, List.set_cons_zero, List.set_cons_succ], .inl ⟨h14, hB, q0, fun _ => rfl, f1, f2, f3, f4, f5, f6, f7, f8, f9, f10, f11, f12, f13, f14⟩⟩
              · obtain ⟨t63, t64, t65, t66, t67, t68, t69, t70, t71, t72, t73, t74, t75, t76, t77, t78, t5, hA, hJ⟩ := hJ
                have hJ1 : d 15 = false ∧ _ := hJ.resolve_right (fun h => by have h2 := h.2.1 1 (by omega); rw [hd] at h2; cases h2)
                obtain ⟨h14, hB, q0, f0, f1, f2, f3, f4, f5, f6, f7, f8, f9, f10, f11, f12, f13, f14⟩ := hJ1
                clear hJ
                have HF := Lib.hid (And.intro q0 (And.intro f0 (And.intro f1 (And.intro f2 (And.intro f3 (And.intro f4 (And.intro f5 (And.intro f6 (And.intro f7 (And.intro f8 (And.intro f9 (And.intro f10 (And.intro f11 (And.intro f12 (And.intro f13 (f14))))))))))))))))
                have HK := Lib.hid hK
                have HD2 := Lib.hid (And.intro hd h14)
                clear hpre hcl hK hd h14 q0 f0 f1 f2 f3 f4 f5 f6 f7 f8 f9 f10 f11 f12 f13 f14
                try clear hp
                simp only [Act.put, List.setIfInBounds_toArray, List.set_cons_zero, List.set_cons_succ] at hA
                subst hA
                go_simp
                obtain ⟨q0, f0, f1, f2, f3, f4, f5, f6, f7, f8, f9, f10, f11, f12, f13, f14⟩ := HF.out
                obtain ⟨hd, h14⟩ := HD2.out
                exact HK.out _ _ ⟨t63, ((.slice A3 n c3)), t65, t66, t67, t68, t69, t70, t71, t72, t73, t74, t75, t76, t77, t78, t5, by simp only [Act.put, List.setIfInBounds_toArray, List.set_cons_zero, List.set_cons_succ], .inl ⟨h14, hB, q0, f0, fun _ => rfl, f2, f3, f4, f5, f6, f7, f8, f9, f10, f11, f12, f13, f14⟩⟩
              · obtain ⟨t63, t64, t65, t66, t67, t68, t69, t70, t71, t72, t73, t74, t75, t76, t77, t78, t5, hA, hJ⟩ := hJ
                have hJ1 : d 15 = false ∧ _ := hJ.resolve_right (fun h => by have h2 := h.2.1 2 (by omega); rw [hd] at h2; cases h2)
                obtain ⟨h14, hB, q0, f0, f1, f2, f3, f4, f5, f6, f7, f8, f9, f10, f11, f12, f13, f14⟩ := hJ1
                clear hJ
                have HF := Lib.hid (And.intro q0 (And.intro f0 (And.intro f1 (And.intro f2 (And.intro f3 (And.intro f4 (And.intro f5 (And.intro f6 (And.intro f7 (And.intro f8 (And.intro f9 (And.intro f10 (And.intro f11 (And.intro f12 (And.intro f13 (f14))))))))))))))))
                have HK := Lib.hid hK
                have HD2 := Lib.hid (And.intro hd h14)
                clear hpre hcl hK hd h14 q0 f0 f1 f2 f3 f4 f5 f6 f7 f8 f9 f10 f11 f12 f13 f14
                try clear hp
                simp only [Act.put, List.setIfInBounds_toArray, List.set_cons_zero, List.set_cons_succ] at hA
                subst hA
                go_simp
                obtain ⟨q0, f0, f1, f2, f3, f4, f5, f6, f7, f8, f9, f10, f11, f12, f13, f14⟩ := HF.out
                obtain ⟨hd, h14⟩ := HD2.out
                exact HK.out _ _ ⟨t63, t64, (.int .i64 (i : Int)), t66, t67, t68, t69, t70, t71, t72, t73, t74, t75, t76, t77, t78, t5, by simp only [Act.put, List.setIfInBounds_toArray, List.set_cons_zero, List.set_cons_succ], .inl ⟨h14, hB, q0, f0, f1, fun _ => rfl, f3, f4, f5, f6, f7, f8, f9, f10, f11, f12, f13, f14⟩⟩
              · obtain ⟨t63, t64, t65, t66, t67, t68, t69, t70, t71, t72, t73, t74, t75, t76, t77, t78, t5, hA, hJ⟩ := hJ
                have hJ1 : d 15 = false ∧ _ := hJ.resolve_right (fun h => by have h2 := h.2.1 3 (by omega); rw [hd] at h2; cases h2)
                obtain ⟨h14, hB, q0, f0, f1, f2, f3, f4, f5, f6, f7, f8, f9, f10, f11, f12, f13, f14⟩ := hJ1
                clear hJ
                have HF := Lib.hid (And.intro q0 (And.intro f0 (And.intro f1 (And.intro f2 (And.intro f3 (And.intro f4 (And.intro f5 (And.intro f6 (And.intro f7 (And.intro f8 (And.intro f9 (And.intro f10 (And.intro f11 (And.intro f12 (And.intro f13 (f14))))))))))))))))
                have HK := Lib.hid hK
                have HD2 := Lib.hid (And.intro hd h14)
                clear hpre hcl hK hd h14 q0 f0 f1 f2 f3 f4 f5 f6 f7 f8 f9 f10 f11 f12 f13 f14
                try clear hp
                simp only [Act.put, List.setIfInBounds_toArray, List.set_cons_zero, List.set_cons_succ] at hA
                subst hA
                go_simp
                obtain ⟨q0, f0, f1, f2, f3, f4, f5, f6, f7, f8, f9, f10, f11, f12, f13, f14⟩ := HF.out
                obtain ⟨hd, h14⟩ := HD2.out
                exact HK.out _ _ ⟨t63, t64, t65, ((.slice (some ⟨bm, om, none⟩) ms.length cm)), t67, t68, t69, t70, t71, t72, t73, t74, t75, t76, t77, t78, t5, by simp only [Act.put, List.setIfInBounds_toArray, List.set_cons_zero, List.set_cons_succ], .inl ⟨h14, hB, q0, f0, f1, f2, fun _ => rfl, f4, f5, f6, f7, f8, f9, f10, f11, f12, f13, f14⟩⟩
              · obtain ⟨t63, t64, t65, t66, t67, t68, t69, t70, t71, t72, t73, t74, t75, t76, t77, t78, t5, hA, hJ⟩ := hJ
                have hJ1 : d 15 = false ∧ _ := hJ.resolve_right (fun h => by have h2 := h.2.1 4 (by omega); rw [hd] at h2; cases h2)
                obtain ⟨h14, hB, q0, f0, f1, f2, f3, f4, f5, f6, f7, f8, f9, f10, f11, f12, f13, f14⟩ := hJ1
                clear hJ
                have HF := Lib.hid (And.intro q0 (And.intro f0 (And.intro f1 (And.intro f2 (And.intro f3 (And.intro f4 (And.intro f5 (And.intro f6 (And.intro f7 (And.intro f8 (And.intro f9 (And.intro f10 (And.intro f11 (And.intro f12 (And.intro f13 (f14))))))))))))))))
                have HK := Lib.hid hK
                have HD2 := Lib.hid (And.intro hd h14)
                clear hpre hcl hK hd h14 q0 f0 f1 f2 f3 f4 f5 f6 f7 f8 f9 f10 f11 f12 f13 f14
                try clear hp
                simp only [Act.put, List.setIfInBounds_toArray, List.set_cons_zero, List.set_cons_succ] at hA
                subst hA
                go_simp
                obtain ⟨q0, f0, f1, f2, f3, f4, f5, f6, f7, f8, f9, f10, f11, f12, f13, f14⟩ := HF.out
                obtain ⟨hd, h14⟩ := HD2.out
                exact HK.out _ _ ⟨t63, t64, t65, t66, (.int .i64 (k : Int)), t68, t69, t70, t71, t72, t73, t74, t75, t76, t77, t78, t5, by simp only [Act.put, List.setIfInBounds_toArray, List.set_cons_zero, List.set_cons_succ], .inl ⟨h14, hB, q0, f0, f1, f2, f3, fun _ => rfl, f5, f6, f7, f8, f9, f10, f11, f12, f13, f14⟩⟩
              · obtain ⟨t63, t64, t65, t66, t67, t68, t69, t70, t71, t72, t73, t74, t75, t76, t77, t78, t5, hA, hJ⟩ := hJ
                have hJ1 : d 15 = false ∧ _ := hJ.resolve_right (fun h => by have h2 := h.2.1 5 (by omega); rw [hd] at h2; cases h2)
                obtain ⟨h14, hB, q0, f0, f1, f2, f3, f4, f5, f6, f7, f8, f9, f10, f11, f12, f13, f14⟩ := hJ1
                clear hJ
                have hp := hpre; simp [Region.binds] at hp
                obtain rfl := f3 hp.1
                obtain rfl := f4 hp.2
                have HF := Lib.hid (And.intro q0 (And.intro f0 (And.intro f1 (And.intro f2 (And.intro f3 (And.intro f4 (And.intro f5 (And.intro f6 (And.intro f7 (And.intro f8 (And.intro f9 (And.intro f10 (And.intro f11 (And.intro f12 (And.intro f13 (f14))))))))))))))))
                have HK := Lib.hid hK
                have HD2 := Lib.hid (And.intro hd h14)
                clear hpre hcl hK hd h14 q0 f0 f1 f2 f3 f4 f5 f6 f7 f8 f9 f10 f11 f12 f13 f14
                try clear hp
                simp only [Act.put, List.setIfInBounds_toArray, List.set_cons_zero, List.set_cons_succ] at hA
                subst hA
                go_simp
                obtain ⟨q0, f0, f1, f2, f3, f4, f5, f6, f7, f8, f9, f10, f11, f12, f13, f14⟩ := HF.out
                obtain ⟨hd, h14⟩ := HD2.out
                exact HK.out _ _ ⟨t63, t64, t65, ((.slice (some ⟨bm, om, none⟩) ms.length cm)), (.int .i64 (k : Int)), (.pointer (some ⟨bm, om + k, none⟩)), t69, t70, t71, t72, t73, t74, t75, t76, t77, t78, t5, by simp only [Act.put, List.setIfInBounds_toArray, List.set_cons_zero, List.set_cons_succ], .inl ⟨h14, hB, q0, f0, f1, f2, f3, f4, fun _ => rfl, f6, f7, f8, f9, f10, f11, f12, f13, f14⟩⟩
              · obtain ⟨t63, t64, t65, t66, t67, t68, t69, t70, t71, t72, t73, t74, t75, t76, t77, t78, t5, hA, hJ⟩ := hJ
                have hJ1 : d 15 = false ∧ _ := hJ.resolve_right (fun h => by have h2 := h.2.1 6 (by omega); rw [hd] at h2; cases h2)
                obtain ⟨h14, hB, q0, f0, f1, f2, f3, f4, f5, f6, f7, f8, f9, f10, f11, f12, f13, f14⟩ := hJ1
                clear hJ
                have hp := hpre; simp [Region.binds] at hp
                obtain rfl := f5 hp
                have hcm := cell_of hB hmc
                have HF := Lib.hid (And.intro q0 (And.intro f0 (And.intro f1 (And.intro f2 (And.intro f3 (And.intro f4 (And.intro f5 (And.intro f6 (And.intro f7 (And.intro f8 (And.intro f9 (And.intro f10 (And.intro f11 (And.intro f12 (And.intro f13 (f14))))))))))))))))
                have HK := Lib.hid hK
                have HD2 := Lib.hid (And.intro hd h14)
                clear hpre hcl hK hd h14 q0 f0 f1 f2 f3 f4 f5 f6 f7 f8 f9 f10 f11 f12 f13 f14
                try clear hp
                simp only [Act.put, List.setIfInBounds_toArray, List.set_cons_zero, List.set_cons_succ] at hA
                subst hA
                go_simp
                obtain ⟨q0, f0, f1, f2, f3, f4, f5, f6, f7, f8, f9, f10, f11, f12, f13, f14⟩ := HF.out
                obtain ⟨hd, h14⟩ := HD2.out
                exact HK.out _ _ ⟨t63, t64, t65, t66, t67, (.pointer (some ⟨bm, om + k, none⟩)), (.int .i64 (mv : Int)), t70, t71, t72, t73, t74, t75, t76, t77, t78, t5, by simp only [Act.put, List.setIfInBounds_toArray, List.set_cons_zero, List.set_cons_succ], .inl ⟨h14, hB, q0, f0, f1, f2, f3, f4, f5, fun _ => rfl, f7, f8, f9, f10, f11, f12, f13, f14⟩⟩
              · obtain ⟨t63, t64, t65, t66, t67, t68, t69, t70, t71, t72, t73, t74, t75, t76, t77, t78, t5, hA, hJ⟩ := hJ
                have hJ1 : d 15 = false ∧ _ := hJ.resolve_right (fun h => by have h2 := h.2.1 7 (by omega); rw [hd] at h2; cases h2)
                obtain ⟨h14, hB, q0, f0, f1, f2, f3, f4, f5, f6, f7, f8, f9, f10, f11, f12, f13, f14⟩ := hJ1
                clear hJ
                have e5 := q0
                subst e5
                have HF := Lib.hid (And.intro q0 (And.intro f0 (And.intro f1 (And.intro f2 (And.intro f3 (And.intro f4 (And.intro f5 (And.intro f6 (And.intro f7 (And.intro f8 (And.intro f9 (And.intro f10 (And.intro f11 (And.intro f12 (And.intro f13 (f14))))))))))))))))
                have HK := Lib.hid hK
                have HD2 := Lib.hid (And.intro hd h14)
                clear hpre hcl hK hd h14 q0 f0 f1 f2 f3 f4 f5 f6 f7 f8 f9 f10 f11 f12 f13 f14
                try clear hp
                simp only [Act.put, List.setIfInBounds_toArray, List.set_cons_zero, List.set_cons_succ] at hA
                subst hA
                go_simp
                obtain ⟨q0, f0, f1, f2, f3, f4, f5, f6, f7, f8, f9, f10, f11, f12, f13, f14⟩ := HF.out
                obtain ⟨hd, h14⟩ := HD2.out
                exact HK.out _ _ ⟨t63, t64, t65, t66, t67, t68, t69, ((.slice (some ⟨g2, 0, none⟩) N cap2)), t71, t72, t73, t74, t75, t76, t77, t78, (.slice (some ⟨g2, 0, none⟩) N cap2), by simp only [Act.put, List.setIfInBounds_toArray, List.set_cons_zero, List.set_cons_succ], .inl ⟨h14, hB, q0, f0, f1, f2, f3, f4, f5, f6, fun _ => rfl, f8, f9, f10, f11, f12, f13, f14⟩⟩
              · obtain ⟨t63, t64, t65, t66, t67, t68, t69, t70, t71, t72, t73, t74, t75, t76, t77, t78, t5, hA, hJ⟩ := hJ
                have hJ1 : d 15 = false ∧ _ := hJ.resolve_right (fun h => by have h2 := h.2.1 8 (by omega); rw [hd] at h2; cases h2)
                obtain ⟨h14, hB, q0, f0, f1, f2, f3, f4, f5, f6, f7, f8, f9, f10, f11, f12, f13, f14⟩ := hJ1
                clear hJ
                have HF := Lib.hid (And.intro q0 (And.intro f0 (And.intro f1 (And.intro f2 (And.intro f3 (And.intro f4 (And.intro f5 (And.intro f6 (And.intro f7 (And.intro f8 (And.intro f9 (And.intro f10 (And.intro f11 (And.intro f12 (And.intro f13 (f14))))))))))))))))
                have HK := Lib.hid hK
                have HD2 := Lib.hid (And.intro hd h14)
                clear hpre hcl hK hd h14 q0 f0 f1 f2 f3 f4 f5 f6 f7 f8 f9 f10 f11 f12 f13 f14
                try clear hp
                simp only [Act.put, List.setIfInBounds_toArray, List.set_cons_zero, List.set_cons_succ] at hA
                subst hA
                go_simp
                obtain ⟨q0, f0, f1, f2, f3, f4, f5, f6, f7, f8, f9, f10, f11, f12, f13, f14⟩ := HF.out
                obtain ⟨hd, h14⟩ := HD2.out
                exact HK.out _ _ ⟨t63, t64, t65, t66, t67, t68, t69, t70, (.int .i64 (i : Int)), t72, t73, t74, t75, t76, t77, t78, t5, by simp only [Act.put, List.setIfInBounds_toArray, List.set_cons_zero, List.set_cons_succ], .inl ⟨h14, hB, q0, f0, f1, f2, f3, f4, f5, f6, f7, fun _ => rfl, f9, f10, f11, f12, f13, f14⟩⟩
              · obtain ⟨t63, t64, t65, t66, t67, t68, t69, t70, t71, t72, t73, t74, t75, t76, t77, t78, t5, hA, hJ⟩ := hJ
                have hJ1 : d 15 = false ∧ _ := hJ.resolve_right (fun h => by have h2 := h.2.1 9 (by omega); rw [hd] at h2; cases h2)
                obtain ⟨h14, hB, q0, f0, f1, f2, f3, f4, f5, f6, f7, f8, f9, f10, f11, f12, f13, f14⟩ := hJ1
                clear hJ
                have hp := hpre; simp [Region.binds] at hp
                obtain rfl := f7 hp.1
                obtain rfl := f8 hp.2
                have HF := Lib.hid (And.intro q0 (And.intro f0 (And.intro f1 (And.intro f2 (And.intro f3 (And.intro f4 (And.intro f5 (And.intro f6 (And.intro f7 (And.intro f8 (And.intro f9 (And.intro f10 (And.intro f11 (And.intro f12 (And.intro f13 (f14))))))))))))))))
                have HK := Lib.hid hK
                have HD2 := Lib.hid (And.intro hd h14)
                clear hpre hcl hK hd h14 q0 f0 f1 f2 f3 f4 f5 f6 f7 f8 f9 f10 f11 f12 f13 f14
                try clear hp
                simp only [Act.put, List.setIfInBounds_toArray, List.set_cons_zero, List.set_cons_succ] at hA
                subst hA
                go_simp
                obtain ⟨q0, f0, f1, f2, f3, f4, f5, f6, f7, f8, f9, f10, f11, f12, f13, f14⟩ := HF.out
                obtain ⟨hd, h14⟩ := HD2.out
                exact HK.out _ _ ⟨t63, t64, t65, t66, t67, t68, t69, ((.slice (some ⟨g2, 0, none⟩) N cap2)), (.int .i64 (i : Int)), (.pointer (some ⟨g2, i * 4, none⟩)), t73, t74, t75, t76, t77, t78, t5, by simp only [Act.put, List.setIfInBounds_toArray, List.set_cons_zero, List.set_cons_succ], .inl ⟨h14, hB, q0, f0, f1, f2, f3, f4, f5, f6, f7, f8, fun _ => rfl, f10, f11, f12, f13, f14⟩⟩
              · obtain ⟨t63, t64, t65, t66, t67, t68, t69, t70, t71, t72, t73, t74, t75, t76, t77, t78, t5, hA, hJ⟩ := hJ
                have hJ1 : d 15 = false ∧ _ := hJ.resolve_right (fun h => by have h2 := h.2.1 10 (by omega); rw [hd] at h2; cases h2)
                obtain ⟨h14, hB, q0, f0, f1, f2, f3, f4, f5, f6, f7, f8, f9, f10, f11, f12, f13, f14⟩ := hJ1
                clear hJ
                have hp := hpre; simp [Region.binds] at hp
                obtain rfl := f9 hp
                have HF := Lib.hid (And.intro q0 (And.intro f0 (And.intro f1 (And.intro f2 (And.intro f3 (And.intro f4 (And.intro f5 (And.intro f6 (And.intro f7 (And.intro f8 (And.intro f9 (And.intro f10 (And.intro f11 (And.intro f12 (And.intro f13 (f14))))))))))))))))
                have HK := Lib.hid hK
                have HD2 := Lib.hid (And.intro hd h14)
                clear hpre hcl hK hd h14 q0 f0 f1 f2 f3 f4 f5 f6 f7 f8 f9 f10 f11 f12 f13 f14
                try clear hp
                simp only [Act.put, List.setIfInBounds_toArray, List.set_cons_zero, List.set_cons_succ] at hA
                subst hA
                go_simp
                obtain ⟨q0, f0, f1, f2, f3, f4, f5, f6, f7, f8, f9, f10, f11, f12, f13, f14⟩ := HF.out
                obtain ⟨hd, h14⟩ := HD2.out
                exact HK.out _ _ ⟨t63, t64, t65, t66, t67, t68, t69, t70, t71, (.pointer (some ⟨g2, i * 4, none⟩)), (.pointer (some ⟨g2, i * 4 + 3, none⟩)), t74, t75, t76, t77, t78, t5, by simp only [Act.put, List.setIfInBounds_toArray, List.set_cons_zero, List.set_cons_succ], .inl ⟨h14, hB, q0, f0, f1, f2, f3, f4, f5, f6, f7, f8, f9, fun _ => rfl, f11, f12, f13, f14⟩⟩
              · obtain ⟨t63, t64, t65, t66, t67, t68, t69, t70, t71, t72, t73, t74, t75, t76, t77, t78, t5, hA, hJ⟩ := hJ
                have hJ1 : d 15 = false ∧ _ := hJ.resolve_right (fun h => by have h2 := h.2.1 11 (by omega); rw [hd] at h2; cases h2)
                obtain ⟨h14, hB, q0, f0, f1, f2, f3, f4, f5, f6, f7, f8, f9, f10, f11, f12, f13, f14⟩ := hJ1
                clear hJ
                have hp := hpre; simp [Region.binds] at hp
                obtain rfl := f10 hp
                have hcm := cell_of hB hqs
                have HF := Lib.hid (And.intro q0 (And.intro f0 (And.intro f1 (And.intro f2 (And.intro f3 (And.intro f4 (And.intro f5 (And.intro f6 (And.intro f7 (And.intro f8 (And.intro f9 (And.intro f10 (And.intro f11 (And.intro f12 (And.intro f13 (f14))))))))))))))))
                have HK := Lib.hid hK
                have HD2 := Lib.hid (And.intro hd h14)
                clear hpre hcl hK hd h14 q0 f0 f1 f2 f3 f4 f5 f6 f7 f8 f9 f10 f11 f12 f13 f14
                try clear hp
                simp only [Act.put, List.setIfInBounds_toArray, List.set_cons_zero, List.set_cons_succ] at hA
                subst hA
                go_simp
                obtain ⟨q0, f0, f1, f2, f3, f4, f5, f6, f7, f8, f9, f10, f11, f12, f13, f14⟩ := HF.out
                obtain ⟨hd, h14⟩ := HD2.out
                exact HK.out _ _ ⟨t63, t64, t65, t66, t67, t68, t69, t70, t71, t72, (.pointer (some ⟨g2, i * 4 + 3, none⟩)), (.int .i64 (y.pt.length : Int)), t75, t76, t77, t78, t5, by simp only [Act.put, List.setIfInBounds_toArray, List.set_cons_zero, List.set_cons_succ], .inl ⟨h14, hB, q0, f0, f1, f2, f3, f4, f5, f6, f7, f8, f9, f10, fun _ => rfl, f12, f13, f14⟩⟩
              · obtain ⟨t63, t64, t65, t66, t67, t68, t69, t70, t71, t72, t73, t74, t75, t76, t77, t78, t5, hA, hJ⟩ := hJ
                have hJ1 : d 15 = false ∧ _ := hJ.resolve_right (fun h => by have h2 := h.2.1 12 (by omega); rw [hd] at h2; cases h2)
                obtain ⟨h14, hB, q0, f0, f1, f2, f3, f4, f5, f6, f7, f8, f9, f10, f11, f12, f13, f14⟩ := hJ1
                clear hJ
                have hp := hpre; simp [Region.binds] at hp
                obtain rfl := f11 hp
                have hwr : IntKind.i64.wrap ((y.pt.length : Int) + 1) = (y.pt.length : Int) + 1 := IntWalk.i64_in _ (by omega)
                have HF := Lib.hid (And.intro q0 (And.intro f0 (And.intro f1 (And.intro f2 (And.intro f3 (And.intro f4 (And.intro f5 (And.intro f6 (And.intro f7 (And.intro f8 (And.intro f9 (And.intro f10 (And.intro f11 (And.intro f12 (And.intro f13 (f14))))))))))))))))
                have HK := Lib.hid hK
                have HD2 := Lib.hid (And.intro hd h14)
                clear hpre hcl hK hd h14 q0 f0 f1 f2 f3 f4 f5 f6 f7 f8 f9 f10 f11 f12 f13 f14
                try clear hp
                simp only [Act.put, List.setIfInBounds_toArray, List.set_cons_zero, List.set_cons_succ] at hA
                subst hA
                go_simp
                obtain ⟨q0, f0, f1, f2, f3, f4, f5, f6, f7, f8, f9, f10, f11, f12, f13, f14⟩ := HF.out
                obtain ⟨hd, h14⟩ := HD2.out
                exact HK.out _ _ ⟨t63, t64, t65, t66, t67, t68, t69, t70, t71, t72, t73, (.int .i64 (y.pt.length : Int)), (.int .i64 ((y.pt.length : Int) + 1)), t76, t77, t78, t5, by simp only [Act.put, List.setIfInBounds_toArray, List.set_cons_zero, List.set_cons_succ], .inl ⟨h14, hB, q0, f0, f1, f2, f3, f4, f5, f6, f7, f8, f9, f10, f11, fun _ => rfl, f13, f14⟩⟩
              · obtain ⟨t63, t64, t65, t66, t67, t68, t69, t70, t71, t72, t73, t74, t75, t76, t77, t78, t5, hA, hJ⟩ := hJ
                have hJ1 : d 15 = false ∧ _ := hJ.resolve_right (fun h => by have h2 := h.2.1 13 (by omega); rw [hd] at h2; cases h2)
                obtain ⟨h14, hB, q0, f0, f1, f2, f3, f4, f5, f6, f7, f8, f9, f10, f11, f12, f13, f14⟩ := hJ1
                clear hJ
                have hp := hpre; simp [Region.binds] at hp
                obtain rfl := f1 hp.1
                obtain rfl := f2 hp.2.1
                obtain rfl := f6 hp.2.2.1
                obtain rfl := f12 hp.2.2.2
                have HF := Lib.hid (And.intro q0 (And.intro f0 (And.intro f1 (And.intro f2 (And.intro f3 (And.intro f4 (And.intro f5 (And.intro f6 (And.intro f7 (And.intro f8 (And.intro f9 (And.intro f10 (And.intro f11 (And.intro f12 (And.intro f13 (f14))))))))))))))))
                have HK := Lib.hid hK
                have HD2 := Lib.hid (And.intro hd h14)
                clear hpre hcl hK hd h14 q0 f0 f1 f2 f3 f4 f5 f6 f7 f8 f9 f10 f11 f12 f13 f14
                try clear hp
                simp only [Act.put, List.setIfInBounds_toArray, List.set_cons_zero, List.set_cons_succ] at hA
                subst hA
                go_simp
                obtain ⟨q0, f0, f1, f2, f3, f4, f5, f6, f7, f8, f9, f10, f11, f12, f13, f14⟩ := HF.out
                obtain ⟨hd, h14⟩ := HD2.out
                exact HK.out _ _ ⟨t63, ((.slice A3 n c3)), (.int .i64 (i : Int)), t66, t67, t68, (.int .i64 (mv : Int)), t70, t71, t72, t73, t74, (.int .i64 ((y.pt.length : Int) + 1)), ((.agg #[.slice A3 n c3, .int .i64 (i : Int), .int .i64 (mv : Int), .int .i64 ((y.pt.length : Int) + 1)])), t77, t78, t5, by simp only [Act.put, List.setIfInBounds_toArray, List.set_cons_zero, List.set_cons_succ], .inl ⟨h14, hB, q0, f0, f1, f2, f3, f4, f5, f6, f7, f8, f9, f10, f11, f12, fun _ => rfl, f14⟩⟩
              · obtain ⟨t63, t64, t65, t66, t67, t68, t69, t70, t71, t72, t73, t74, t75, t76, t77, t78, t5, hA, hJ⟩ := hJ
                have hJ1 : d 15 = false ∧ _ := hJ.resolve_right (fun h => by have h2 := h.2.1 14 (by omega); rw [hd] at h2; cases h2)
                obtain ⟨h14, hB, q0, f0, f1, f2, f3, f4, f5, f6, f7, f8, f9, f10, f11, f12, f13, f14⟩ := hJ1
                clear hJ
                have hp := hpre; simp [Region.binds] at hp
                obtain rfl := f13 hp
                have HF := Lib.hid (And.intro q0 (And.intro f0 (And.intro f1 (And.intro f2 (And.intro f3 (And.intro f4 (And.intro f5 (And.intro f6 (And.intro f7 (And.intro f8 (And.intro f9 (And.intro f10 (And.intro f11 (And.intro f12 (And.intro f13 (f14))))))))))))))))
                have HK := Lib.hid hK
                have HD2 := Lib.hid (And.intro hd h14)
                clear hpre hcl hK hd h14 q0 f0 f1 f2 f3 f4 f5 f6 f7 f8 f9 f10 f11 f12 f13 f14
                try clear hp
                simp only [Act.put, List.setIfInBounds_toArray, List.set_cons_zero, List.set_cons_succ] at hA
                subst hA
                go_simp
                obtain ⟨q0, f0, f1, f2, f3, f4, f5, f6, f7, f8, f9, f10, f11, f12, f13, f14⟩ := HF.out
                obtain ⟨hd, h14⟩ := HD2.out
                have hb := bw_alloc (Below.refl W.heap.size W) (.cells #[(.slice A3 n c3), .int .i64 (i : Int), .int .i64 (mv : Int), .int .i64 ((y.pt.length : Int) + 1)] 63)
                exact HK.out _ _ ⟨t63, t64, t65, t66, t67, t68, t69, t70, t71, t72, t73, t74, t75, ((.agg #[.slice A3 n c3, .int .i64 (i : Int), .int .i64 (mv : Int), .int .i64 ((y.pt.length : Int) + 1)])), (.slice (some ⟨W.heap.size, 0, none⟩) 1 1), t78, t5, by simp only [Act.put, List.setIfInBounds_toArray, List.set_cons_zero, List.set_cons_succ], .inl ⟨h14, bw_trans hB hb, q0, f0, f1, f2, f3, f4, f5, f6, f7, f8, f9, f10, f11, f12, f13, fun _ => ⟨W.heap.size, rfl, heap_alloc_new _ _⟩⟩⟩
              · obtain ⟨t63, t64, t65, t66, t67, t68, t69, t70, t71, t72, t73, t74, t75, t76, t77, t78, t5, hA, hJ⟩ := hJ
                have hJ1 : d 15 = false ∧ _ := hJ.resolve_right (fun h => by have h2 := h.1; rw [hd] at h2; cases h2)
                obtain ⟨h14, hB, q0, f0, f1, f2, f3, f4, f5, f6, f7, f8, f9, f10, f11, f12, f13, f14⟩ := hJ1
                clear hJ
                have hp := hpre; simp [Region.binds] at hp
                obtain rfl := f0 hp.1
                obtain ⟨b, rfl, hbb⟩ := f14 hp.2
                have HNW := Lib.hid (World.news_of_block hbb)
                have c14 := hcl 14 _ rfl (by simp [hp])
                simp [Region.binds] at c14
                have c13 := hcl 13 _ rfl (by simp [c14])
                simp [Region.binds] at c13
                have c6 := hcl 6 _ rfl (by simp [c13])
                simp [Region.binds] at c6
                have c5 := hcl 5 _ rfl (by simp [c6])
                simp [Region.binds] at c5
                have c12 := hcl 12 _ rfl (by simp [c13])
                simp [Region.binds] at c12
                have c11 := hcl 11 _ rfl (by simp [c12])
                simp [Region.binds] at c11
                have c10 := hcl 10 _ rfl (by simp [c11])
                simp [Region.binds] at c10
                have c9 := hcl 9 _ rfl (by simp [c10])
                simp [Region.binds] at c9
                have hall : ∀ j, j < 15 → d j = true := by
                  intro j hj
                  have hj2 : j = 0 ∨ j = 1 ∨ j = 2 ∨ j = 3 ∨ j = 4 ∨ j = 5 ∨ j = 6 ∨ j = 7 ∨ j = 8 ∨ j = 9 ∨ j = 10 ∨ j = 11 ∨ j = 12 ∨ j = 13 ∨ j = 14 := by omega
                  rcases hj2 with rfl | rfl | rfl | rfl | rfl | rfl | rfl | rfl | rfl | rfl | rfl | rfl | rfl | rfl | rfl <;> simp only [hp, c14, c13, c6, c5, c12, c11, c10, c9]
                have h16 : d 16 = false := by
                  cases h : d 16
                  · rfl
                  · have h2 := hcl 16 _ rfl h
                    simp [Region.binds] at h2
                    rw [hd] at h2; simp at h2
                clear c14 c13 c6 c5 c12 c11 c10 c9
                have H16 := Lib.hid (And.intro h16 hall)
                clear h16 hall
                have HF := Lib.hid (And.intro q0 (And.intro f0 (And.intro f1 (And.intro f2 (And.intro f3 (And.intro f4 (And.intro f5 (And.intro f6 (And.intro f7 (And.intro f8 (And.intro f9 (And.intro f10 (And.intro f11 (And.intro f12 (And.intro f13 (f14))))))))))))))))
                have HK := Lib.hid hK
                have HD2 := Lib.hid (And.intro hd h14)
                have HP2 := Lib.hid hp
                clear hpre hcl hK hd h14 q0 f0 f1 f2 f3 f4 f5 f6 f7 f8 f9 f10 f11 f12 f13 f14
                try clear hp
                simp only [Act.put, List.setIfInBounds_toArray, List.set_cons_zero, List.set_cons_succ] at hA
                subst hA
                refine stepAppW (by rfl) _ _ (by rfl) w.heap.size (.slice (some ⟨g2, 0, none⟩) N cap2) cs (by rfl) (kept_below HQO.out hB) b _ (by rfl) HNW.out rfl (by simp [Value.oneCell']) (by omega) (Nat.le_trans hszb hB.size) ?_
                intro v8 wc hown1 hg1 hl1
                obtain ⟨q0, f0, f1, f2, f3, f4, f5, f6, f7, f8, f9, f10, f11, f12, f13, f14⟩ := HF.out
                obtain ⟨hd, h14⟩ := HD2.out
                obtain ⟨h16, hall⟩ := H16.out
                exact HK.out _ _ ⟨(.slice (some ⟨g2, 0, none⟩) N cap2), t64, t65, t66, t67, t68, t69, t70, t71, t72, t73, t74, t75, t76, (.slice (some ⟨b, 0, none⟩) 1 1), v8, t5, by simp only [Act.put, List.setIfInBounds_toArray, List.set_cons_zero, List.set_cons_succ], .inr ⟨upD_same _ _, fun j hj => upD_true (hall j hj), W, hB, hown1, hg1, hl1, fun h => absurd (show d 16 = true from h) (by simp [h16])⟩⟩
              · obtain ⟨t63, t64, t65, t66, t67, t68, t69, t70, t71, t72, t73, t74, t75, t76, t77, t78, t5, hA, hJ⟩ := hJ
                have hp := hpre; simp [Region.binds] at hp
                have hJ2 : d 15 = true ∧ _ := hJ.resolve_left (fun h => by have h2 := h.1; rw [hp.1] at h2; cases h2)
                obtain ⟨h15, hall, w4, hB4, hO4, hG4, hl4, _⟩ := hJ2
                have HZ := Lib.hid (And.intro h15 (And.intro hall (And.intro hB4 (And.intro hO4 (And.intro hG4 hl4)))))
                have HK := Lib.hid hK
                clear hpre hcl hK hd hp hJ h15 hall hB4 hO4 hG4 hl4
                simp only [Act.put, List.setIfInBounds_toArray, List.set_cons_zero, List.set_cons_succ] at hA
                subst hA
                go_simp
                obtain ⟨h15, hall, hB4, hO4, hG4, hl4⟩ := HZ.out
                exact HK.out _ _ ⟨t63, t64, t65, t66, t67, t68, t69, t70, t71, t72, t73, t74, t75, t76, t77, t78, t78, by simp only [Act.put, List.setIfInBounds_toArray, List.set_cons_zero, List.set_cons_succ], .inr ⟨upD_true h15, fun j hj => upD_true (hall j hj), w4, hB4, hO4, hG4, hl4, fun _ => rfl⟩⟩
            · rintro d a' W hall ⟨t63, t64, t65, t66, t67, t68, t69, t70, t71, t72, t73, t74, t75, t76, t77, t78, t5, hA, hJ⟩
              obtain ⟨h15, _, w4, hB4, hO4, hG4, hl4, he5⟩ := hJ.resolve_left (fun h => by have h2 := h.1; rw [hall 15 (by decide)] at h2; cases h2)
              obtain rfl := he5 (hall 16 (by decide))
              clear hall hJ h15
              simp only [Act.put, List.setIfInBounds_toArray, List.set_cons_zero, List.set_cons_succ] at hA
              subst hA
              have HEND := Lib.hid (And.intro hB4 (And.intro hO4 (And.intro hG4 hl4)))
              clear hB4 hO4 hG4 hl4 he5
              go_wp2_with fail
              go_roundg (ms.length - (k + 1))
              case rel =>
                obtain ⟨hB4, hO4, hG4, hl4⟩ := HEND.out
                obtain ⟨hP, hS⟩ := HPU.out _ _ _ hB4 hO4 hG4 hl4
                exact ⟨k + 1, cs ++ [(.slice A3 n c3), .int .i64 (i : Int), .int .i64 (mv : Int), .int .i64 ((y.pt.length : Int) + 1)], by omega, rfl, by go_num, by rw [HST.out]; exact hP, hS, HBW.out _ _ hB4 hG4⟩
              case measure => omega
        · have k2 : ¬ ((k : Int) < (ms.length : Int)) := by omega
          have HKE := Lib.hid (show ms.take k = ms by rw [List.take_of_length_le (by omega)])
          rw [HKE.out] at hRS
          have HRS := Lib.hid (show RS w wr (lev ok n ps (i + 1)) (.slice (some ⟨g2, 0, none⟩) N cap2) cs by rw [HE.out, ← HFI.out]; exact hRS.out)
          clear hRS hVS HIN HSG HVV hcq hqs hSi HMV HGD
          go_wp2_with fail
          go_roundg (256 - (i + 1))
          case rel => exact ⟨i + 1, cs, by omega, rfl, by go_num, HRS, hbr⟩
          case measure => omega
    · have HAL := Lib.hid (HALL.out i hlt)
      obtain ⟨A', c', rfl, hsl⟩ := hRS.out.sl HG.out.1
      have hlt2 : ¬ ((i : Int) < ((lev ok n ps i).length : Int)) := by omega
      have HSL := Lib.hid hsl
      clear hRS HALL HMV HMS HGD hlt hsl
      generalize lev ok n ps i = out0 at *
      go_wp2_with fail
      go_ret
      rw [HAL.out]
      exact ⟨A', c', rfl, HSL.out, hbr⟩
end Go.Proofs.Yticohpimkicphaa
