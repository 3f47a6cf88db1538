/-
  Slides: all places that are reached: in the program, walked.
-/
import Derived.Test.YticohpimkicphaaYm
namespace Go.Proofs.Yticohpimkicphaa
open Go.RowKit
open Go.Maps (Keyed)

set_option maxRecDepth 100000 in
set_option maxHeartbeats 6400000 in
theorem reach_any (A : Option Addr) (n c : Nat) (ss : List Int) (B : Option Addr) (m d : Nat) (bs : List BrE) (P : Option Addr) (e : Nat) (ps : List Int) (w : World) (HS : SlI w A n ss) (HB : SlBr w B m bs) (HP : SlI w P n ps) (n1 : 1 ≤ n) (hn : n ≤ 4) (hm : m ≤ 8) (hst : stBd ss n) (hbd : brBd bs m n) (hpl : plB ss ps n = true) :
    Calls Try.prog 50 #[.agg #[.slice A n c, .slice B m d], .slice P n e] w (GivesR (allN (mvOk ss n bs) n ps) w) := by
  have hmm := @run_makeMap Try.prog
  have HGD := Lib.hid (fun i => GdN.lev (V := fun qs => plB ss qs n = true) (ok := mvOk ss n bs) (n := n) hpl (fun qs mv h => (Bool.and_eq_true_iff.1 h).1) i)
  have HVN := Lib.hid (fun qs (h : plB ss qs n = true) => vn_of hst h)
  have HALL := Lib.hid (fun i hi => all_of (V := fun qs => plB ss qs n = true) (ok := mvOk ss n bs) (i := i) hpl (fun qs mv h => (Bool.and_eq_true_iff.1 h).1) (fun qs h => vn_of hst h) hn hi)
  have HMV := Lib.hid (fun (P' : Option Addr) (e' : Nat) (qs : List Int) mv (hmv : mv < 2 * n) W (hW : Below w.heap.size w W) (hq : plB ss qs n = true) (h : SlI W P' n qs) => moved_any A n c ss B m d bs P' e' qs mv W (HS.below hW) (HB.below hW) h hn hm hst hbd hq hmv)
  have HV := Lib.hid (fun qs mv (h : mvOk ss n bs qs mv = true) => show (fun qs => plB ss qs n = true) (mvL qs mv) from (Bool.and_eq_true_iff.1 h).1)
  have hpk := kw_of (vn_of hst hpl)
  generalize mvOk ss n bs = ok at *
  go_enter Try.func50, Try.ntmps50
  go_wp2_with fail
  have hb0 : Below w.heap.size w ((w.alloc (.cells #[.slice A n c, .slice B m d] 33)).alloc (.map #[] 0)) := by (repeat (first | exact Below.refl _ _ | refine bw_drew ?_ | refine bw_drewN ?_ _ | refine bw_set ?_ (by simp; try omega) _ | refine bw_alloc ?_ _ | refine bw_trans ?_ (by assumption) | assumption))
  have hm0 : ((w.alloc (.cells #[.slice A n c, .slice B m d] 33)).alloc (.map #[] 0)).ownsMap Try.prog 71 heldR (w.heap.size + 1) 0 (.map []) := by
    have h := World.ownsMap_made (w.alloc (.cells #[.slice A n c, .slice B m d] 33)) Try.prog 71 heldR
    simpa using h
  refine (key_any P n e ps _ (HP.below hb0) ⟨n1, hn⟩).mono ?_
  rintro e w1 ⟨rfl, hb1⟩
  have hbw1 : Below w.heap.size w w1 := bw_trans hb0 hb1
  have hm1 : (w1.alloc (.cells #[] 2)).ownsMap Try.prog 71 heldR (w.heap.size + 1) 0 (.map []) := (hm0.kept (grown_of_below hb1 none) (by simp)).alloc _
  have hs1 : w.heap.size + 2 ≤ w1.heap.size := by have h := hb1.size; simpa using h
  have hx0 : w1.cell? ⟨w.heap.size, 0, none⟩ = some (.slice A n c) := cell_of hb1 (by go_simp)
  have hx1 : w1.cell? ⟨w.heap.size, 1, none⟩ = some (.slice B m d) := cell_of hb1 (by go_simp)
  have hbl1 : Below w.heap.size w (w1.alloc (.cells #[] 2)) := bw_alloc hbw1 _
  clear hb0 hm0 hb1
  go_wp2_with (refine wpInsert _ rfl _ _ _ 68 rfl 71 22 keyLaw Try.underlying68 heldR (w.heap.size + 1) 0 (.map []) rfl hm1 (by unfold maxLen; omega) _ _ (keyL ps) rfl rfl (key_of hpk) (.held (.slice (some ⟨w1.heap.size, 0, none⟩) 0 0)) [] rfl ?_; intro w2 hown2 hg2)
  have hO2 : OwnI w2 (w.heap.size + 2) (.slice (some ⟨w1.heap.size, 0, none⟩) 0 0) [] := (OwnI.lit w1 hs1).grown hg2 (.inr (by show some w1.heap.size ≠ some (w.heap.size + 1); intro e; injection e; omega))
  have hbw2 : Below w.heap.size w w2 := bw_from hbl1 (below_grown hg2 (fun j hj => by injection hj with hj; omega) hbl1.size)
  have hs2 : w.heap.size + 2 ≤ w2.heap.size := by have h := hg2.size; rw [World.size_alloc] at h; omega
  have hy0 : w2.cell? ⟨w.heap.size, 0, none⟩ = some (.slice A n c) := (hg2.cell_far ⟨w.heap.size, 0, none⟩ (by simp; omega) (by simp)).trans (cell_of (bw_alloc (Below.refl w1.heap.size w1) _) hx0)
  have hy1 : w2.cell? ⟨w.heap.size, 1, none⟩ = some (.slice B m d) := (hg2.cell_far ⟨w.heap.size, 1, none⟩ (by simp; omega) (by simp)).trans (cell_of (bw_alloc (Below.refl w1.heap.size w1) _) hx1)
  have HRS := Lib.hid (RR.start (e := e) HP n1 hbw2 hown2 hO2 hs2)
  have hbq : Below w.heap.size w (w2.alloc (.cells #[.slice P n e] 22)) := bw_alloc hbw2 _
  clear hx0 hx1 hg2 hown2 hO2 hm1 hmm hbl1 hbw1 hs1 hpk HS HB HP hst hbd
  have hz0 := cell_of (bw_alloc (Below.refl w2.heap.size w2) (.cells #[.slice P n e] 22)) hy0
  have hz1 := cell_of (bw_alloc (Below.refl w2.heap.size w2) (.cells #[.slice P n e] 22)) hy1
  clear hy0 hy1 hpl
  go_wp2_with fail
  go_loopg [6, 7] 256 (fun gh q x wr => ∃ (i : Nat) (qs vs : List Value), i ≤ 256 ∧ gh = 256 - i ∧ x = .int .i64 i ∧ Hid (RR w wr (lev ok n ps i) q qs vs) ∧ Below w.heap.size w wr ∧ wr.cell? ⟨w.heap.size, 0, none⟩ = some (.slice A n c) ∧ wr.cell? ⟨w.heap.size, 1, none⟩ = some (.slice B m d))
  case atStart => exact ⟨0, _, _, by omega, by omega, rfl, HRS, hbq, hz0, hz1⟩
  case round =>
    clear HRS hbq hz0 hz1 hbw2 hs2
    obtain ⟨i, qs, vs, hi, rfl, rfl, hRR, hbr, hx0, hx1⟩ := hrel
    have HG := Lib.hid (HGD.out i)
    by_cases hlt : i < (lev ok n ps i).length
    · have hL := HG.out.le HVN.out hn
      have HE := Lib.hid (lev_yes hlt)
      obtain ⟨out0, hO⟩ : ∃ out0, lev ok n ps i = out0 := ⟨_, rfl⟩
      rw [hO] at hRR HG HE hL hlt
      have hRR2 := hRR.out
      obtain ⟨g, cap, rfl, -, -, -⟩ := hRR2.head hlt
      clear hRR2
      have i1 : (i : Int) < (out0.length : Int) := by omega
      have hlw : w.heap.size < wr.heap.size := World.block_lt_of_cell? wr _ hx0
      clear HALL
      go_wp2_with fail
      go_loopg [6, 30] (2 * n) (fun gh q x wr => ∃ (k : Nat) (qs vs : List Value), k ≤ 2 * n ∧ gh = 2 * n - k ∧ x = .int .i64 k ∧ Hid (RR w wr (inn ok (out0.getD i Nd.zero) out0 i k) q qs vs) ∧ Below w.heap.size w wr ∧ wr.cell? ⟨w.heap.size, 0, none⟩ = some (.slice A n c) ∧ wr.cell? ⟨w.heap.size, 1, none⟩ = some (.slice B m d))
      case atStart => exact ⟨0, qs, vs, by omega, by omega, rfl, hRR, hbr, hx0, hx1⟩
      case round =>
        clear hRR hbr hx0 hx1 hlw qs vs
        obtain ⟨k, qs, vs, hk, rfl, rfl, hRR, hbr, hx0, hx1⟩ := hrel
        have hlw : w.heap.size < wr.heap.size := World.block_lt_of_cell? wr _ hx0
        have HI := Lib.hid (HG.out.inn hlt HV.out k)
        obtain ⟨hG2, zs, hzs⟩ := HI.out
        have hil : i < (inn ok (out0.getD i Nd.zero) out0 i k).length := by rw [hzs, List.length_append]; omega
        have hyi : (inn ok (out0.getD i Nd.zero) out0 i k).getD i Nd.zero = out0.getD i Nd.zero := by rw [hzs, getD_left hlt]
        have hL2 := hG2.le HVN.out hn
        have hpy := HG.out.2.2.1 _ (getD_in hlt)
        have hvn := HVN.out _ hpy
        have hyl : (out0.getD i Nd.zero).pl.length = n := hvn.1
        have hVV := Lib.hid (fun z (hz : z ∈ inn ok (out0.getD i Nd.zero) out0 i k) => kw_of (HVN.out _ (hG2.2.2.1 z hz)))
        have hND := Lib.hid hG2.2.2.2.1
        have hRR2 := hRR.out
        have hhd := hRR2.head hil
        obtain ⟨N, hN⟩ : ∃ N, (inn ok (out0.getD i Nd.zero) out0 i k).length = N := ⟨_, rfl⟩
        rw [hN] at hhd
        obtain ⟨g, cap, rfl, hcq, hgl, hgB⟩ := hhd
        obtain ⟨⟨Ai, ci, hqi, hSi, hAi⟩, hOi⟩ := hRR2.2.2.2.2 i hil
        have hmap := hRR2.2.2.2.1
        rw [hyi] at hqi hSi hOi
        rw [hyl] at hqi hSi
        rw [hqi] at hcq
        have HMP := Lib.hid hmap
        have HSI := Lib.hid hSi
        have HOI := Lib.hid hOi
        clear hRR2 hmap hSi hAi hOi hzs zs hqi hG2
        have HIS := Lib.hid (inn_succ ok (out0.getD i Nd.zero) out0 i k)
        have hi2 : (i : Int) < (N : Int) := by omega
        have hi0 : (0 : Int) ≤ (i : Int) := by omega
        by_cases hlk : k < 2 * n
        · have hk2 : (k : Int) < 2 * (n : Int) := by omega
          have HM := Lib.hid (fun W (hW : Below w.heap.size w W) (hS : SlI W Ai n (out0.getD i Nd.zero).pl) => HMV.out Ai ci (out0.getD i Nd.zero).pl k hlk W hW hpy hS)
          have hkw := kw_mv (mv := k) hvn
          have hky := kw_of hvn
          have hHAS := Lib.hid (mp_hasN (vs := vs) hn hVV.out hkw)
          have hATY := Lib.hid (fun z => mp_at (vs := vs) hn hVV.out hND.out (Nat.le_refl _) hil z)
          rw [hyi] at hATY
          have HBR := Lib.hid hbr
          clear HMV hpy hvn
          obtain ⟨y, hy⟩ : ∃ y, out0.getD i Nd.zero = y := ⟨_, rfl⟩
          have HY := Lib.hid hy
          rw [hy] at HM hkw hky hHAS hATY HIS HSI HOI hRR HI hil hyi hL2 hVV hND hyl HMP HE
          rw [hy] at hN
          have HN := Lib.hid hN
          clear hN
          obtain ⟨R, hR⟩ : ∃ R, ok y.pl k = R := ⟨_, rfl⟩
          rw [hR] at HM
          obtain ⟨X, hX⟩ : ∃ X, hasN (inn ok y out0 i k) (mvL y.pl k) = X := ⟨_, rfl⟩
          rw [hX] at hHAS
          have HRX := Lib.hid (And.intro hR hX)
          clear hR hX
          have hml : (mvL y.pl k).length = n := by rw [mv_len, hyl]
          go_wp2_with fail
          go_region_held3 (fun w' => w'.cell? ⟨w.heap.size, 0, none⟩ = some (.slice A n c) ∧ w'.cell? ⟨w.heap.size, 1, none⟩ = some (.slice B m d) ∧ w'.cell? ⟨g, i, none⟩ = some (.slice Ai n ci))
            (((try dsimp only); (repeat' apply And.intro) <;> first | assumption | go_simp))
            (first | (go_at_call 64; refine (HM.out _ (bw_drew HBR.out) HSI.out).mono ?_; rintro e wa ⟨V, rfl, hOV, hba⟩; (have hv0 := cell_of hba hx0); (have hv1 := cell_of hba hx1); (have hvq := cell_of hba hcq)))
          replace hba : Below wr.heap.size wr wa := bw_trans (bw_drew (Below.refl _ _)) hba
          replace hOV : OwnI wa wr.heap.size V (mvL y.pl k) := hOV
          obtain ⟨Aq, cq, rfl, hSQ⟩ := hOV.formN hml
          have HKQ := Lib.hid (key_any Aq n cq (mvL y.pl k) wa hSQ ⟨n1, hn⟩)
          go_wp2_with fail
          refine HKQ.out.mono ?_
          rintro e wb ⟨rfl, hbb⟩
          have hbab := bw_trans hba hbb
          have hMb : wb.ownsMap Try.prog 71 heldR (w.heap.size + 1) (inn ok y out0 i k).length (mpK (inn ok y out0 i k) vs (inn ok y out0 i k).length) := HMP.out.kept (grown_of_below hbab none) (by simp)
          have HQ := Lib.hid (And.intro (hOV.below hbb) (hSQ.below hbb))
          have hy0 := cell_of hbb hv0
          have hy1 := cell_of hbb hv1
          have hyq := cell_of hbb hvq
          clear HKQ HM hOV hSQ hv0 hv1 hvq hba hbb hcq
          have HMB := Lib.hid hMb
          clear hMb
          cases R
          · clear HMP HQ hyq
            have HST := Lib.hid (HIS.out.trans (stp_no HRX.out.1))
            go_wp2_with (at_lookup; refine wpList_lookup_own_ok _ rfl _ _ 68 rfl 71 22 keyLaw Try.underlying68 heldR (zeroI _) (.held (.slice none 0 0)) [] rfl (w.heap.size + 1) _ _ rfl HMB.out _ _ rfl (key_of hkw) ?_; intro v pz hv; rw [hHAS.out])
            go_roundg (2 * n - (k + 1))
            case rel => exact ⟨k + 1, qs, vs, by omega, rfl, by go_num, by rw [HY.out, HST.out]; exact hRR.out.below hbab, bw_trans HBR.out hbab, hy0, hy1⟩
            case measure => omega
          cases X
          case true =>
            clear HMP HQ hyq
            have HST := Lib.hid (HIS.out.trans (stp_old HRX.out.2))
            go_wp2_with (at_lookup; refine wpList_lookup_own_ok _ rfl _ _ 68 rfl 71 22 keyLaw Try.underlying68 heldR (zeroI _) (.held (.slice none 0 0)) [] rfl (w.heap.size + 1) _ _ rfl HMB.out _ _ rfl (key_of hkw) ?_; intro v pz hv; rw [hHAS.out])
            go_roundg (2 * n - (k + 1))
            case rel => exact ⟨k + 1, qs, vs, by omega, rfl, by go_num, by rw [HY.out, HST.out]; exact hRR.out.below hbab, bw_trans HBR.out hbab, hy0, hy1⟩
            case measure => omega
          have HST := Lib.hid (HIS.out.trans (stp_yes HRX.out.1 HRX.out.2))
          go_wp2_with (at_lookup; refine wpList_lookup_own_ok _ rfl _ _ 68 rfl 71 22 keyLaw Try.underlying68 heldR (zeroI _) (.held (.slice none 0 0)) [] rfl (w.heap.size + 1) _ _ rfl HMB.out _ _ rfl (key_of hkw) ?_; intro v pz hv; rw [hHAS.out])
          clear hHAS
          obtain ⟨pv0, hpv⟩ : ∃ pv0, vs.getD i undef = pv0 := ⟨_, rfl⟩
          rw [hpv] at HOI hATY
          rw [HN.out] at HMB hATY HMP
          obtain ⟨D, hD⟩ : ∃ D, mpK (inn ok y out0 i k) vs N = D := ⟨_, rfl⟩
          rw [hD] at HMB hATY
          have HDD := Lib.hid hD
          have hNN : N < maxLen := by unfold maxLen; have := HN.out; omega
          have hLK := fun W (hW : World.ownsMap W Try.prog 71 heldR (w.heap.size + 1) N D) => look_at (key_of hky) hATY.out W hW
          obtain ⟨f, hf⟩ := store_fn (w.heap.size + 1) N D (padK (mvL y.pl k)) (keyL (mvL y.pl k)) (key_of hkw) hNN
          have hUP := fun W v hW => (hf W v hW).1
          have HFP := Lib.hid (fun W v hW => (hf W v hW).2)
          have hgw : w.heap.size + 1 ≠ g := by omega
          have HKN := Lib.hid (fun W (hW : Below wb.heap.size wb W) => key_any Aq n cq (mvL y.pl k) W (HQ.out.2.below hW) ⟨n1, hn⟩)
          have HKI := Lib.hid (fun W (hW : Below wb.heap.size wb W) => key_any Ai n ci y.pl W ((HSI.out.below hbab).below hW) ⟨n1, hn⟩)
          have hptl : y.pt.length ≤ 256 := by
            have h := GdN.pt_len HI.out.1 i hil
            rw [hyi] at h
            omega
          have HCL := Lib.hid (fun W (hW : Below wb.heap.size wb W) => clone0_any (w.heap.size + 2) pv0 y.pt W ((HOI.out.1.below hbab).below hW) (by omega))
          have HBAB := Lib.hid hbab
          have hlg : g < wb.heap.size := World.block_lt_of_cell? wb _ hyq
          clear hf hD hpv hATY hbab
          have HLK := Lib.hid hLK
          have HUP := Lib.hid hUP
          clear hLK hUP
          go_cut [30] from 30 to 73 (fun s30 wx => s30 = .int .i64 (k : Int) ∧ ∃ (w4 : World) (pv : Value), Below wb.heap.size wb w4 ∧ OwnI w4 wb.heap.size pv (y.pt ++ [(k : Int)]) ∧ w4.grownBy wx (some (w.heap.size + 1)) ∧ wx.ownsMap Try.prog 71 heldR (w.heap.size + 1) (N + 1) (D.put (keyL (mvL y.pl k)) (.held pv)))
          case first =>
            refine wp_region_inv' (by kernel_rfl) (by kernel_rfl) (JRe w.heap.size wb N D (keyL (mvL y.pl k)) (.map (some (w.heap.size + 1))) (.slice (some ⟨g, 0, none⟩) N cap) (.slice Aq n cq) (padK y.pl) (padK (mvL y.pl k)) pv0 (.slice Ai n ci) g i k y.pt) ?_ ?_ ?_
            · exact ⟨u55, u56, u57, u58, u59, u60, u61, u62, u63, u64, u65, u66, u67, u68, by simp only [Act.put, List.setIfInBounds_toArray, List.set_cons_zero, List.set_cons_succ], .inl ⟨rfl, (Below.refl _ _).drew, fun h => absurd h (by simp), fun h => absurd h (by simp), fun h => absurd h (by simp), fun h => absurd h (by simp), fun h => absurd h (by simp), fun h => absurd h (by simp), fun h => absurd h (by simp), fun h => absurd h (by simp), fun h => absurd h (by simp), fun h => absurd h (by simp), fun h => absurd h (by simp), fun h => absurd h (by simp), fun h => absurd h (by simp), fun h => absurd h (by simp)⟩⟩
            · refine ⟨?_, ?_, ?_, ?_, ?_, ?_, ?_, ?_, ?_, ?_, ?_, ?_, ?_, ?_, ?_, trivial⟩
              all_goals
                intro d a W hd hpre hcl hJ K hK
              · obtain ⟨t55, t56, t57, t58, t59, t60, t61, t62, t63, t64, t65, t66, t67, t68, hA, hJ⟩ := hJ
                have hJ1 : d 14 = false ∧ _ := hJ.resolve_right (fun h => by have h2 := h.2.1 0 (by omega); rw [hd] at h2; cases h2)
                obtain ⟨h14, hB, f0, f1, f2, f3, f4, f5, f6, f7, f8, f9, f10, f11, f12, f13⟩ := hJ1
                clear hJ
                have HK := Lib.hid hK
                have HD2 := Lib.hid (And.intro hd h14)
                clear hpre hcl hK hd h14
                try clear hp
                have HF := Lib.hid (And.intro f0 (And.intro f1 (And.intro f2 (And.intro f3 (And.intro f4 (And.intro f5 (And.intro f6 (And.intro f7 (And.intro f8 (And.intro f9 (And.intro f10 (And.intro f11 (And.intro f12 f13)))))))))))))
                clear f0 f1 f2 f3 f4 f5 f6 f7 f8 f9 f10 f11 f12 f13
                simp only [Act.put, List.setIfInBounds_toArray, List.set_cons_zero, List.set_cons_succ] at hA
                subst hA
                go_simp
                obtain ⟨f0, f1, f2, f3, f4, f5, f6, f7, f8, f9, f10, f11, f12, f13⟩ := HF.out
                obtain ⟨hd, h14⟩ := HD2.out
                exact HK.out _ _ ⟨(.map (some (w.heap.size + 1))), t56, t57, t58, t59, t60, t61, t62, t63, t64, t65, t66, t67, t68, by simp only [Act.put, List.setIfInBounds_toArray, List.set_cons_zero, List.set_cons_succ], .inl ⟨h14, hB, fun _ => rfl, f1, f2, f3, f4, f5, f6, f7, f8, f9, f10, f11, f12, f13⟩⟩
              · obtain ⟨t55, t56, t57, t58, t59, t60, t61, t62, t63, t64, t65, t66, t67, t68, hA, hJ⟩ := hJ
                have hJ1 : d 14 = false ∧ _ := hJ.resolve_right (fun h => by have h2 := h.2.1 1 (by omega); rw [hd] at h2; cases h2)
                obtain ⟨h14, hB, f0, f1, f2, f3, f4, f5, f6, f7, f8, f9, f10, f11, f12, f13⟩ := hJ1
                clear hJ
                have HK := Lib.hid hK
                have HD2 := Lib.hid (And.intro hd h14)
                clear hpre hcl hK hd h14
                try clear hp
                have HF := Lib.hid (And.intro f0 (And.intro f1 (And.intro f2 (And.intro f3 (And.intro f4 (And.intro f5 (And.intro f6 (And.intro f7 (And.intro f8 (And.intro f9 (And.intro f10 (And.intro f11 (And.intro f12 f13)))))))))))))
                clear f0 f1 f2 f3 f4 f5 f6 f7 f8 f9 f10 f11 f12 f13
                simp only [Act.put, List.setIfInBounds_toArray, List.set_cons_zero, List.set_cons_succ] at hA
                subst hA
                go_simp
                obtain ⟨f0, f1, f2, f3, f4, f5, f6, f7, f8, f9, f10, f11, f12, f13⟩ := HF.out
                obtain ⟨hd, h14⟩ := HD2.out
                exact HK.out _ _ ⟨t55, (.slice Aq n cq), t57, t58, t59, t60, t61, t62, t63, t64, t65, t66, t67, t68, by simp only [Act.put, List.setIfInBounds_toArray, List.set_cons_zero, List.set_cons_succ], .inl ⟨h14, hB, f0, fun _ => rfl, f2, f3, f4, f5, f6, f7, f8, f9, f10, f11, f12, f13⟩⟩
              · obtain ⟨t55, t56, t57, t58, t59, t60, t61, t62, t63, t64, t65, t66, t67, t68, hA, hJ⟩ := hJ
                have hJ1 : d 14 = false ∧ _ := hJ.resolve_right (fun h => by have h2 := h.2.1 2 (by omega); rw [hd] at h2; cases h2)
                obtain ⟨h14, hB, f0, f1, f2, f3, f4, f5, f6, f7, f8, f9, f10, f11, f12, f13⟩ := hJ1
                clear hJ
                have hp := hpre; simp [Region.binds] at hp
                obtain rfl := f1 hp
                have HK := Lib.hid hK
                have HD2 := Lib.hid (And.intro hd h14)
                clear hpre hcl hK hd h14
                try clear hp
                have HF := Lib.hid (And.intro f0 (And.intro f1 (And.intro f2 (And.intro f3 (And.intro f4 (And.intro f5 (And.intro f6 (And.intro f7 (And.intro f8 (And.intro f9 (And.intro f10 (And.intro f11 (And.intro f12 f13)))))))))))))
                clear f0 f1 f2 f3 f4 f5 f6 f7 f8 f9 f10 f11 f12 f13
                simp only [Act.put, List.setIfInBounds_toArray, List.set_cons_zero, List.set_cons_succ] at hA
                subst hA
                go_simp
                refine (HKN.out _ hB).mono ?_
                rintro e w2 ⟨rfl, hb⟩
                go_simp
                obtain ⟨f0, f1, f2, f3, f4, f5, f6, f7, f8, f9, f10, f11, f12, f13⟩ := HF.out
                obtain ⟨hd, h14⟩ := HD2.out
                exact HK.out _ _ ⟨t55, (.slice Aq n cq), (padK (mvL y.pl k)), t58, t59, t60, t61, t62, t63, t64, t65, t66, t67, t68, by simp only [Act.put, List.setIfInBounds_toArray, List.set_cons_zero, List.set_cons_succ], .inl ⟨h14, bw_trans hB hb, f0, f1, fun _ => rfl, f3, f4, f5, f6, f7, f8, f9, fun h1 h2 => (f10 h1 h2).below hb, f11, fun h1 h2 => (by obtain ⟨b, e, hc⟩ := f12 h1 h2; exact ⟨b, e, cell_of hb hc⟩), fun h => (f13 h).below hb⟩⟩
              · obtain ⟨t55, t56, t57, t58, t59, t60, t61, t62, t63, t64, t65, t66, t67, t68, hA, hJ⟩ := hJ
                have hJ1 : d 14 = false ∧ _ := hJ.resolve_right (fun h => by have h2 := h.2.1 3 (by omega); rw [hd] at h2; cases h2)
                obtain ⟨h14, hB, f0, f1, f2, f3, f4, f5, f6, f7, f8, f9, f10, f11, f12, f13⟩ := hJ1
                clear hJ
                have HK := Lib.hid hK
                have HD2 := Lib.hid (And.intro hd h14)
                clear hpre hcl hK hd h14
                try clear hp
                have HF := Lib.hid (And.intro f0 (And.intro f1 (And.intro f2 (And.intro f3 (And.intro f4 (And.intro f5 (And.intro f6 (And.intro f7 (And.intro f8 (And.intro f9 (And.intro f10 (And.intro f11 (And.intro f12 f13)))))))))))))
                clear f0 f1 f2 f3 f4 f5 f6 f7 f8 f9 f10 f11 f12 f13
                simp only [Act.put, List.setIfInBounds_toArray, List.set_cons_zero, List.set_cons_succ] at hA
                subst hA
                go_simp
                obtain ⟨f0, f1, f2, f3, f4, f5, f6, f7, f8, f9, f10, f11, f12, f13⟩ := HF.out
                obtain ⟨hd, h14⟩ := HD2.out
                exact HK.out _ _ ⟨t55, t56, t57, (.map (some (w.heap.size + 1))), t59, t60, t61, t62, t63, t64, t65, t66, t67, t68, by simp only [Act.put, List.setIfInBounds_toArray, List.set_cons_zero, List.set_cons_succ], .inl ⟨h14, hB, f0, f1, f2, fun _ => rfl, f4, f5, f6, f7, f8, f9, f10, f11, f12, f13⟩⟩
              · obtain ⟨t55, t56, t57, t58, t59, t60, t61, t62, t63, t64, t65, t66, t67, t68, hA, hJ⟩ := hJ
                have hJ1 : d 14 = false ∧ _ := hJ.resolve_right (fun h => by have h2 := h.2.1 4 (by omega); rw [hd] at h2; cases h2)
                obtain ⟨h14, hB, f0, f1, f2, f3, f4, f5, f6, f7, f8, f9, f10, f11, f12, f13⟩ := hJ1
                clear hJ
                have HK := Lib.hid hK
                have HD2 := Lib.hid (And.intro hd h14)
                clear hpre hcl hK hd h14
                try clear hp
                have HF := Lib.hid (And.intro f0 (And.intro f1 (And.intro f2 (And.intro f3 (And.intro f4 (And.intro f5 (And.intro f6 (And.intro f7 (And.intro f8 (And.intro f9 (And.intro f10 (And.intro f11 (And.intro f12 f13)))))))))))))
                clear f0 f1 f2 f3 f4 f5 f6 f7 f8 f9 f10 f11 f12 f13
                simp only [Act.put, List.setIfInBounds_toArray, List.set_cons_zero, List.set_cons_succ] at hA
                subst hA
                go_simp
                obtain ⟨f0, f1, f2, f3, f4, f5, f6, f7, f8, f9, f10, f11, f12, f13⟩ := HF.out
                obtain ⟨hd, h14⟩ := HD2.out
                exact HK.out _ _ ⟨t55, t56, t57, t58, (.slice (some ⟨g, 0, none⟩) N cap), t60, t61, t62, t63, t64, t65, t66, t67, t68, by simp only [Act.put, List.setIfInBounds_toArray, List.set_cons_zero, List.set_cons_succ], .inl ⟨h14, hB, f0, f1, f2, f3, fun _ => rfl, f5, f6, f7, f8, f9, f10, f11, f12, f13⟩⟩
              · obtain ⟨t55, t56, t57, t58, t59, t60, t61, t62, t63, t64, t65, t66, t67, t68, hA, hJ⟩ := hJ
                have hJ1 : d 14 = false ∧ _ := hJ.resolve_right (fun h => by have h2 := h.2.1 5 (by omega); rw [hd] at h2; cases h2)
                obtain ⟨h14, hB, f0, f1, f2, f3, f4, f5, f6, f7, f8, f9, f10, f11, f12, f13⟩ := hJ1
                clear hJ
                have HK := Lib.hid hK
                have HD2 := Lib.hid (And.intro hd h14)
                clear hpre hcl hK hd h14
                try clear hp
                have HF := Lib.hid (And.intro f0 (And.intro f1 (And.intro f2 (And.intro f3 (And.intro f4 (And.intro f5 (And.intro f6 (And.intro f7 (And.intro f8 (And.intro f9 (And.intro f10 (And.intro f11 (And.intro f12 f13)))))))))))))
                clear f0 f1 f2 f3 f4 f5 f6 f7 f8 f9 f10 f11 f12 f13
                simp only [Act.put, List.setIfInBounds_toArray, List.set_cons_zero, List.set_cons_succ] at hA
                subst hA
                go_simp
                obtain ⟨f0, f1, f2, f3, f4, f5, f6, f7, f8, f9, f10, f11, f12, f13⟩ := HF.out
                obtain ⟨hd, h14⟩ := HD2.out
                exact HK.out _ _ ⟨t55, t56, t57, t58, t59, (.int .i64 (i : Int)), t61, t62, t63, t64, t65, t66, t67, t68, by simp only [Act.put, List.setIfInBounds_toArray, List.set_cons_zero, List.set_cons_succ], .inl ⟨h14, hB, f0, f1, f2, f3, f4, fun _ => rfl, f6, f7, f8, f9, f10, f11, f12, f13⟩⟩
              · obtain ⟨t55, t56, t57, t58, t59, t60, t61, t62, t63, t64, t65, t66, t67, t68, hA, hJ⟩ := hJ
                have hJ1 : d 14 = false ∧ _ := hJ.resolve_right (fun h => by have h2 := h.2.1 6 (by omega); rw [hd] at h2; cases h2)
                obtain ⟨h14, hB, f0, f1, f2, f3, f4, f5, f6, f7, f8, f9, f10, f11, f12, f13⟩ := hJ1
                clear hJ
                have hp := hpre; simp [Region.binds] at hp
                obtain rfl := f4 hp.1
                obtain rfl := f5 hp.2
                have HK := Lib.hid hK
                have HD2 := Lib.hid (And.intro hd h14)
                clear hpre hcl hK hd h14
                try clear hp
                have HF := Lib.hid (And.intro f0 (And.intro f1 (And.intro f2 (And.intro f3 (And.intro f4 (And.intro f5 (And.intro f6 (And.intro f7 (And.intro f8 (And.intro f9 (And.intro f10 (And.intro f11 (And.intro f12 f13)))))))))))))
                clear f0 f1 f2 f3 f4 f5 f6 f7 f8 f9 f10 f11 f12 f13
                simp only [Act.put, List.setIfInBounds_toArray, List.set_cons_zero, List.set_cons_succ] at hA
                subst hA
                go_simp
                obtain ⟨f0, f1, f2, f3, f4, f5, f6, f7, f8, f9, f10, f11, f12, f13⟩ := HF.out
                obtain ⟨hd, h14⟩ := HD2.out
                exact HK.out _ _ ⟨t55, t56, t57, t58, (.slice (some ⟨g, 0, none⟩) N cap), (.int .i64 (i : Int)), (.pointer (some ⟨g, i, none⟩)), t62, t63, t64, t65, t66, t67, t68, by simp only [Act.put, List.setIfInBounds_toArray, List.set_cons_zero, List.set_cons_succ], .inl ⟨h14, hB, f0, f1, f2, f3, f4, f5, fun _ => rfl, f7, f8, f9, f10, f11, f12, f13⟩⟩
              · obtain ⟨t55, t56, t57, t58, t59, t60, t61, t62, t63, t64, t65, t66, t67, t68, hA, hJ⟩ := hJ
                have hJ1 : d 14 = false ∧ _ := hJ.resolve_right (fun h => by have h2 := h.2.1 7 (by omega); rw [hd] at h2; cases h2)
                obtain ⟨h14, hB, f0, f1, f2, f3, f4, f5, f6, f7, f8, f9, f10, f11, f12, f13⟩ := hJ1
                clear hJ
                have hp := hpre; simp [Region.binds] at hp
                obtain rfl := f6 hp
                have hcq := cell_of hB hyq
                have HK := Lib.hid hK
                have HD2 := Lib.hid (And.intro hd h14)
                clear hpre hcl hK hd h14
                try clear hp
                have HF := Lib.hid (And.intro f0 (And.intro f1 (And.intro f2 (And.intro f3 (And.intro f4 (And.intro f5 (And.intro f6 (And.intro f7 (And.intro f8 (And.intro f9 (And.intro f10 (And.intro f11 (And.intro f12 f13)))))))))))))
                clear f0 f1 f2 f3 f4 f5 f6 f7 f8 f9 f10 f11 f12 f13
                simp only [Act.put, List.setIfInBounds_toArray, List.set_cons_zero, List.set_cons_succ] at hA
                subst hA
                go_simp
                obtain ⟨f0, f1, f2, f3, f4, f5, f6, f7, f8, f9, f10, f11, f12, f13⟩ := HF.out
                obtain ⟨hd, h14⟩ := HD2.out
                exact HK.out _ _ ⟨t55, t56, t57, t58, t59, t60, (.pointer (some ⟨g, i, none⟩)), (.slice Ai n ci), t63, t64, t65, t66, t67, t68, by simp only [Act.put, List.setIfInBounds_toArray, List.set_cons_zero, List.set_cons_succ], .inl ⟨h14, hB, f0, f1, f2, f3, f4, f5, f6, fun _ => rfl, f8, f9, f10, f11, f12, f13⟩⟩
              · obtain ⟨t55, t56, t57, t58, t59, t60, t61, t62, t63, t64, t65, t66, t67, t68, hA, hJ⟩ := hJ
                have hJ1 : d 14 = false ∧ _ := hJ.resolve_right (fun h => by have h2 := h.2.1 8 (by omega); rw [hd] at h2; cases h2)
                obtain ⟨h14, hB, f0, f1, f2, f3, f4, f5, f6, f7, f8, f9, f10, f11, f12, f13⟩ := hJ1
                clear hJ
                have hp := hpre; simp [Region.binds] at hp
                obtain rfl := f7 hp.1
                have HK := Lib.hid hK
                have HD2 := Lib.hid (And.intro hd h14)
                clear hpre hcl hK hd h14
                try clear hp
                have HF := Lib.hid (And.intro f0 (And.intro f1 (And.intro f2 (And.intro f3 (And.intro f4 (And.intro f5 (And.intro f6 (And.intro f7 (And.intro f8 (And.intro f9 (And.intro f10 (And.intro f11 (And.intro f12 f13)))))))))))))
                clear f0 f1 f2 f3 f4 f5 f6 f7 f8 f9 f10 f11 f12 f13
                simp only [Act.put, List.setIfInBounds_toArray, List.set_cons_zero, List.set_cons_succ] at hA
                subst hA
                go_simp
                refine (HKI.out _ hB).mono ?_
                rintro e w2 ⟨rfl, hb⟩
                go_simp
                obtain ⟨f0, f1, f2, f3, f4, f5, f6, f7, f8, f9, f10, f11, f12, f13⟩ := HF.out
                obtain ⟨hd, h14⟩ := HD2.out
                exact HK.out _ _ ⟨t55, t56, t57, t58, t59, t60, t61, (.slice Ai n ci), (padK y.pl), t64, t65, t66, t67, t68, by simp only [Act.put, List.setIfInBounds_toArray, List.set_cons_zero, List.set_cons_succ], .inl ⟨h14, bw_trans hB hb, f0, f1, f2, f3, f4, f5, f6, f7, fun _ => rfl, f9, fun h1 h2 => (f10 h1 h2).below hb, f11, fun h1 h2 => (by obtain ⟨b, e, hc⟩ := f12 h1 h2; exact ⟨b, e, cell_of hb hc⟩), fun h => (f13 h).below hb⟩⟩
              · obtain ⟨t55, t56, t57, t58, t59, t60, t61, t62, t63, t64, t65, t66, t67, t68, hA, hJ⟩ := hJ
                have hJ1 : d 14 = false ∧ _ := hJ.resolve_right (fun h => by have h2 := h.2.1 9 (by omega); rw [hd] at h2; cases h2)
                obtain ⟨h14, hB, f0, f1, f2, f3, f4, f5, f6, f7, f8, f9, f10, f11, f12, f13⟩ := hJ1
                clear hJ
                have hp := hpre; simp [Region.binds] at hp
                obtain rfl := f3 hp.1
                obtain rfl := f8 hp.2
                have hlk2 := HLK.out _ (HMB.out.kept (grown_of_below hB none) (by simp))
                have HK := Lib.hid hK
                have HD2 := Lib.hid (And.intro hd h14)
                clear hpre hcl hK hd h14
                try clear hp
                have HF := Lib.hid (And.intro f0 (And.intro f1 (And.intro f2 (And.intro f3 (And.intro f4 (And.intro f5 (And.intro f6 (And.intro f7 (And.intro f8 (And.intro f9 (And.intro f10 (And.intro f11 (And.intro f12 f13)))))))))))))
                clear f0 f1 f2 f3 f4 f5 f6 f7 f8 f9 f10 f11 f12 f13
                simp only [Act.put, List.setIfInBounds_toArray, List.set_cons_zero, List.set_cons_succ] at hA
                subst hA
                go_simp
                obtain ⟨f0, f1, f2, f3, f4, f5, f6, f7, f8, f9, f10, f11, f12, f13⟩ := HF.out
                obtain ⟨hd, h14⟩ := HD2.out
                exact HK.out _ _ ⟨t55, t56, t57, (.map (some (w.heap.size + 1))), t59, t60, t61, t62, (padK y.pl), pv0, t65, t66, t67, t68, by simp only [Act.put, List.setIfInBounds_toArray, List.set_cons_zero, List.set_cons_succ], .inl ⟨h14, hB, f0, f1, f2, f3, f4, f5, f6, f7, f8, fun _ => rfl, f10, f11, f12, f13⟩⟩
              · obtain ⟨t55, t56, t57, t58, t59, t60, t61, t62, t63, t64, t65, t66, t67, t68, hA, hJ⟩ := hJ
                have hJ1 : d 14 = false ∧ _ := hJ.resolve_right (fun h => by have h2 := h.2.1 10 (by omega); rw [hd] at h2; cases h2)
                obtain ⟨h14, hB, f0, f1, f2, f3, f4, f5, f6, f7, f8, f9, f10, f11, f12, f13⟩ := hJ1
                clear hJ
                have hp := hpre; simp [Region.binds] at hp
                have e64 := f9 hp.1
                subst e64
                have HK := Lib.hid hK
                have HD2 := Lib.hid (And.intro hd h14)
                clear hpre hcl hK hd h14
                try clear hp
                have HF := Lib.hid (And.intro f0 (And.intro f1 (And.intro f2 (And.intro f3 (And.intro f4 (And.intro f5 (And.intro f6 (And.intro f7 (And.intro f8 (And.intro f9 (And.intro f10 (And.intro f11 (And.intro f12 f13)))))))))))))
                clear f0 f1 f2 f3 f4 f5 f6 f7 f8 f9 f10 f11 f12 f13
                simp only [Act.put, List.setIfInBounds_toArray, List.set_cons_zero, List.set_cons_succ] at hA
                subst hA
                go_simp
                refine (HCL.out _ hB).mono ?_
                rintro e w2 ⟨V1, rfl, hO1, hb⟩
                go_simp
                obtain ⟨f0, f1, f2, f3, f4, f5, f6, f7, f8, f9, f10, f11, f12, f13⟩ := HF.out
                obtain ⟨hd, h14⟩ := HD2.out
                exact HK.out _ _ ⟨t55, t56, t57, t58, t59, t60, t61, t62, t63, t64, V1, t66, t67, t68, by simp only [Act.put, List.setIfInBounds_toArray, List.set_cons_zero, List.set_cons_succ], .inl ⟨h14, bw_trans hB hb, f0, f1, f2, f3, f4, f5, f6, f7, f8, f9, fun _ _ => hO1.base hB.size, f11, fun h1 h2 => (by obtain ⟨b, e, hc⟩ := f12 h1 h2; exact ⟨b, e, cell_of hb hc⟩), fun h => (f13 h).below hb⟩⟩
              · obtain ⟨t55, t56, t57, t58, t59, t60, t61, t62, t63, t64, t65, t66, t67, t68, hA, hJ⟩ := hJ
                have hJ1 : d 14 = false ∧ _ := hJ.resolve_right (fun h => by have h2 := h.2.1 11 (by omega); rw [hd] at h2; cases h2)
                obtain ⟨h14, hB, f0, f1, f2, f3, f4, f5, f6, f7, f8, f9, f10, f11, f12, f13⟩ := hJ1
                clear hJ
                have HK := Lib.hid hK
                have HD2 := Lib.hid (And.intro hd h14)
                clear hpre hcl hK hd h14
                try clear hp
                have HF := Lib.hid (And.intro f0 (And.intro f1 (And.intro f2 (And.intro f3 (And.intro f4 (And.intro f5 (And.intro f6 (And.intro f7 (And.intro f8 (And.intro f9 (And.intro f10 (And.intro f11 (And.intro f12 f13)))))))))))))
                clear f0 f1 f2 f3 f4 f5 f6 f7 f8 f9 f10 f11 f12 f13
                simp only [Act.put, List.setIfInBounds_toArray, List.set_cons_zero, List.set_cons_succ] at hA
                subst hA
                go_simp
                obtain ⟨f0, f1, f2, f3, f4, f5, f6, f7, f8, f9, f10, f11, f12, f13⟩ := HF.out
                obtain ⟨hd, h14⟩ := HD2.out
                exact HK.out _ _ ⟨t55, t56, t57, t58, t59, t60, t61, t62, t63, t64, t65, (.int .i64 (k : Int)), t67, t68, by simp only [Act.put, List.setIfInBounds_toArray, List.set_cons_zero, List.set_cons_succ], .inl ⟨h14, hB, f0, f1, f2, f3, f4, f5, f6, f7, f8, f9, f10, fun _ => rfl, f12, f13⟩⟩
              · obtain ⟨t55, t56, t57, t58, t59, t60, t61, t62, t63, t64, t65, t66, t67, t68, hA, hJ⟩ := hJ
                have hJ1 : d 14 = false ∧ _ := hJ.resolve_right (fun h => by have h2 := h.2.1 12 (by omega); rw [hd] at h2; cases h2)
                obtain ⟨h14, hB, f0, f1, f2, f3, f4, f5, f6, f7, f8, f9, f10, f11, f12, f13⟩ := hJ1
                clear hJ
                have hp := hpre; simp [Region.binds] at hp
                obtain rfl := f11 hp
                have HK := Lib.hid hK
                have HD2 := Lib.hid (And.intro hd h14)
                clear hpre hcl hK hd h14
                try clear hp
                have HF := Lib.hid (And.intro f0 (And.intro f1 (And.intro f2 (And.intro f3 (And.intro f4 (And.intro f5 (And.intro f6 (And.intro f7 (And.intro f8 (And.intro f9 (And.intro f10 (And.intro f11 (And.intro f12 f13)))))))))))))
                clear f0 f1 f2 f3 f4 f5 f6 f7 f8 f9 f10 f11 f12 f13
                simp only [Act.put, List.setIfInBounds_toArray, List.set_cons_zero, List.set_cons_succ] at hA
                subst hA
                go_simp
                obtain ⟨f0, f1, f2, f3, f4, f5, f6, f7, f8, f9, f10, f11, f12, f13⟩ := HF.out
                have hb := bw_alloc (Below.refl W.heap.size W) (.cells #[.int .i64 (k : Int)] 2)
                obtain ⟨hd, h14⟩ := HD2.out
                exact HK.out _ _ ⟨t55, t56, t57, t58, t59, t60, t61, t62, t63, t64, t65, (.int .i64 (k : Int)), (.slice (some ⟨W.heap.size, 0, none⟩) 1 1), t68, by simp only [Act.put, List.setIfInBounds_toArray, List.set_cons_zero, List.set_cons_succ], .inl ⟨h14, bw_trans hB hb, f0, f1, f2, f3, f4, f5, f6, f7, f8, f9, fun h1 h2 => (f10 h1 h2).below hb, f11, fun _ _ => ⟨W.heap.size, rfl, by go_simp⟩, fun h => (f13 h).below hb⟩⟩
              · obtain ⟨t55, t56, t57, t58, t59, t60, t61, t62, t63, t64, t65, t66, t67, t68, hA, hJ⟩ := hJ
                have hJ1 : d 14 = false ∧ _ := hJ.resolve_right (fun h => by have h2 := h.2.1 13 (by omega); rw [hd] at h2; cases h2)
                obtain ⟨h14, hB, f0, f1, f2, f3, f4, f5, f6, f7, f8, f9, f10, f11, f12, f13⟩ := hJ1
                clear hJ
                have hp := hpre; simp [Region.binds] at hp
                obtain ⟨b, rfl, hcb⟩ := f12 hp.2.1 hd
                have hO1 := Lib.hid (f10 hp.1 hd)
                have HK := Lib.hid hK
                have HD2 := Lib.hid (And.intro hd h14)
                clear hpre hcl hK hd h14
                try clear hp
                have HF := Lib.hid (And.intro f0 (And.intro f1 (And.intro f2 (And.intro f3 (And.intro f4 (And.intro f5 (And.intro f6 (And.intro f7 (And.intro f8 (And.intro f9 (And.intro f10 (And.intro f11 (And.intro f12 f13)))))))))))))
                clear f0 f1 f2 f3 f4 f5 f6 f7 f8 f9 f10 f11 f12 f13
                simp only [Act.put, List.setIfInBounds_toArray, List.set_cons_zero, List.set_cons_succ] at hA
                subst hA
                refine stepAppI (by rfl) _ _ (by rfl) wb.heap.size t65 y.pt (by rfl) hO1.out b (k : Int) (by rfl) hcb (by omega) hB.size ?_
                intro gg cap2 wc hown1 hbe
                obtain ⟨f0, f1, f2, f3, f4, f5, f6, f7, f8, f9, f10, f11, f12, f13⟩ := HF.out
                obtain ⟨hd, h14⟩ := HD2.out
                exact HK.out _ _ ⟨t55, t56, t57, t58, t59, t60, t61, t62, t63, t64, t65, t66, (.slice (some ⟨b, 0, none⟩) 1 1), (.slice (some ⟨gg, 0, none⟩) (y.pt.length + 1) cap2), by simp only [Act.put, List.setIfInBounds_toArray, List.set_cons_zero, List.set_cons_succ], .inl ⟨h14, bw_from hB hbe, f0, f1, f2, f3, f4, f5, f6, f7, f8, f9, fun _ h => absurd h (by simp [upD]), f11, fun _ h => absurd h (by simp [upD]), fun _ => hown1⟩⟩
              · obtain ⟨t55, t56, t57, t58, t59, t60, t61, t62, t63, t64, t65, t66, t67, t68, hA, hJ⟩ := hJ
                have hJ1 : d 14 = false ∧ _ := hJ.resolve_right (fun h => by have h2 := h.1; rw [hd] at h2; cases h2)
                obtain ⟨h14, hB, f0, f1, f2, f3, f4, f5, f6, f7, f8, f9, f10, f11, f12, f13⟩ := hJ1
                clear hJ
                have hp := hpre; simp [Region.binds] at hp
                obtain rfl := f0 hp.1
                obtain rfl := f2 hp.2.1
                have hO2 := Lib.hid (f13 hp.2.2.1)
                have hM2 := HMB.out.kept (grown_of_below hB none) (show some (w.heap.size + 1) ≠ none by simp)
                have hU2 := HUP.out _ t68 hM2
                have HM2 := Lib.hid hM2
                have hall : ∀ j, j < 14 → d j = true := by
                  intro j hj
                  have hj2 : j = 0 ∨ j = 1 ∨ j = 2 ∨ j = 3 ∨ j = 4 ∨ j = 5 ∨ j = 6 ∨ j = 7 ∨ j = 8 ∨ j = 9 ∨ j = 10 ∨ j = 11 ∨ j = 12 ∨ j = 13 := by omega
                  rcases hj2 with rfl | rfl | rfl | rfl | rfl | rfl | rfl | rfl | rfl | rfl | rfl | rfl | rfl | rfl <;> simp only [hp]
                clear hM2
                have HK := Lib.hid hK
                have HD2 := Lib.hid (And.intro hd h14)
                clear hpre hcl hK hd h14
                try clear hp
                have HF := Lib.hid (And.intro f0 (And.intro f1 (And.intro f2 (And.intro f3 (And.intro f4 (And.intro f5 (And.intro f6 (And.intro f7 (And.intro f8 (And.intro f9 (And.intro f10 (And.intro f11 (And.intro f12 f13)))))))))))))
                clear f0 f1 f2 f3 f4 f5 f6 f7 f8 f9 f10 f11 f12 f13
                simp only [Act.put, List.setIfInBounds_toArray, List.set_cons_zero, List.set_cons_succ] at hA
                subst hA
                go_simp
                obtain ⟨hd, h14⟩ := HD2.out
                exact HK.out _ _ ⟨(.map (some (w.heap.size + 1))), t56, (padK (mvL y.pl k)), t58, t59, t60, t61, t62, t63, t64, t65, t66, t67, t68, by simp only [Act.put, List.setIfInBounds_toArray, List.set_cons_zero, List.set_cons_succ], .inr ⟨upD_same _ _, fun j hj => upD_true (hall j hj), W, hB, hO2.out, (HFP.out _ _ HM2.out).2, (HFP.out _ _ HM2.out).1⟩⟩
            · rintro d a' W hall ⟨t55, t56, t57, t58, t59, t60, t61, t62, t63, t64, t65, t66, t67, t68, rfl, hJ⟩
              rcases hJ with ⟨h14, _⟩ | ⟨_, _, w4, hB4, hO4, hG4, hM4⟩
              · rw [hall 14 (by decide)] at h14; cases h14
              · simp only [Act.put, List.setIfInBounds_toArray, List.set_cons_zero, List.set_cons_succ]
                go_wp2_with fail
                go_meet
                exact ⟨rfl, w4, _, hB4, hO4, hG4, hM4⟩
          case rest =>
            obtain ⟨rfl, w4, pv, hB4, hO4, hG4, hM4⟩ := hcut
            have hRR2 := hRR.out
            have hql : qs.length = N := by rw [hRR2.2.1, HN.out]
            have HNS := Lib.hid (hsl_new (w := w) (N := N) (cap := cap) (HQ.out.1.below hB4) hml hgl hgB)
            have HPV := Lib.hid (how_new (w := w) (N := N) (cap := cap) hO4 hlg hgB)
            have hqw := (kept_below (kept_below hRR2.1 HBAB.out) hB4).kept hG4 (.inr (show some g ≠ some (w.heap.size + 1) by intro e; injection e; omega))
            have HQW := Lib.hid hqw
            have hg1 : some w.heap.size ≠ some (w.heap.size + 1) := by simp
            have hg2 : some w.heap.size ≠ some g := by intro e; injection e; omega
            have hbx := bw_from (bw_trans (bw_trans HBR.out HBAB.out) hB4) (below_grown hG4 (fun j hj => by injection hj with hj; omega) (bw_trans (bw_trans HBR.out HBAB.out) hB4).size)
            have HBX := Lib.hid hbx
            have HC0 := Lib.hid (cell_of (bw_alloc (Below.refl wc.heap.size wc) (.cells #[.slice Aq n cq] 22)) (cell_grown hG4 hg1 (cell_of hB4 hy0)))
            have HC1 := Lib.hid (cell_of (bw_alloc (Below.refl wc.heap.size wc) (.cells #[.slice Aq n cq] 22)) (cell_grown hG4 hg1 (cell_of hB4 hy1)))
            have hszc : w.heap.size + 2 ≤ wc.heap.size := by have h1 := hG4.size; have h2 := hB4.size; omega
            have HPU := Lib.hid (fun w5 qv' (hq5 : World.ownsRow w5 (w.heap.size + 2) 22 1 qv' (qs.length + 1) (qs ++ [.slice Aq n cq])) hg5 hloc => RR.push (z := kid y i k) hRR.out (bw_trans HBAB.out hB4) HNS.out HPV.out hG4 (by rw [HN.out, HDD.out]; exact hM4) (bw_alloc (Below.refl wc.heap.size wc) (.cells #[.slice Aq n cq] 22)) hq5 hg5 hloc)
            have hq256 : qs.length ≤ 1048576 := by have := HN.out; omega
            have HQL := Lib.hid hql
            clear hql hRR2 hqw hB4 hO4 hG4 hM4 hy0 hy1 hyq hbx hv hbr hx0 hx1 HLK HUP HKN HKI HCL HMB HFP HMP hNN f hptl HOI hkw hky
            go_wp2_with (at_builtin; refine wpAppQ rfl _ _ rfl (w.heap.size + 2) (.slice (some ⟨g, 0, none⟩) N cap) qs rfl (by have h := World.ownsRow.alloc HQW.out (.cells #[.slice Aq n cq] 22); rw [HQL.out]; exact HQL.out ▸ h) wc.heap.size (.slice Aq n cq) rfl rfl (by go_simp) (by omega) (by simp; omega) ?_; intro qv5 w5 hq5 hg5 hl5)
            go_roundg (2 * n - (k + 1))
            case rel =>
              have hbe : Below w.heap.size _ w5 := below_grown hg5 (fun j hj => by have h2 := Option.some.inj (show some g = some j from hj); omega) (by simp; omega)
              exact ⟨k + 1, qs ++ [.slice Aq n cq], vs ++ [pv], by omega, rfl, by go_num, by rw [HY.out, HST.out]; exact HPU.out _ _ hq5 hg5 (by simpa using hl5), bw_from (bw_alloc HBX.out _) hbe, cell_grown hg5 hg2 HC0.out, cell_grown hg5 hg2 HC1.out⟩
            case measure => omega
        · have hk2 : ¬ ((k : Int) < 2 * (n : Int)) := by omega
          have HKE := Lib.hid (show k = 2 * n by omega)
          have HO := Lib.hid hO
          clear hlk hN hyl hyi hil hO HIS hcq hvn hpy HMP HSI HOI hVV hND HI HMV
          go_wp2_with fail
          go_roundg (256 - (i + 1))
          case rel => exact ⟨i + 1, qs, vs, by omega, rfl, by go_num, by rw [HE.out, ← HKE.out]; exact hRR, hbr, hx0, hx1⟩
          case measure => omega
    · have hRR2 := hRR.out
      have HAL := Lib.hid (HALL.out i hlt)
      obtain ⟨g, cap, rfl, -, -, -⟩ := hRR2.head HG.out.1
      have hlt2 : ¬ ((i : Int) < ((lev ok n ps i).length : Int)) := by omega
      have HEND := Lib.hid (show ∃ vs : List Value, vs.length = (lev ok n ps i).length ∧ wr.ownsMap Try.prog 71 heldR (w.heap.size + 1) (lev ok n ps i).length (mpK (lev ok n ps i) vs (lev ok n ps i).length) ∧ ∀ j, j < (lev ok n ps i).length → OwnI wr (w.heap.size + 2) (vs.getD j undef) ((lev ok n ps i).getD j Nd.zero).pt from ⟨vs, hRR2.2.2.1, hRR2.2.2.2.1, fun j hj => (hRR2.2.2.2.2 j hj).2.1⟩)
      clear hRR hRR2 HALL HMV HGD hlt
      generalize lev ok n ps i = out0 at *
      go_wp2_with fail
      go_ret
      obtain ⟨vs, h1, h2, h3⟩ := HEND.out
      rw [HAL.out]
      exact ⟨vs, rfl, h1, h2, h3, hbr⟩
end Go.Proofs.Yticohpimkicphaa
