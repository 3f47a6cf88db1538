/-
  CheapestLamps in the reference.
-/
import Derived.Test.YthhilkahfgpncaaHlb
namespace Go.Proofs.Ythhilkahfgpncaa
open Go.RowKit

set_option maxRecDepth 100000 in
set_option maxHeartbeats 6400000 in
theorem sCheapestLamps_any (A : Option Addr) (m c : Nat) (ys : List Int) (B : Option Addr) (k d : Nat) (ps : List Int) (need : Int) (w : World) (H : SlI w A m ys) (HP : SlI w B k ps) (hm : m ≤ 1048576) (hk : k ≤ 1048576) :
    Calls Try.prog 44 #[.slice A m c, .slice B k d, .int .i64 need] w (GivesICC (cmL ys ps need m k) (cmP ys ps need m k) (cmC ys ps need m k) w) := by
  have HK := Lib.hid (l12Need_any A m c ys need w H hm)
  rcases la_code need ys m with ⟨hc, _⟩ | ⟨hc, hneed, m8, hall⟩
  · obtain ⟨r1, r2, r3⟩ := cm_no (ps := ps) (cmB_code (ps := ps) (k := k) hc)
    rw [r1, r2, r3]
    rw [hc] at HK
    clear H HP r1 r2 r3 hc
    go_enter Try.func44, Try.ntmps44
    go_wp2_with (go_at_call 77; refine (HK.out).mono ?_; rintro e w1 ⟨rfl, rfl⟩)
    go_ret3
    exact ⟨_, rfl, OwnI.nil _ _, Below.refl _ _⟩
  rw [hc] at HK
  have HCB := Lib.hid (cmB_ok (ys := ys) (ps := ps) (k := k) hc)
  have HCN := Lib.hid (@cm_no ys ps need m k)
  have HCY := Lib.hid (@cm_yes ys ps need m k)
  have hsm : smallI ys m := fun j hj => by (have h := lu_at hall (k := j) (by rw [H.length]; exact hj); omega)
  have HSM := Lib.hid hsm
  have hp := pow_bd (m := m) (by omega)
  have FN := Lib.hid (@cl_none ys ps need m)
  have FV := Lib.hid (fun l => @cl_some ys ps need m l)
  have hw2 := wrap_two (m := m) (by omega)
  obtain ⟨M, hM⟩ : ∃ M : Nat, 2 ^ m = M := ⟨_, rfl⟩
  rw [hM] at FN FV hw2 hp
  have HW := Lib.hid hw2
  have HM := Lib.hid hM
  have HSU := Lib.hid (fun b (hb : b < 65536) W hW => l12Sum_any A m c ys b W (H.below hW) m8 hb hsm)
  have HL := Lib.hid HP.length
  clear hM hc hneed hall hsm hw2 H
  go_enter Try.func44, Try.ntmps44
  go_wp2_with (go_at_call 77; refine (HK.out).mono ?_; rintro e w1 ⟨rfl, rfl⟩)
  clear HK
  go_loopg [10] k (fun gh x wr => ∃ j : Nat, j ≤ k ∧ gh = k - j ∧ x = .int .i64 j ∧ Hid (∀ i, i < j → notPr (ps.getD i 0) = false) ∧ w = wr)
  case atStart => exact ⟨0, by omega, by omega, rfl, fun j hj => absurd hj (by omega), rfl⟩
  case round =>
    obtain ⟨j, hj, rfl, rfl, hno, rfl⟩ := hrel
    by_cases hlt : j < k
    · obtain ⟨b', off, rfl, hbl, hc⟩ := HP.get hlt
      cases hp0 : isPr (ps.getD j 0)
      · have hp1 : inB (ps.getD j 0) 0 100000 = false := hp0
        have hbad : cmB ys ps need m k = false := by
          have h1 : notPr (ps.getD j 0) = true := by unfold notPr; rw [hp0]; rfl
          have h2 := any_true (by rw [HL.out]; exact hlt) h1
          rw [HCB.out, h2]; simp
        have HR := Lib.hid (HCN.out hbad)
        clear HP hp0 hbad HCB HCN HCY FN FV HSU HSM hno
        generalize ps.getD j 0 = x at *
        go_wp2_with (go_at_call 68; refine (l00In_is hp1 _).mono ?_; rintro e w1 ⟨rfl, rfl⟩)
        go_ret3
        exact ⟨.slice none 0 0, by rw [HR.out.2.1, HR.out.2.2] <;> rfl, by rw [HR.out.1]; exact OwnI.nil _ _, Below.refl _ _⟩
      · have hp1 : inB (ps.getD j 0) 0 100000 = true := hp0
        have hn' : ∀ i, i < j + 1 → notPr (ps.getD i 0) = false := fun i hi => by
          rcases Nat.lt_or_ge i j with h | h
          · exact hno.out i h
          · have : i = j := by omega
            subst this; unfold notPr; rw [hp0]; rfl
        have HN := Lib.hid hn'
        clear hn' HP hp0 HCB HCN HCY FN FV HSU HSM hno
        generalize ps.getD j 0 = x at hc hp1
        go_wp2_with (go_at_call 68; refine (l00In_is hp1 _).mono ?_; rintro e w1 ⟨rfl, rfl⟩)
        go_roundg (k - (j + 1))
        case rel => exact ⟨j + 1, by omega, rfl, by go_num, HN.out, rfl⟩
        case measure => omega
    have hjk : j = k := by omega
    subst hjk
    have hpall := any_false (p := notPr) (xs := ps) (fun i hi => hno.out i (by rw [← HL.out]; exact hi))
    have hcb := HCB.out
    rw [hpall] at hcb
    by_cases hkm : j = m
    case neg =>
      rw [decide_eq_false hkm] at hcb
      have HR := Lib.hid (HCN.out hcb)
      have hkm' : ¬ ((j : Int) = (m : Int)) := by omega
      clear HP hpall hcb HCB HCN HCY FN FV HSU HSM hno hkm
      go_wp2
      go_ret3
      exact ⟨.slice none 0 0, by rw [HR.out.2.1, HR.out.2.2] <;> rfl, by rw [HR.out.1]; exact OwnI.nil _ _, Below.refl _ _⟩
    rw [decide_eq_true hkm] at hcb
    have HR := Lib.hid (HCY.out hcb)
    subst hkm
    have hspm : smallI ps j := fun i hi => by (have h := pr_at hpall (k := i) (by rw [HL.out]; exact hi); omega)
    have HSP := Lib.hid hspm
    have HPU := Lib.hid (fun b (hb : b < 65536) W hW => l12Sum_any B j d ps b W (HP.below hW) m8 hb hspm)
    clear HP hpall hcb HCB HCN HCY hno hspm hj hlt HL
    go_wp2_with fail
    go_loopg [11, 12] M (fun gh v x wr => ∃ b : Nat, b ≤ M ∧ gh = M - b ∧ v = .int .i64 (chI (chS ys ps need j b)) ∧ x = .int .i64 b ∧ Below w.heap.size w wr)
    case atStart => exact ⟨0, by omega, by omega, rfl, rfl, Below.refl _ _⟩
    case round =>
      obtain ⟨b, hbm, rfl, rfl, rfl, hbr⟩ := hrel
      have F0 := Lib.hid (@ch_dark ys ps need j b)
      have F1 := Lib.hid (@ch_first ys ps need j b)
      have F2 := Lib.hid (fun l => @ch_better ys ps need j b l)
      have F3 := Lib.hid (fun l => @ch_worse ys ps need j b l)
      have FL := Lib.hid (fun l => @ch_lt ys ps need j b l)
      have FE := Lib.hid (show b = M → chS ys ps need j M = chS ys ps need j b from fun h => by rw [h])
      generalize chS ys ps need j b = S at *
      by_cases hlt : b < M
      · have hcond : (b : Int) < wrap64 ((2 : Int) ^ j) := by rw [HW.out]; omega
        have HBS := Lib.hid (show b < 65536 by omega)
        have hix := Lib.hid (ix_at (b := b) (k := j) (by rw [HM.out]; exact hlt) (by omega))
        have HSB := Lib.hid (HSU.out b HBS.out wr hbr)
        have hsb := Lib.hid (sm_bd HSM.out b.testBit (Nat.le_refl j))
        clear FE HR FN FV
        by_cases hd : need ≤ smS ys b.testBit j
        case neg =>
          have HE := Lib.hid (F0.out (by omega))
          clear F0 F1 F2 F3
          have hd' : smS ys b.testBit j < need := by omega
          generalize smS ys b.testBit j = X at *
          go_wp2_with fail
          refine HSB.out.mono ?_
          rintro e w1 ⟨rfl, rfl⟩
          go_wp2_with fail
          go_roundg (M - (b + 1))
          case rel => exact ⟨b + 1, by omega, rfl, by rw [HE.out], by go_num, hbr⟩
          case measure => omega
        have hd' : ¬ (smS ys b.testBit j < need) := by omega
        cases S with
        | none =>
          have HE := Lib.hid (F1.out hd rfl)
          clear F0 F1 F2 F3 hd
          generalize smS ys b.testBit j = X at *
          rw [chI_none]
          go_wp2_with fail
          refine HSB.out.mono ?_
          rintro e w1 ⟨rfl, rfl⟩
          go_wp2_with fail
          go_roundg (M - (b + 1))
          case rel => exact ⟨b + 1, by omega, rfl, by rw [HE.out] <;> rfl, by go_num, hbr⟩
          case measure => omega
        | some l =>
          have hlb := FL.out l rfl
          have HPB := Lib.hid (HPU.out b HBS.out wr hbr)
          have HPL := Lib.hid (HPU.out l (by omega) wr hbr)
          have F2' := Lib.hid (F2.out l hd rfl)
          have F3' := Lib.hid (F3.out l rfl)
          have BL := Lib.hid (@bt_less ps j b l)
          have BM := Lib.hid (@bt_more ps j b l)
          have BS := Lib.hid (@bt_same ps j b l)
          have hixl := Lib.hid (ix_at (b := l) (k := j) (by rw [HM.out]; omega) (by omega))
          have HSOB := Lib.hid (fun W => l12Some_any j b W (by omega) HBS.out)
          have HSOL := Lib.hid (fun W => l12Some_any j l W (by omega) (by omega))
          rw [← hix.out] at HSOB
          rw [← hixl.out] at HSOL
          have hb1 := Lib.hid (sm_bd HSP.out b.testBit (Nat.le_refl j))
          have hl1 := Lib.hid (sm_bd HSP.out l.testBit (Nat.le_refl j))
          clear F0 F1 F2 F3 FL hd
          generalize smS ys b.testBit j = X at *
          generalize smS ps b.testBit j = P at *
          generalize smS ps l.testBit j = R at *
          rw [chI_some]
          have hl0 : ¬ ((l : Int) < 0) := by omega
          rcases Int.lt_trichotomy P R with h1 | h1 | h1
          · have HE := Lib.hid (F2'.out (BL.out h1))
            clear F2' F3' BL BM BS HSOB HSOL
            go_wp2_with fail
            refine HSB.out.mono ?_
            rintro e w1 ⟨rfl, rfl⟩
            go_wp2_with fail
            refine HPB.out.mono ?_
            rintro e w1 ⟨rfl, rfl⟩
            go_wp2_with fail
            refine HPL.out.mono ?_
            rintro e w1 ⟨rfl, rfl⟩
            go_wp2_with fail
            go_roundg (M - (b + 1))
            case rel => exact ⟨b + 1, by omega, rfl, by rw [HE.out] <;> rfl, by go_num, hbr⟩
            case measure => omega
          · have hbt := BS.out h1
            have e1 : (P == R) = true := by rw [h1]; exact beq_self_eq_true R
            have e2 : ¬ (P < R) := by omega
            have hlb1 := ix_len b
            have hll1 := ix_len l
            clear BL BM BS h1
            cases hls : lsL (ixL b) (ixL l)
            · have HE := Lib.hid (F3'.out (hbt.trans hls))
              clear F2' F3' hbt
              go_wp2_with fail
              refine HSB.out.mono ?_
              rintro e w1 ⟨rfl, rfl⟩
              go_wp2_with fail
              refine HPB.out.mono ?_
              rintro e w1 ⟨rfl, rfl⟩
              go_wp2_with fail
              refine HPL.out.mono ?_
              rintro e w1 ⟨rfl, rfl⟩
              go_wp2_with fail
              refine HPB.out.mono ?_
              rintro e w1 ⟨rfl, rfl⟩
              go_wp2_with fail
              refine HPL.out.mono ?_
              rintro e w1 ⟨rfl, rfl⟩
              go_wp2_with fail
              refine (HSOB.out _).mono ?_
              rintro e w5 ⟨V5, rfl, G5, hb5⟩
              obtain ⟨A5, c5, rfl⟩ := G5.form
              go_wp2_with fail
              refine (HSOL.out _).mono ?_
              rintro e w6 ⟨V6, rfl, G6, hb6⟩
              obtain ⟨A6, c6, rfl⟩ := G6.form
              have HLS := Lib.hid (l11Less_is A5 A6 (ixL b).length (ixL l).length c5 c6 (ixL b) (ixL l) w6 (G5.below hb6).sl.2 G6.sl.2 (by omega) (by omega) hls)
              clear G5 G6 hls
              go_wp2_with fail
              refine HLS.out.mono ?_
              rintro e w7 ⟨rfl, hb7⟩
              have hbz := bw_trans hbr (bw_trans hb5 (bw_trans hb6 hb7))
              go_wp2_with fail
              go_roundg (M - (b + 1))
              case rel => exact ⟨b + 1, by omega, rfl, by rw [HE.out] <;> rfl, by go_num, hbz⟩
              case measure => omega
            · have HE := Lib.hid (F2'.out (hbt.trans hls))
              clear F2' F3' hbt
              go_wp2_with fail
              refine HSB.out.mono ?_
              rintro e w1 ⟨rfl, rfl⟩
              go_wp2_with fail
              refine HPB.out.mono ?_
              rintro e w1 ⟨rfl, rfl⟩
              go_wp2_with fail
              refine HPL.out.mono ?_
              rintro e w1 ⟨rfl, rfl⟩
              go_wp2_with fail
              refine HPB.out.mono ?_
              rintro e w1 ⟨rfl, rfl⟩
              go_wp2_with fail
              refine HPL.out.mono ?_
              rintro e w1 ⟨rfl, rfl⟩
              go_wp2_with fail
              refine (HSOB.out _).mono ?_
              rintro e w5 ⟨V5, rfl, G5, hb5⟩
              obtain ⟨A5, c5, rfl⟩ := G5.form
              go_wp2_with fail
              refine (HSOL.out _).mono ?_
              rintro e w6 ⟨V6, rfl, G6, hb6⟩
              obtain ⟨A6, c6, rfl⟩ := G6.form
              have HLS := Lib.hid (l11Less_is A5 A6 (ixL b).length (ixL l).length c5 c6 (ixL b) (ixL l) w6 (G5.below hb6).sl.2 G6.sl.2 (by omega) (by omega) hls)
              clear G5 G6 hls
              go_wp2_with fail
              refine HLS.out.mono ?_
              rintro e w7 ⟨rfl, hb7⟩
              have hbz := bw_trans hbr (bw_trans hb5 (bw_trans hb6 hb7))
              go_wp2_with fail
              go_roundg (M - (b + 1))
              case rel => exact ⟨b + 1, by omega, rfl, by rw [HE.out] <;> rfl, by go_num, hbz⟩
              case measure => omega
          · have HE := Lib.hid (F3'.out (BM.out h1))
            have e1 : (P == R) = false := by simp only [beq_eq_false_iff_ne, ne_eq]; omega
            have e2 : ¬ (P < R) := by omega
            clear F2' F3' BL BM BS HSOB HSOL
            go_wp2_with fail
            refine HSB.out.mono ?_
            rintro e w1 ⟨rfl, rfl⟩
            go_wp2_with fail
            refine HPB.out.mono ?_
            rintro e w1 ⟨rfl, rfl⟩
            go_wp2_with fail
            refine HPL.out.mono ?_
            rintro e w1 ⟨rfl, rfl⟩
            go_wp2_with fail
            refine HPB.out.mono ?_
            rintro e w1 ⟨rfl, rfl⟩
            go_wp2_with fail
            refine HPL.out.mono ?_
            rintro e w1 ⟨rfl, rfl⟩
            go_wp2_with fail
            go_roundg (M - (b + 1))
            case rel => exact ⟨b + 1, by omega, rfl, by rw [HE.out] <;> rfl, by go_num, hbr⟩
            case measure => omega
      · have hkk : b = M := by omega
        have hcond : ¬ ((b : Int) < wrap64 ((2 : Int) ^ j)) := by rw [HW.out]; omega
        have HQ := Lib.hid (FE.out hkk)
        clear F0 F1 F2 F3 FE
        cases S with
        | none =>
          have HF := Lib.hid (FN.out HQ.out)
          clear hkk FL FV FN HPU HSU
          rw [chI_none]
          go_wp2
          go_ret3
          exact ⟨.slice none 0 0, by rw [HR.out.2.1, HR.out.2.2, HF.out.2.1, HF.out.2.2] <;> rfl, by rw [HR.out.1, HF.out.1]; exact OwnI.nil _ _, hbr⟩
        | some l =>
          have hlb := FL.out l rfl
          have HF := Lib.hid (FV.out l HQ.out)
          have HPL := Lib.hid (fun W hW => HPU.out l (by omega) W hW)
          have hixl := Lib.hid (ix_at (b := l) (k := j) (by rw [HM.out]; omega) (by omega))
          have HSOL := Lib.hid (fun W => l12Some_any j l W (by omega) (by omega))
          rw [← hixl.out] at HSOL
          have hl0 : ¬ ((l : Int) < 0) := by omega
          clear hkk FL FV FN HPU HSU
          rw [chI_some]
          go_wp2_with fail
          refine (HSOL.out _).mono ?_
          rintro e w5 ⟨V5, rfl, G5, hb5⟩
          have HPL2 := Lib.hid (HPL.out w5 (bw_trans hbr hb5))
          obtain ⟨A5, c5, rfl⟩ := G5.form
          go_wp2_with (go_at_call 79; refine (HPL2.out).mono ?_; rintro e w1 ⟨rfl, rfl⟩)
          go_ret3
          exact ⟨.slice A5 (ixL l).length c5, by rw [HR.out.2.1, HR.out.2.2, HF.out.2.1, HF.out.2.2] <;> rfl, by rw [HR.out.1, HF.out.1]; exact G5.base hbr.size, bw_trans hbr hb5⟩
end Go.Proofs.Ythhilkahfgpncaa
