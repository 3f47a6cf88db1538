/-
  chosenLamps; FewestLamps and CheapestLamps in the program.
-/
import Derived.Test.YthhilkahfgpncaaHlb
import Derived.IntWalk
import Derived.OwnWalk
namespace Go.Proofs.Ythhilkahfgpncaa
open Go.RowKit

/-- The sum of the numbers at the first j places of a set. -/
def tkS (ys : List Int) (b j : Nat) : Int := (((ixL b).take j).map fun i => ys.getD i.toNat 0).sum
theorem tk_zero (ys : List Int) (b : Nat) : tkS ys b 0 = 0 := by simp [tkS]
theorem tk_succ {ys : List Int} {b j J : Nat} (h : (ixL b)[j]? = some (J : Int)) : tkS ys b (j + 1) = tkS ys b j + ys.getD J 0 := by
  unfold tkS
  rw [List.take_add_one, h]; simp
theorem tk_full {ys : List Int} {b m j : Nat} (hix : ixL b = selL b.testBit m) (hj : (ixL b).length ≤ j) : tkS ys b j = smS ys b.testBit m := by
  unfold tkS
  rw [List.take_of_length_le hj, hix, sm_sel]
theorem ix_J {b m k : Nat} (hix : ixL b = selL b.testBit m) (hk : k < (ixL b).length) : ∃ J : Nat, (ixL b).getD k 0 = (J : Int) ∧ (ixL b)[k]? = some (J : Int) ∧ J < m := by
  have h := sel_lt' (q := b.testBit) (k := m) (j := k) (by rw [← hix]; exact hk)
  rw [← hix] at h
  refine ⟨((ixL b).getD k 0).toNat, by omega, ?_, by omega⟩
  rw [List.getElem?_eq_getElem hk, Int.toNat_of_nonneg h.1, getD_lt hk]

set_option maxRecDepth 100000 in
set_option maxHeartbeats 12800000 in
theorem chosenLamps_any (A : Option Addr) (m c : Nat) (ys : List Int) (B : Option Addr) (d : Nat) (ps : List Int) (need : Int) (w : World) (H : SlI w A m ys) (HPR : SlI w B m ps) (m8 : m ≤ 8) (hys : smallI ys m) (hps : smallI ps m) :
    Calls Try.prog 82 #[.slice A m c, .slice B m d, .int .i64 need] w (GivesICB (clL ys ps need m) (clP ys ps need m) (chS ys ps need m (2 ^ m)).isSome w) := by
  have hp := pow_bd (m := m) (by omega)
  have FN := Lib.hid (@cl_none ys ps need m)
  have FV := Lib.hid (fun l => @cl_some ys ps need m l)
  have hw2 := wrap_two (m := m) (by omega)
  have HYS := Lib.hid hys
  have HPS := Lib.hid hps
  obtain ⟨M, hM⟩ : ∃ M : Nat, 2 ^ m = M := ⟨_, rfl⟩
  rw [hM] at FN FV hw2 hp
  rw [hM]
  have HW := Lib.hid hw2
  have HM := Lib.hid hM
  clear hM hw2 hys hps
  go_enter Try.func82, Try.ntmps82
  go_wp2_with fail
  go_loopg [9, 10, 11, 24] M (fun gh v r f x wr => ∃ b : Nat, b ≤ M ∧ gh = M - b ∧ OwnI wr w.heap.size v (((chS ys ps need m b).map ixL).getD []) ∧ r = .int .i64 (((chS ys ps need m b).map fun l => smS ps l.testBit m).getD 0) ∧ f = .bool (chS ys ps need m b).isSome ∧ x = .int .i64 b ∧ Below w.heap.size w wr)
  case atStart => exact ⟨0, by omega, by omega, OwnI.lit w (Nat.le_refl _), rfl, rfl, rfl, bw_alloc (Below.refl _ _) _⟩
  case round =>
    obtain ⟨b, hbm, rfl, hown, rfl, rfl, rfl, hbr⟩ := hrel
    have HO := Lib.hid hown
    clear hown
    have F0 := Lib.hid (@ch_dark ys ps need m b)
    have F1 := Lib.hid (@ch_first ys ps need m b)
    have F2 := Lib.hid (fun l => @ch_better ys ps need m b l)
    have F3 := Lib.hid (fun l => @ch_worse ys ps need m b l)
    have FE := Lib.hid (show b = M → chS ys ps need m M = chS ys ps need m b from fun h => by rw [h])
    generalize chS ys ps need m b = S at *
    obtain ⟨Ab, cb, rfl⟩ := HO.out.form
    by_cases hlt : b < M
    case neg =>
      have hkk : b = M := by omega
      have hcond : ¬ ((b : Int) < wrap64 ((2 : Int) ^ m)) := by rw [HW.out]; omega
      have HQ := Lib.hid (FE.out hkk)
      clear hkk F0 F1 F2 F3 FE H HPR
      cases S with
      | none =>
        have HR := Lib.hid (FN.out HQ.out)
        go_wp2
        go_ret3
        exact ⟨.slice Ab 0 cb, by rw [HR.out.2.1, HQ.out] <;> rfl, by rw [HR.out.1]; exact HO.out, hbr⟩
      | some l =>
        have HR := Lib.hid (FV.out _ HQ.out)
        go_wp2
        go_ret3
        exact ⟨.slice Ab (ixL l).length cb, by rw [HR.out.2.1, HQ.out] <;> rfl, by rw [HR.out.1]; exact HO.out, hbr⟩
    have hcond : (b : Int) < wrap64 ((2 : Int) ^ m) := by rw [HW.out]; omega
    have hix := Lib.hid (ix_at (b := b) (k := m) (by rw [HM.out]; exact hlt) (by omega))
    have HIX := Lib.hid (indicesOf_any b wr (by omega))
    have hxl := ix_len b
    clear FE FN FV
    go_wp2_with fail
    refine HIX.out.mono ?_
    rintro e w3 ⟨Vo, rfl, GO, hb3⟩
    obtain ⟨Ao, co, rfl⟩ := GO.form
    have hbr3 := bw_trans hbr hb3
    have HO3 := Lib.hid (HO.out.below hb3)
    have HGO := Lib.hid GO
    clear GO HO hcond HIX
    obtain ⟨L, hL⟩ : ∃ L, (ixL b).length = L := ⟨_, rfl⟩
    rw [hL] at HGO hxl
    rw [hL]
    have HLL := Lib.hid hL
    clear hL
    go_wp2_with fail
    go_loopg [14, 15, 31] L (fun gi x y z wq => ∃ (k : Nat) (X Y : Int), k ≤ L ∧ gi = L - k ∧ x = .int .i64 X ∧ y = .int .i64 Y ∧ z = .int .i64 k ∧ Hid (X = tkS ys b k) ∧ Hid (Y = tkS ps b k) ∧ 0 ≤ X ∧ X ≤ 100000 * (k : Int) ∧ 0 ≤ Y ∧ Y ≤ 100000 * (k : Int) ∧ w3 = wq)
    case atStart => exact ⟨0, 0, 0, by omega, by omega, rfl, rfl, rfl, (tk_zero _ _).symm, (tk_zero _ _).symm, by omega, by omega, by omega, by omega, rfl⟩
    case round =>
      obtain ⟨k, X, Y, hk, rfl, rfl, rfl, rfl, hX, hY, x1, x2, y1, y2, rfl⟩ := hrel
      by_cases hkm : k < L
      · obtain ⟨J, hJ, hJe, hJm⟩ := ix_J hix.out (k := k) (by rw [HLL.out]; exact hkm)
        have hgo := (HGO.out.sl).2
        rw [HLL.out] at hgo
        obtain ⟨bo, oo, rfl, hbo, hco⟩ := hgo.get (k := k) hkm
        rw [hJ] at hco
        obtain ⟨bs, os, rfl, hbs, hcs⟩ := (H.below hbr3).get (k := J) hJm
        obtain ⟨bp, op, rfl, hbp, hcp⟩ := (HPR.below hbr3).get (k := J) hJm
        obtain ⟨s1, s2⟩ := HYS.out J hJm
        obtain ⟨s3, s4⟩ := HPS.out J hJm
        have HN1 := Lib.hid (tk_succ (ys := ys) hJe)
        have HN2 := Lib.hid (tk_succ (ys := ps) hJe)
        rw [← hX.out] at HN1
        rw [← hY.out] at HN2
        clear hgo hJe hJ F0 F1 F2 F3 H HPR HO3 hX hY
        generalize ys.getD J 0 = u at *
        generalize ps.getD J 0 = v at *
        have i1 : (J : Int) < (m : Int) := by omega
        have i2 : (k : Int) < (L : Int) := by omega
        go_wp2_with fail
        go_roundg (L - (k + 1))
        case rel => exact ⟨k + 1, X + u, Y + v, by omega, rfl, by go_num, by go_num, by go_num, HN1.out.symm, HN2.out.symm, by omega, by omega, by omega, by omega, rfl⟩
        case measure => omega
      have hkk : k = L := by omega
      subst hkk
      have hX1 := hX.out
      rw [tk_full hix.out (by rw [HLL.out]; exact Nat.le_refl _)] at hX1
      have hY1 := hY.out
      rw [tk_full hix.out (by rw [HLL.out]; exact Nat.le_refl _)] at hY1
      have HY1 := Lib.hid hY1
      rw [← hX1] at F0 F1 F2
      clear hX hY hX1 hY1 H HPR
      by_cases hd : need ≤ X
      case neg =>
        have HE := Lib.hid (F0.out (by omega))
        have hd' : X < need := by omega
        clear F0 F1 F2 F3 hd
        go_wp2_with fail
        go_roundg (M - (b + 1))
        case rel => exact ⟨b + 1, by omega, rfl, by rw [HE.out]; exact HO3.out, by rw [HE.out], by rw [HE.out] <;> rfl, by go_num, hbr3⟩
        case measure => omega
      have hd' : ¬ (X < need) := by omega
      cases S with
      | none =>
        have HE := Lib.hid (F1.out hd rfl)
        simp only [Option.map_none, Option.getD_none] at HO3 ⊢
        clear F0 F1 F2 F3 hd
        have e2 : ¬ (Y < 0) := by omega
        by_cases h1 : Y = 0
        case neg =>
          have e1 : (Y == 0) = false := by simp only [beq_eq_false_iff_ne, ne_eq]; exact h1
          go_wp2_with fail
          go_roundg (M - (b + 1))
          case rel =>
            refine ⟨b + 1, by omega, rfl, ?_, ?_, ?_, ?_, hbr3⟩
            · rw [HE.out]
              have h := HGO.out.base hbr.size
              simpa using h
            · rw [HE.out]
              have h := HY1.out
              try (have h9 := HZ.out)
              refine congrArg (Value.int .i64) ?_
              simp only [Option.map_some, Option.getD_some]
              omega
            · rw [HE.out]; rfl
            · go_num
          case measure => omega
        have e1 : (Y == 0) = true := by rw [h1]; rfl
        have HZ := Lib.hid h1
        clear h1
        by_cases h2 : k = 0
        case neg =>
          have e3 : ((k : Int) == 0) = false := by simp only [beq_eq_false_iff_ne, ne_eq]; omega
          go_wp2_with fail
          go_roundg (M - (b + 1))
          case rel =>
            refine ⟨b + 1, by omega, rfl, ?_, ?_, ?_, ?_, hbr3⟩
            · rw [HE.out]
              have h := HGO.out.base hbr.size
              simpa using h
            · rw [HE.out]
              have h := HY1.out
              try (have h9 := HZ.out)
              refine congrArg (Value.int .i64) ?_
              simp only [Option.map_some, Option.getD_some]
              omega
            · rw [HE.out]; rfl
            · go_num
          case measure => omega
        subst h2
        have hl1 := HGO.out.sl.2
        have hl2 := HO3.out.sl.2
        rw [HLL.out] at hl1
        have HCM := Lib.hid (compare_any Ao Ab 0 co cb (ixL b) [] w3 hl1 hl2 (by omega))
        clear hl1 hl2
        go_wp2_with fail
        refine HCM.out.mono ?_
        rintro e w6 ⟨cc, rfl, hcc, rfl⟩
        clear hcc HCM
        by_cases hcc' : cc < 0
        · go_wp2_with fail
          go_roundg (M - (b + 1))
          case rel =>
            refine ⟨b + 1, by omega, rfl, ?_, ?_, ?_, ?_, hbr3⟩
            · rw [HE.out]
              have h := HGO.out.base hbr.size
              simpa using h
            · rw [HE.out]
              have h := HY1.out
              try (have h9 := HZ.out)
              refine congrArg (Value.int .i64) ?_
              simp only [Option.map_some, Option.getD_some]
              omega
            · rw [HE.out]; rfl
            · go_num
          case measure => omega
        · go_wp2_with fail
          go_roundg (M - (b + 1))
          case rel =>
            refine ⟨b + 1, by omega, rfl, ?_, ?_, ?_, ?_, hbr3⟩
            · rw [HE.out]
              have h := HGO.out.base hbr.size
              simpa using h
            · rw [HE.out]
              have h := HY1.out
              try (have h9 := HZ.out)
              refine congrArg (Value.int .i64) ?_
              simp only [Option.map_some, Option.getD_some]
              omega
            · rw [HE.out]; rfl
            · go_num
          case measure => omega
      | some l =>
        simp only [Option.map_some, Option.getD_some] at HO3 ⊢
        have F2' := Lib.hid (F2.out l hd rfl)
        have F3' := Lib.hid (F3.out l rfl)
        have BL := Lib.hid (@bt_less ps m b l)
        have BM := Lib.hid (@bt_more ps m b l)
        have BS := Lib.hid (@bt_same ps m b l)
        rw [← HY1.out] at BL BM BS
        have hlr := sm_bd HPS.out l.testBit (Nat.le_refl m)
        have hll := ix_len l
        clear F0 F1 F2 F3 hd
        obtain ⟨R, hR⟩ : ∃ R, smS ps l.testBit m = R := ⟨_, rfl⟩
        rw [hR] at BL BM BS hlr
        rw [hR]
        have HR := Lib.hid hR
        clear hR
        rcases Int.lt_trichotomy Y R with h1 | h1 | h1
        · have HE := Lib.hid (F2'.out (BL.out h1))
          clear F2' F3' BL BM BS
          go_wp2_with fail
          go_roundg (M - (b + 1))
          case rel =>
            refine ⟨b + 1, by omega, rfl, ?_, ?_, ?_, ?_, hbr3⟩
            · rw [HE.out]
              have h := HGO.out.base hbr.size
              simpa using h
            · rw [HE.out]
              have h := HY1.out
              try (have h9 := HZ.out)
              refine congrArg (Value.int .i64) ?_
              simp only [Option.map_some, Option.getD_some]
              omega
            · rw [HE.out]; rfl
            · go_num
          case measure => omega
        · have hbt := BS.out h1
          have e1 : (Y == R) = true := by rw [h1]; exact beq_self_eq_true R
          have e2 : ¬ (Y < R) := by omega
          clear BL BM BS h1
          rcases Nat.lt_trichotomy k (ixL l).length with hkl | hkl | hkl
          · have HE := Lib.hid (F2'.out (hbt.trans (ls_short (by rw [HLL.out]; exact hkl))))
            have hc1 : (k : Int) < ((ixL l).length : Int) := by omega
            clear F2' F3' hbt
            generalize (ixL l).length = ll at *
            go_wp2_with fail
            go_roundg (M - (b + 1))
            case rel =>
              refine ⟨b + 1, by omega, rfl, ?_, ?_, ?_, ?_, hbr3⟩
              · rw [HE.out]
                have h := HGO.out.base hbr.size
                simpa using h
              · rw [HE.out]
                have h := HY1.out
                try (have h9 := HZ.out)
                refine congrArg (Value.int .i64) ?_
                simp only [Option.map_some, Option.getD_some]
                omega
              · rw [HE.out]; rfl
              · go_num
            case measure => omega
          · have HS := Lib.hid (ls_same (a := ixL b) (b := ixL l) (by rw [HLL.out]; exact hkl))
            have hl1 := HGO.out.sl.2
            have hl2 := HO3.out.sl.2
            rw [HLL.out] at hl1
            have hbt2 := hbt.trans HS.out
            have HCM0 := compare_any Ao Ab (ixL l).length co cb (ixL b) (ixL l) w3 (by rw [← hkl]; exact hl1) hl2 (by omega)
            rw [← hkl] at HCM0
            have HCM := Lib.hid HCM0
            have e3 : ((k : Int) == ((ixL l).length : Int)) = true := by rw [hkl]; exact beq_self_eq_true _
            clear hl1 hl2 HCM0 hbt HS
            cases hx : lxB (ixL b) (ixL l)
            · have HE := Lib.hid (F3'.out (hbt2.trans hx))
              rw [hx] at HCM
              clear F2' F3' hbt2 hx
              rw [← hkl] at HO3 e3
              rw [← hkl]
              clear hkl
              go_wp2_with fail
              refine HCM.out.mono ?_
              rintro e w6 ⟨cc, rfl, hcc, rfl⟩
              have hcc' : ¬ cc < 0 := of_decide_eq_false hcc
              clear hcc HCM
              go_wp2_with fail
              go_roundg (M - (b + 1))
              case rel =>
                refine ⟨b + 1, by omega, rfl, ?_, ?_, ?_, ?_, hbr3⟩
                · rw [HE.out]; simpa using HO3.out
                · rw [HE.out]
                  have h := HR.out
                  refine congrArg (Value.int .i64) ?_
                  simp only [Option.map_some, Option.getD_some]
                  omega
                · rw [HE.out]; rfl
                · go_num
              case measure => omega
            · have HE := Lib.hid (F2'.out (hbt2.trans hx))
              rw [hx] at HCM
              clear F2' F3' hbt2 hx
              rw [← hkl] at HO3 e3
              rw [← hkl]
              clear hkl
              go_wp2_with fail
              refine HCM.out.mono ?_
              rintro e w6 ⟨cc, rfl, hcc, rfl⟩
              have hcc' : cc < 0 := of_decide_eq_true hcc
              clear hcc HCM
              go_wp2_with fail
              go_roundg (M - (b + 1))
              case rel =>
                refine ⟨b + 1, by omega, rfl, ?_, ?_, ?_, ?_, hbr3⟩
                · rw [HE.out]
                  have h := HGO.out.base hbr.size
                  simpa using h
                · rw [HE.out]
                  have h := HY1.out
                  try (have h9 := HZ.out)
                  refine congrArg (Value.int .i64) ?_
                  simp only [Option.map_some, Option.getD_some]
                  omega
                · rw [HE.out]; rfl
                · go_num
              case measure => omega
          · have HE := Lib.hid (F3'.out (hbt.trans (ls_long (by rw [HLL.out]; exact hkl))))
            have hc1 : ¬ (k : Int) < ((ixL l).length : Int) := by omega
            have hc2 : ((k : Int) == ((ixL l).length : Int)) = false := by simp only [beq_eq_false_iff_ne, ne_eq]; omega
            clear F2' F3' hbt
            go_wp2_with fail
            go_roundg (M - (b + 1))
            case rel =>
              refine ⟨b + 1, by omega, rfl, ?_, ?_, ?_, ?_, hbr3⟩
              · rw [HE.out]; simpa using HO3.out
              · rw [HE.out]
                have h := HR.out
                refine congrArg (Value.int .i64) ?_
                simp only [Option.map_some, Option.getD_some]
                omega
              · rw [HE.out]; rfl
              · go_num
            case measure => omega
        · have HE := Lib.hid (F3'.out (BM.out h1))
          have e1 : (Y == R) = false := by simp only [beq_eq_false_iff_ne, ne_eq]; omega
          have e2 : ¬ (Y < R) := by omega
          clear F2' F3' BL BM BS
          go_wp2_with fail
          go_roundg (M - (b + 1))
          case rel =>
            refine ⟨b + 1, by omega, rfl, ?_, ?_, ?_, ?_, hbr3⟩
            · rw [HE.out]; simpa using HO3.out
            · rw [HE.out]
              have h := HR.out
              refine congrArg (Value.int .i64) ?_
              simp only [Option.map_some, Option.getD_some]
              omega
            · rw [HE.out]; rfl
            · go_num
          case measure => omega
end Go.Proofs.Ythhilkahfgpncaa
