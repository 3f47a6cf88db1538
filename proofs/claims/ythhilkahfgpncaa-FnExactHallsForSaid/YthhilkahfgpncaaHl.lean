/-
  The law of HallsFor.
-/
import Derived.Test.YthhilkahfgpncaaHk
import Derived.Test.YthhilkahfgpncaaShM
namespace Go.Proofs.Ythhilkahfgpncaa
open Go.RowKit

set_option maxRecDepth 100000 in
set_option maxHeartbeats 3200000 in
theorem law_HallsFor (a_aList : Option Addr) (l_aList c_aList : Nat) (xs_aList : List LhE) (s : Int) (f : Int) (w : World) (hm_aList : l_aList ≤ 9223372036854775807) (H_aList : SlLh w a_aList l_aList xs_aList) :
    Calls Try.prog 10 #[.slice a_aList l_aList c_aList, .int .i64 s, .int .i64 f] w fun e w' => e = .returned (.bool true) ∧ Below w.heap.size w w' := by
  by_cases hn_aList : l_aList ≤ 1048576
  case neg =>
    clear H_aList
    go_enter Try.func10, Try.ntmps10
    go_wp2_with fail
    refine (LhszNo_any a_aList l_aList c_aList _ hm_aList hn_aList).mono ?_
    rintro e w0 ⟨rfl, hB0⟩
    go_wp2
    go_ret
    exact ⟨rfl, hB0⟩
  have hni_aList : ¬ (1048576 - (l_aList : Int)) < 0 := by omega
  have hS : ∀ (A_aList : Option Addr) (C_aList : Nat) (W : World), SlLh W A_aList l_aList xs_aList → Calls Try.prog 39 #[.slice A_aList l_aList C_aList, .int .i64 s, .int .i64 f] W (GivesIC (hfL xs_aList l_aList s f) (hcC (vhB xs_aList l_aList) s f [] 0) W) := fun A_aList C_aList W K_aList => sHallsFor_any A_aList l_aList C_aList xs_aList s f W K_aList hn_aList
  have hI : ∀ (A_aList : Option Addr) (C_aList : Nat) (W : World), SlLh W A_aList l_aList xs_aList → Calls Try.prog 40 #[.slice A_aList l_aList C_aList, .int .i64 s, .int .i64 f] W (GivesIC (hfL xs_aList l_aList s f) (hcC (vhB xs_aList l_aList) s f [] 0) W) := fun A_aList C_aList W K_aList => iHallsFor_any A_aList l_aList C_aList xs_aList s f W K_aList hn_aList
  have hy : (hfL xs_aList l_aList s f).length ≤ 1048576 := hf_len hn_aList
  generalize hfL xs_aList l_aList s f = ys at *
  generalize hcC (vhB xs_aList l_aList) s f [] 0 = K0 at *
  have HS := Lib.hid hS
  have HI := Lib.hid hI
  clear hS hI
  go_enter Try.func10, Try.ntmps10
  go_wp2_with fail
  refine (Lhsz_any a_aList l_aList c_aList _ hn_aList).mono ?_
  rintro e w1 ⟨rfl, hb⟩
  have hB := hb
  clear hb
  go_wp2_with fail
  refine (LhtoSF_any a_aList l_aList c_aList xs_aList _ (H_aList.below hB) hn_aList).mono ?_
  rintro e w2 ⟨rfl, Xs_aList, Fs_aList, Zs_aList, hb⟩
  replace hB := bw_trans hB hb
  clear hb
  clear Fs_aList Zs_aList
  go_wp2_with fail
  refine (HS.out (some ⟨w1.heap.size, 0, none⟩) l_aList _ Xs_aList).mono ?_
  rintro e w3 ⟨Vw, rfl, Gw, hb⟩
  replace Xs_aList := Xs_aList.below hb
  replace hB := bw_trans hB hb
  obtain ⟨Aw, cw, rfl⟩ := Gw.form
  clear hb
  clear Xs_aList
  have hW := Below.refl w3.heap.size w3
  have hBs : w.heap.size ≤ w3.heap.size := hB.size
  have GW := Gw.sl.2
  clear Gw
  go_wp2_with fail
  refine (LhtoSF_any a_aList l_aList c_aList xs_aList _ (H_aList.below hB) hn_aList).mono ?_
  rintro e w4 ⟨rfl, Xx_aList, Fx_aList, Zx_aList, hb⟩
  replace hB := bw_trans hB hb
  replace hW := bw_trans hW hb
  clear hb
  replace Fx_aList := Lib.hid Fx_aList
  have LE_aList := Lib.hid (show w3.heap.size ≤ w3.heap.size ∧ w3.heap.size < w4.heap.size ∧ w.heap.size ≤ w3.heap.size from ⟨Nat.le_refl _, Zx_aList, hBs⟩)
  have BGhB := Lib.hid (show w.heap.size ≤ w4.heap.size from hB.size)
  have BGhW := Lib.hid (show w3.heap.size ≤ w4.heap.size from hW.size)
  go_wp2_with fail
  refine (HI.out (some ⟨w3.heap.size, 0, none⟩) l_aList _ Xx_aList).mono ?_
  rintro e w5 ⟨Vg, rfl, Gg, hb⟩
  replace Fx_aList : Hid _ := fun j => (hb.frozen (p := ⟨w3.heap.size, j, none⟩) Zx_aList).trans (Fx_aList.out j)
  replace Xx_aList := Xx_aList.below hb
  replace Zx_aList := Nat.lt_of_lt_of_le Zx_aList hb.size
  replace hB := bw_trans hB hb
  replace hW := bw_trans hW hb
  obtain ⟨Ag, cg, rfl⟩ := Gg.form
  clear hb
  skip
  go_wp2_with fail
  refine (eqInts_any Ag Aw ys.length cg cw _ _ Gg.sl.2 (GW.below hW) hy).mono ?_
  rintro e w6 ⟨rfl, hb⟩
  replace Fx_aList : Hid _ := fun j => (hb.frozen (p := ⟨w3.heap.size, j, none⟩) Zx_aList).trans (Fx_aList.out j)
  replace Xx_aList := Xx_aList.below hb
  replace Gg := Gg.below hb
  replace Zx_aList := Nat.lt_of_lt_of_le Zx_aList hb.size
  replace hB := bw_trans hB hb
  replace hW := bw_trans hW hb
  clear hb
  go_wp2_with fail
  refine (LhtoSF_any a_aList l_aList c_aList xs_aList _ (H_aList.below hB) hn_aList).mono ?_
  rintro e w7 ⟨rfl, Xq_aList, Fq_aList, Zq_aList, hb⟩
  replace Fx_aList : Hid _ := fun j => (hb.frozen (p := ⟨w3.heap.size, j, none⟩) Zx_aList).trans (Fx_aList.out j)
  replace Xx_aList := Xx_aList.below hb
  replace Gg := Gg.below hb
  replace Zx_aList := Nat.lt_of_lt_of_le Zx_aList hb.size
  replace hB := bw_trans hB hb
  replace hW := bw_trans hW hb
  clear hb
  clear Fq_aList Zq_aList
  go_wp2_with fail
  refine (LheqS_any _ _ _ _ _ xs_aList _ Xx_aList Xq_aList hn_aList).mono ?_
  rintro e w8 ⟨rfl, hb⟩
  replace Fx_aList : Hid _ := fun j => (hb.frozen (p := ⟨w3.heap.size, j, none⟩) Zx_aList).trans (Fx_aList.out j)
  replace Xx_aList := Xx_aList.below hb
  replace Gg := Gg.below hb
  replace Xq_aList := Xq_aList.below hb
  replace Zx_aList := Nat.lt_of_lt_of_le Zx_aList hb.size
  replace hB := bw_trans hB hb
  replace hW := bw_trans hW hb
  clear hb
  clear Xq_aList
  go_wp2_with fail
  refine (Lhmark_any l_aList _ w3.heap.size xs_aList (1) _ Xx_aList Fx_aList.out Zx_aList hn_aList ⟨by omega, by omega⟩).mono ?_
  rintro e w9 ⟨rfl, hg⟩
  have hle : w3.heap.size ≤ w3.heap.size := LE_aList.out.1
  have hlg : w3.heap.size < w4.heap.size := LE_aList.out.2.1
  have hww : w.heap.size ≤ w3.heap.size := LE_aList.out.2.2
  replace hB := bw_from hB (below_grown hg (fun j hj => by injection hj with hj; omega) hB.size)
  replace hW := bw_from hW (below_grown hg (fun j hj => by injection hj with hj; omega) hW.size)
  replace Gg := Gg.keptRow hg hlg
  clear hg hle hlg hww Xx_aList Fx_aList Zx_aList
  have hkn : ¬ (1 + 3 * (l_aList : Int) < 0) := by omega
  go_wp2_with fail
  refine (eqInts_any Ag Aw ys.length cg cw _ _ Gg.sl.2 (GW.below hW) hy).mono ?_
  rintro e w10 ⟨rfl, hb⟩
  replace Gg := Gg.below hb
  replace hB := bw_trans hB hb
  replace hW := bw_trans hW hb
  clear hb
  clear hkn
  go_wp2_with fail
  refine (markI_any Ag ys.length cg w4.heap.size 1 ys _ Gg hy ⟨by omega, by omega⟩).mono ?_
  rintro e w11 ⟨rfl, GM, _, hb⟩
  replace hB := bw_from hB (hb.mono BGhB.out)
  replace hW := bw_from hW (hb.mono BGhW.out)
  clear hb Gg
  have hml := mks_len 1 ys.length
  have HM := Lib.hid hml
  clear hml
  have hqn : ¬ (1 + (ys.length : Int) < 0) := by omega
  go_wp2_with fail
  refine (heldI_any Ag ys.length cg 1 _ (by have h := GM.sl.2; rw [HM.out] at h; exact h) hy ⟨by omega, by omega⟩).mono ?_
  rintro e w12 ⟨rfl, hb⟩
  replace GM := GM.below hb
  replace hB := bw_trans hB hb
  replace hW := bw_trans hW hb
  clear hb
  go_wp2_with fail
  refine (LhtoSF_any a_aList l_aList c_aList xs_aList _ (H_aList.below hB) hn_aList).mono ?_
  rintro e w13 ⟨rfl, Xh_aList, Fh_aList, Zh_aList, hb⟩
  replace GM := GM.below hb
  replace hB := bw_trans hB hb
  replace hW := bw_trans hW hb
  clear hb
  clear Fh_aList Zh_aList
  go_wp2_with fail
  refine (HI.out (some ⟨w12.heap.size, 0, none⟩) l_aList _ Xh_aList).mono ?_
  rintro e w14 ⟨Vh, rfl, Gh, hb⟩
  replace GM := GM.below hb
  replace Xh_aList := Xh_aList.below hb
  replace hB := bw_trans hB hb
  replace hW := bw_trans hW hb
  obtain ⟨Ah, ch, rfl⟩ := Gh.form
  clear hb
  clear Xh_aList
  go_wp2_with fail
  refine (eqInts_any Ah Aw ys.length ch cw _ _ Gh.sl.2 (GW.below hW) hy).mono ?_
  rintro e w15 ⟨rfl, hb⟩
  replace GM := GM.below hb
  replace Gh := Gh.below hb
  replace hB := bw_trans hB hb
  replace hW := bw_trans hW hb
  clear hb
  clear Gh
  go_wp2_with fail
  refine (heldI_any Ag ys.length cg 1 _ (by have h := GM.sl.2; rw [HM.out] at h; exact h) hy ⟨by omega, by omega⟩).mono ?_
  rintro e w16 ⟨rfl, hb⟩
  replace GM := GM.below hb
  replace hB := bw_trans hB hb
  replace hW := bw_trans hW hb
  clear hb
  clear GW GM HM
  go_wp2
  go_ret
  exact ⟨rfl, hB⟩
end Go.Proofs.Ythhilkahfgpncaa
