/-
  The law of HallsLeft.
-/
import Derived.Test.YthhilkahfgpncaaHr
import Derived.Test.YthhilkahfgpncaaShM
namespace Go.Proofs.Ythhilkahfgpncaa
open Go.RowKit

set_option maxRecDepth 100000 in
set_option maxHeartbeats 3200000 in
theorem law_HallsLeft (a_aList : Option Addr) (l_aList c_aList : Nat) (xs_aList : List LhE) (s : Int) (a_aStock : Option Addr) (l_aStock c_aStock : Nat) (xs_aStock : List Int) (w : World) (hm_aList : l_aList ≤ 9223372036854775807) (H_aList : SlLh w a_aList l_aList xs_aList) (hm_aStock : l_aStock ≤ 9223372036854775807) (H_aStock : SlI w a_aStock l_aStock xs_aStock) :
    Calls Try.prog 13 #[.slice a_aList l_aList c_aList, .int .i64 s, .slice a_aStock l_aStock c_aStock] w fun e w' => e = .returned (.bool true) ∧ Below w.heap.size w w' := by
  by_cases hn_aStock : l_aStock ≤ 1048576
  case neg =>
    clear H_aList H_aStock
    go_enter Try.func13, Try.ntmps13
    go_wp2
    go_ret
    exact ⟨rfl, Below.refl _ _⟩
  by_cases hn_aList : l_aList ≤ 1048576
  case neg =>
    clear H_aList H_aStock
    go_enter Try.func13, Try.ntmps13
    go_wp2_with fail
    refine (LhszNo_any a_aList l_aList c_aList _ hm_aList hn_aList).mono ?_
    rintro e w0 ⟨rfl, hB0⟩
    go_wp2
    go_ret
    exact ⟨rfl, hB0⟩
  have hni_aList : ¬ (1048576 - (l_aList : Int)) < 0 := by omega
  have hS : ∀ (A_aList : Option Addr) (C_aList : Nat) (A_aStock : Option Addr) (C_aStock : Nat) (W : World), SlLh W A_aList l_aList xs_aList → SlI W A_aStock l_aStock xs_aStock → Calls Try.prog 46 #[.slice A_aList l_aList C_aList, .int .i64 s, .slice A_aStock l_aStock C_aStock] W (GivesIC (hlL xs_aList l_aList s xs_aStock l_aStock) (hlC xs_aList l_aList s xs_aStock l_aStock) W) := fun A_aList C_aList A_aStock C_aStock W K_aList K_aStock => sHallsLeft_any A_aList l_aList C_aList xs_aList s A_aStock l_aStock C_aStock xs_aStock W K_aList K_aStock hn_aList hn_aStock
  have hI : ∀ (A_aList : Option Addr) (C_aList : Nat) (A_aStock : Option Addr) (C_aStock : Nat) (W : World), SlLh W A_aList l_aList xs_aList → SlI W A_aStock l_aStock xs_aStock → Calls Try.prog 47 #[.slice A_aList l_aList C_aList, .int .i64 s, .slice A_aStock l_aStock C_aStock] W (GivesIC (hlL xs_aList l_aList s xs_aStock l_aStock) (hlC xs_aList l_aList s xs_aStock l_aStock) W) := fun A_aList C_aList A_aStock C_aStock W K_aList K_aStock => iHallsLeft_any A_aList l_aList C_aList xs_aList s A_aStock l_aStock C_aStock xs_aStock W K_aList K_aStock hn_aList hn_aStock
  have hy : (hlL xs_aList l_aList s xs_aStock l_aStock).length ≤ 1048576 := hl_len hn_aList
  generalize hlL xs_aList l_aList s xs_aStock l_aStock = ys at *
  generalize hlC xs_aList l_aList s xs_aStock l_aStock = K0 at *
  have HS := Lib.hid hS
  have HI := Lib.hid hI
  clear hS hI
  go_enter Try.func13, Try.ntmps13
  go_wp2_with fail
  refine (Lhsz_any a_aList l_aList c_aList _ hn_aList).mono ?_
  rintro e w1 ⟨rfl, hb⟩
  have hB := hb
  clear hb
  go_wp2_with fail
  refine (LhtoSF_any a_aList l_aList c_aList xs_aList _ (H_aList.below hB) hn_aList).mono ?_
  rintro e w2 ⟨rfl, Xs_aList, Fs_aList, Zs_aList, hb⟩
  replace hB := bw_trans hB hb
  clear hb
  clear Fs_aList Zs_aList
  go_wp2_with fail
  refine (toInts_any a_aStock l_aStock c_aStock xs_aStock _ (H_aStock.below hB) hn_aStock).mono ?_
  rintro e w3 ⟨rfl, he⟩
  have hb : Below w2.heap.size w2 w3 := by rw [he]; exact bw_alloc (Below.refl _ _) _
  have Os_aStock : OwnI w3 w2.heap.size (.slice (some ⟨w2.heap.size, 0, none⟩) l_aStock l_aStock) xs_aStock := by rw [he]; exact OwnI.made H_aStock.length hn_aStock
  have Zs_aStock : w2.heap.size < w3.heap.size := by rw [he]; simp
  clear he
  replace Xs_aList := Xs_aList.below hb
  replace hB := bw_trans hB hb
  clear hb
  go_wp2_with fail
  refine (HS.out (some ⟨w1.heap.size, 0, none⟩) l_aList (some ⟨w2.heap.size, 0, none⟩) l_aStock _ Xs_aList (by have h := Os_aStock.sl; rw [← h.1] at h; exact h.2)).mono ?_
  rintro e w4 ⟨Vw, rfl, Gw, hb⟩
  replace Xs_aList := Xs_aList.below hb
  replace Os_aStock := Os_aStock.below hb
  replace Zs_aStock := Nat.lt_of_lt_of_le Zs_aStock hb.size
  replace hB := bw_trans hB hb
  obtain ⟨Aw, cw, rfl⟩ := Gw.form
  clear hb
  clear Xs_aList
  clear Os_aStock Zs_aStock
  have hW := Below.refl w4.heap.size w4
  have hBs : w.heap.size ≤ w4.heap.size := hB.size
  have GW := Gw.sl.2
  clear Gw
  go_wp2_with fail
  refine (LhtoSF_any a_aList l_aList c_aList xs_aList _ (H_aList.below hB) hn_aList).mono ?_
  rintro e w5 ⟨rfl, Xx_aList, Fx_aList, Zx_aList, hb⟩
  replace hB := bw_trans hB hb
  replace hW := bw_trans hW hb
  clear hb
  replace Fx_aList := Lib.hid Fx_aList
  have OLE_1 : w4.heap.size ≤ w5.heap.size := hW.size
  have OLT_0_1 : w4.heap.size < w5.heap.size := Zx_aList
  go_wp2_with fail
  refine (toInts_any a_aStock l_aStock c_aStock xs_aStock _ (H_aStock.below hB) hn_aStock).mono ?_
  rintro e w6 ⟨rfl, he⟩
  have hb : Below w5.heap.size w5 w6 := by rw [he]; exact bw_alloc (Below.refl _ _) _
  have Ox_aStock : OwnI w6 w5.heap.size (.slice (some ⟨w5.heap.size, 0, none⟩) l_aStock l_aStock) xs_aStock := by rw [he]; exact OwnI.made H_aStock.length hn_aStock
  have Zx_aStock : w5.heap.size < w6.heap.size := by rw [he]; simp
  clear he
  replace Fx_aList : Hid _ := fun j => (hb.frozen (p := ⟨w4.heap.size, j, none⟩) Zx_aList).trans (Fx_aList.out j)
  replace Xx_aList := Xx_aList.below hb
  replace Zx_aList := Nat.lt_of_lt_of_le Zx_aList hb.size
  replace hB := bw_trans hB hb
  replace hW := bw_trans hW hb
  clear hb
  have LE_aList := Lib.hid (show w4.heap.size ≤ w4.heap.size ∧ w4.heap.size < w6.heap.size ∧ w.heap.size ≤ w4.heap.size from ⟨Nat.le_refl _, Zx_aList, hBs⟩)
  have LT_aList_aStock := Lib.hid (show w4.heap.size < w5.heap.size from OLT_0_1)
  have LE_aStock := Lib.hid (show w4.heap.size ≤ w5.heap.size ∧ w5.heap.size < w6.heap.size ∧ w.heap.size ≤ w4.heap.size from ⟨OLE_1, Zx_aStock, hBs⟩)
  have BGhB := Lib.hid (show w.heap.size ≤ w6.heap.size from hB.size)
  have BGhW := Lib.hid (show w4.heap.size ≤ w6.heap.size from hW.size)
  go_wp2_with fail
  refine (HI.out (some ⟨w4.heap.size, 0, none⟩) l_aList (some ⟨w5.heap.size, 0, none⟩) l_aStock _ Xx_aList (by have h := Ox_aStock.sl; rw [← h.1] at h; exact h.2)).mono ?_
  rintro e w7 ⟨Vg, rfl, Gg, hb⟩
  replace Fx_aList : Hid _ := fun j => (hb.frozen (p := ⟨w4.heap.size, j, none⟩) Zx_aList).trans (Fx_aList.out j)
  replace Xx_aList := Xx_aList.below hb
  replace Ox_aStock := Ox_aStock.below hb
  replace Zx_aList := Nat.lt_of_lt_of_le Zx_aList hb.size
  replace Zx_aStock := Nat.lt_of_lt_of_le Zx_aStock hb.size
  replace hB := bw_trans hB hb
  replace hW := bw_trans hW hb
  obtain ⟨Ag, cg, rfl⟩ := Gg.form
  clear hb
  skip
  go_wp2_with fail
  refine (eqInts_any Ag Aw ys.length cg cw _ _ Gg.sl.2 (GW.below hW) hy).mono ?_
  rintro e w8 ⟨rfl, hb⟩
  replace Fx_aList : Hid _ := fun j => (hb.frozen (p := ⟨w4.heap.size, j, none⟩) Zx_aList).trans (Fx_aList.out j)
  replace Xx_aList := Xx_aList.below hb
  replace Ox_aStock := Ox_aStock.below hb
  replace Gg := Gg.below hb
  replace Zx_aList := Nat.lt_of_lt_of_le Zx_aList hb.size
  replace Zx_aStock := Nat.lt_of_lt_of_le Zx_aStock hb.size
  replace hB := bw_trans hB hb
  replace hW := bw_trans hW hb
  clear hb
  go_wp2_with fail
  refine (LhtoSF_any a_aList l_aList c_aList xs_aList _ (H_aList.below hB) hn_aList).mono ?_
  rintro e w9 ⟨rfl, Xq_aList, Fq_aList, Zq_aList, hb⟩
  replace Fx_aList : Hid _ := fun j => (hb.frozen (p := ⟨w4.heap.size, j, none⟩) Zx_aList).trans (Fx_aList.out j)
  replace Xx_aList := Xx_aList.below hb
  replace Ox_aStock := Ox_aStock.below hb
  replace Gg := Gg.below hb
  replace Zx_aList := Nat.lt_of_lt_of_le Zx_aList hb.size
  replace Zx_aStock := Nat.lt_of_lt_of_le Zx_aStock hb.size
  replace hB := bw_trans hB hb
  replace hW := bw_trans hW hb
  clear hb
  clear Fq_aList Zq_aList
  go_wp2_with fail
  refine (LheqS_any _ _ _ _ _ xs_aList _ Xx_aList Xq_aList hn_aList).mono ?_
  rintro e w10 ⟨rfl, hb⟩
  replace Fx_aList : Hid _ := fun j => (hb.frozen (p := ⟨w4.heap.size, j, none⟩) Zx_aList).trans (Fx_aList.out j)
  replace Xx_aList := Xx_aList.below hb
  replace Ox_aStock := Ox_aStock.below hb
  replace Gg := Gg.below hb
  replace Xq_aList := Xq_aList.below hb
  replace Zx_aList := Nat.lt_of_lt_of_le Zx_aList hb.size
  replace Zx_aStock := Nat.lt_of_lt_of_le Zx_aStock hb.size
  replace hB := bw_trans hB hb
  replace hW := bw_trans hW hb
  clear hb
  clear Xq_aList
  go_wp2_with fail
  refine (toInts_any a_aStock l_aStock c_aStock xs_aStock _ (H_aStock.below hB) hn_aStock).mono ?_
  rintro e w11 ⟨rfl, he⟩
  have hb : Below w10.heap.size w10 w11 := by rw [he]; exact bw_alloc (Below.refl _ _) _
  have Oq_aStock : OwnI w11 w10.heap.size (.slice (some ⟨w10.heap.size, 0, none⟩) l_aStock l_aStock) xs_aStock := by rw [he]; exact OwnI.made H_aStock.length hn_aStock
  have Zq_aStock : w10.heap.size < w11.heap.size := by rw [he]; simp
  clear he
  replace Fx_aList : Hid _ := fun j => (hb.frozen (p := ⟨w4.heap.size, j, none⟩) Zx_aList).trans (Fx_aList.out j)
  replace Xx_aList := Xx_aList.below hb
  replace Ox_aStock := Ox_aStock.below hb
  replace Gg := Gg.below hb
  replace Zx_aList := Nat.lt_of_lt_of_le Zx_aList hb.size
  replace Zx_aStock := Nat.lt_of_lt_of_le Zx_aStock hb.size
  replace hB := bw_trans hB hb
  replace hW := bw_trans hW hb
  clear hb
  go_wp2_with fail
  refine (eqInts_any _ _ l_aStock _ _ xs_aStock _ (by have h := Ox_aStock.sl; rw [← h.1] at h; exact h.2) (by have h := Oq_aStock.sl; rw [← h.1] at h; exact h.2) hn_aStock).mono ?_
  rintro e w12 ⟨rfl, hb⟩
  replace Fx_aList : Hid _ := fun j => (hb.frozen (p := ⟨w4.heap.size, j, none⟩) Zx_aList).trans (Fx_aList.out j)
  replace Xx_aList := Xx_aList.below hb
  replace Ox_aStock := Ox_aStock.below hb
  replace Gg := Gg.below hb
  replace Oq_aStock := Oq_aStock.below hb
  replace Zx_aList := Nat.lt_of_lt_of_le Zx_aList hb.size
  replace Zx_aStock := Nat.lt_of_lt_of_le Zx_aStock hb.size
  replace Zq_aStock := Nat.lt_of_lt_of_le Zq_aStock hb.size
  replace hB := bw_trans hB hb
  replace hW := bw_trans hW hb
  clear hb
  clear Oq_aStock Zq_aStock
  go_wp2_with fail
  refine (Lhmark_any l_aList _ w4.heap.size xs_aList (1) _ Xx_aList Fx_aList.out Zx_aList hn_aList ⟨by omega, by omega⟩).mono ?_
  rintro e w13 ⟨rfl, hg⟩
  have hle : w4.heap.size ≤ w4.heap.size := LE_aList.out.1
  have hlg : w4.heap.size < w6.heap.size := LE_aList.out.2.1
  have hww : w.heap.size ≤ w4.heap.size := LE_aList.out.2.2
  replace hB := bw_from hB (below_grown hg (fun j hj => by injection hj with hj; omega) hB.size)
  replace hW := bw_from hW (below_grown hg (fun j hj => by injection hj with hj; omega) hW.size)
  replace Zx_aStock := Nat.lt_of_lt_of_le Zx_aStock hg.size
  replace Ox_aStock := Ox_aStock.keptRow hg LT_aList_aStock.out
  replace Gg := Gg.keptRow hg hlg
  clear hg hle hlg hww Xx_aList Fx_aList Zx_aList
  go_wp2_with fail
  refine (markI_any _ l_aStock _ w5.heap.size (1 + 3 * (l_aList : Int)) xs_aStock _ Ox_aStock hn_aStock ⟨by omega, by omega⟩).mono ?_
  rintro e w14 ⟨rfl, _, hg, _⟩
  replace hg : w13.grownBy w14 (some w5.heap.size) := hg
  have hle : w4.heap.size ≤ w5.heap.size := LE_aStock.out.1
  have hlg : w5.heap.size < w6.heap.size := LE_aStock.out.2.1
  have hww : w.heap.size ≤ w4.heap.size := LE_aStock.out.2.2
  replace hB := bw_from hB (below_grown hg (fun j hj => by injection hj with hj; omega) hB.size)
  replace hW := bw_from hW (below_grown hg (fun j hj => by injection hj with hj; omega) hW.size)
  replace Gg := Gg.keptRow hg hlg
  clear hg hle hlg hww Ox_aStock Zx_aStock
  have hkn : ¬ (1 + 3 * (l_aList : Int) + (l_aStock : Int) < 0) := by omega
  go_wp2_with fail
  refine (eqInts_any Ag Aw ys.length cg cw _ _ Gg.sl.2 (GW.below hW) hy).mono ?_
  rintro e w15 ⟨rfl, hb⟩
  replace Gg := Gg.below hb
  replace hB := bw_trans hB hb
  replace hW := bw_trans hW hb
  clear hb
  clear hkn
  go_wp2_with fail
  refine (markI_any Ag ys.length cg w6.heap.size 1 ys _ Gg hy ⟨by omega, by omega⟩).mono ?_
  rintro e w16 ⟨rfl, GM, _, hb⟩
  replace hB := bw_from hB (hb.mono BGhB.out)
  replace hW := bw_from hW (hb.mono BGhW.out)
  clear hb Gg
  have hml := mks_len 1 ys.length
  have HM := Lib.hid hml
  clear hml
  have hqn : ¬ (1 + (ys.length : Int) < 0) := by omega
  go_wp2_with fail
  refine (heldI_any Ag ys.length cg 1 _ (by have h := GM.sl.2; rw [HM.out] at h; exact h) hy ⟨by omega, by omega⟩).mono ?_
  rintro e w17 ⟨rfl, hb⟩
  replace GM := GM.below hb
  replace hB := bw_trans hB hb
  replace hW := bw_trans hW hb
  clear hb
  go_wp2_with fail
  refine (LhtoSF_any a_aList l_aList c_aList xs_aList _ (H_aList.below hB) hn_aList).mono ?_
  rintro e w18 ⟨rfl, Xh_aList, Fh_aList, Zh_aList, hb⟩
  replace GM := GM.below hb
  replace hB := bw_trans hB hb
  replace hW := bw_trans hW hb
  clear hb
  clear Fh_aList Zh_aList
  go_wp2_with fail
  refine (toInts_any a_aStock l_aStock c_aStock xs_aStock _ (H_aStock.below hB) hn_aStock).mono ?_
  rintro e w19 ⟨rfl, he⟩
  have hb : Below w18.heap.size w18 w19 := by rw [he]; exact bw_alloc (Below.refl _ _) _
  have Oh_aStock : OwnI w19 w18.heap.size (.slice (some ⟨w18.heap.size, 0, none⟩) l_aStock l_aStock) xs_aStock := by rw [he]; exact OwnI.made H_aStock.length hn_aStock
  have Zh_aStock : w18.heap.size < w19.heap.size := by rw [he]; simp
  clear he
  replace GM := GM.below hb
  replace Xh_aList := Xh_aList.below hb
  replace hB := bw_trans hB hb
  replace hW := bw_trans hW hb
  clear hb
  go_wp2_with fail
  refine (HI.out (some ⟨w17.heap.size, 0, none⟩) l_aList (some ⟨w18.heap.size, 0, none⟩) l_aStock _ Xh_aList (by have h := Oh_aStock.sl; rw [← h.1] at h; exact h.2)).mono ?_
  rintro e w20 ⟨Vh, rfl, Gh, hb⟩
  replace GM := GM.below hb
  replace Xh_aList := Xh_aList.below hb
  replace Oh_aStock := Oh_aStock.below hb
  replace Zh_aStock := Nat.lt_of_lt_of_le Zh_aStock hb.size
  replace hB := bw_trans hB hb
  replace hW := bw_trans hW hb
  obtain ⟨Ah, ch, rfl⟩ := Gh.form
  clear hb
  clear Xh_aList
  clear Oh_aStock Zh_aStock
  go_wp2_with fail
  refine (eqInts_any Ah Aw ys.length ch cw _ _ Gh.sl.2 (GW.below hW) hy).mono ?_
  rintro e w21 ⟨rfl, hb⟩
  replace GM := GM.below hb
  replace Gh := Gh.below hb
  replace hB := bw_trans hB hb
  replace hW := bw_trans hW hb
  clear hb
  clear Gh
  go_wp2_with fail
  refine (heldI_any Ag ys.length cg 1 _ (by have h := GM.sl.2; rw [HM.out] at h; exact h) hy ⟨by omega, by omega⟩).mono ?_
  rintro e w22 ⟨rfl, hb⟩
  replace GM := GM.below hb
  replace hB := bw_trans hB hb
  replace hW := bw_trans hW hb
  clear hb
  clear GW GM HM
  go_wp2
  go_ret
  exact ⟨rfl, hB⟩
end Go.Proofs.Ythhilkahfgpncaa
