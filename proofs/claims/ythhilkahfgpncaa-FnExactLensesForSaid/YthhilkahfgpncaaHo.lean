/-
  The law of LensesFor.
-/
import Derived.Test.YthhilkahfgpncaaHn
import Derived.Test.YthhilkahfgpncaaMk
namespace Go.Proofs.Ythhilkahfgpncaa
open Go.RowKit

set_option maxRecDepth 100000 in
set_option maxHeartbeats 3200000 in
theorem law_LensesFor (t l x : Int) (s : Int) (a_aStock : Option Addr) (l_aStock c_aStock : Nat) (xs_aStock : List Int) (w : World) (hm_aStock : l_aStock ≤ 9223372036854775807) (H_aStock : SlI w a_aStock l_aStock xs_aStock) :
    Calls Try.prog 9 #[.agg #[.int .i64 t, .int .i64 l, .int .i64 x], .int .i64 s, .slice a_aStock l_aStock c_aStock] w fun e w' => e = .returned (.bool true) ∧ Below w.heap.size w w' := by
  by_cases hn_aStock : l_aStock ≤ 1048576
  case neg =>
    clear H_aStock
    go_enter Try.func9, Try.ntmps9
    go_wp2
    go_ret
    exact ⟨rfl, bw_alloc (Below.refl _ _) _⟩
  have hS : ∀ (A_aStock : Option Addr) (C_aStock : Nat) (W : World), SlI W A_aStock l_aStock xs_aStock → Calls Try.prog 35 #[.agg #[.int .i64 t, .int .i64 l, .int .i64 x], .int .i64 s, .slice A_aStock l_aStock C_aStock] W (GivesIC (lfL t l x s xs_aStock l_aStock) (lfC t l x s xs_aStock l_aStock) W) := fun A_aStock C_aStock W K_aStock => sLensesFor_any t l x s A_aStock l_aStock C_aStock xs_aStock W K_aStock hn_aStock
  have hI : ∀ (A_aStock : Option Addr) (C_aStock : Nat) (W : World), SlI W A_aStock l_aStock xs_aStock → Calls Try.prog 36 #[.agg #[.int .i64 t, .int .i64 l, .int .i64 x], .int .i64 s, .slice A_aStock l_aStock C_aStock] W (GivesIC (lfL t l x s xs_aStock l_aStock) (lfC t l x s xs_aStock l_aStock) W) := fun A_aStock C_aStock W K_aStock => iLensesFor_any t l x s A_aStock l_aStock C_aStock xs_aStock W K_aStock hn_aStock
  have hy : (lfL t l x s xs_aStock l_aStock).length ≤ 1048576 := lf_len hn_aStock
  generalize lfL t l x s xs_aStock l_aStock = ys at *
  generalize lfC t l x s xs_aStock l_aStock = K0 at *
  have HS := Lib.hid hS
  have HI := Lib.hid hI
  clear hS hI
  go_enter Try.func9, Try.ntmps9
  go_wp2_with fail
  refine (toLensHall_any _ _ _ _).mono ?_
  rintro e w1 ⟨rfl, hb⟩
  have hB := bw_trans (bw_alloc (Below.refl _ _) _) hb
  have ZB : w.heap.size < w1.heap.size := by (have h := hb.size; simp at h; omega)
  have hx0 : w1.cell? ⟨w.heap.size, 0, none⟩ = some (.int .i64 t) := cell_of hb (by go_simp)
  have hx1 : w1.cell? ⟨w.heap.size, 1, none⟩ = some (.int .i64 l) := cell_of hb (by go_simp)
  have hx2 : w1.cell? ⟨w.heap.size, 2, none⟩ = some (.int .i64 x) := cell_of hb (by go_simp)
  clear hb
  go_wp2_with fail
  refine (toInts_any a_aStock l_aStock c_aStock xs_aStock _ (H_aStock.below hB) hn_aStock).mono ?_
  rintro e w2 ⟨rfl, he⟩
  have hb : Below w1.heap.size w1 w2 := by rw [he]; exact bw_alloc (Below.refl _ _) _
  have Os_aStock : OwnI w2 w1.heap.size (.slice (some ⟨w1.heap.size, 0, none⟩) l_aStock l_aStock) xs_aStock := by rw [he]; exact OwnI.made H_aStock.length hn_aStock
  have Zs_aStock : w1.heap.size < w2.heap.size := by rw [he]; simp
  clear he
  replace hx0 := (hb.cell (p := ⟨w.heap.size, 0, none⟩) ZB).trans hx0
  replace hx1 := (hb.cell (p := ⟨w.heap.size, 1, none⟩) ZB).trans hx1
  replace hx2 := (hb.cell (p := ⟨w.heap.size, 2, none⟩) ZB).trans hx2
  replace ZB := Nat.lt_of_lt_of_le ZB hb.size
  replace hB := bw_trans hB hb
  clear hb
  go_wp2_with fail
  refine (HS.out (some ⟨w1.heap.size, 0, none⟩) l_aStock _ (by have h := Os_aStock.sl; rw [← h.1] at h; exact h.2)).mono ?_
  rintro e w3 ⟨Vw, rfl, Gw, hb⟩
  replace Os_aStock := Os_aStock.below hb
  replace hx0 := (hb.cell (p := ⟨w.heap.size, 0, none⟩) ZB).trans hx0
  replace hx1 := (hb.cell (p := ⟨w.heap.size, 1, none⟩) ZB).trans hx1
  replace hx2 := (hb.cell (p := ⟨w.heap.size, 2, none⟩) ZB).trans hx2
  replace ZB := Nat.lt_of_lt_of_le ZB hb.size
  replace Zs_aStock := Nat.lt_of_lt_of_le Zs_aStock hb.size
  replace hB := bw_trans hB hb
  obtain ⟨Aw, cw, rfl⟩ := Gw.form
  clear hb
  clear Os_aStock Zs_aStock
  have hW := Below.refl w3.heap.size w3
  have hBs : w.heap.size ≤ w3.heap.size := hB.size
  have LB := Lib.hid (show w.heap.size < w3.heap.size from ZB)
  have GW := Gw.sl.2
  clear Gw
  go_wp2_with fail
  refine (toInts_any a_aStock l_aStock c_aStock xs_aStock _ (H_aStock.below hB) hn_aStock).mono ?_
  rintro e w4 ⟨rfl, he⟩
  have hb : Below w3.heap.size w3 w4 := by rw [he]; exact bw_alloc (Below.refl _ _) _
  have Ox_aStock : OwnI w4 w3.heap.size (.slice (some ⟨w3.heap.size, 0, none⟩) l_aStock l_aStock) xs_aStock := by rw [he]; exact OwnI.made H_aStock.length hn_aStock
  have Zx_aStock : w3.heap.size < w4.heap.size := by rw [he]; simp
  clear he
  replace hx0 := (hb.cell (p := ⟨w.heap.size, 0, none⟩) ZB).trans hx0
  replace hx1 := (hb.cell (p := ⟨w.heap.size, 1, none⟩) ZB).trans hx1
  replace hx2 := (hb.cell (p := ⟨w.heap.size, 2, none⟩) ZB).trans hx2
  replace ZB := Nat.lt_of_lt_of_le ZB hb.size
  replace hB := bw_trans hB hb
  replace hW := bw_trans hW hb
  clear hb
  go_wp2_with fail
  refine (toLensHall_any _ _ _ _).mono ?_
  rintro e w5 ⟨rfl, hb⟩
  replace Ox_aStock := Ox_aStock.below hb
  replace hx0 := (hb.cell (p := ⟨w.heap.size, 0, none⟩) ZB).trans hx0
  replace hx1 := (hb.cell (p := ⟨w.heap.size, 1, none⟩) ZB).trans hx1
  replace hx2 := (hb.cell (p := ⟨w.heap.size, 2, none⟩) ZB).trans hx2
  replace ZB := Nat.lt_of_lt_of_le ZB hb.size
  replace Zx_aStock := Nat.lt_of_lt_of_le Zx_aStock hb.size
  replace hB := bw_trans hB hb
  replace hW := bw_trans hW hb
  clear hb
  have LE_aStock := Lib.hid (show w3.heap.size ≤ w3.heap.size ∧ w3.heap.size < w5.heap.size ∧ w.heap.size ≤ w3.heap.size from ⟨Nat.le_refl _, Zx_aStock, hBs⟩)
  have BGhB := Lib.hid (show w.heap.size ≤ w5.heap.size from hB.size)
  have BGhW := Lib.hid (show w3.heap.size ≤ w5.heap.size from hW.size)
  go_wp2_with fail
  refine (HI.out (some ⟨w3.heap.size, 0, none⟩) l_aStock _ (by have h := Ox_aStock.sl; rw [← h.1] at h; exact h.2)).mono ?_
  rintro e w6 ⟨Vg, rfl, Gg, hb⟩
  replace Ox_aStock := Ox_aStock.below hb
  replace hx0 := (hb.cell (p := ⟨w.heap.size, 0, none⟩) ZB).trans hx0
  replace hx1 := (hb.cell (p := ⟨w.heap.size, 1, none⟩) ZB).trans hx1
  replace hx2 := (hb.cell (p := ⟨w.heap.size, 2, none⟩) ZB).trans hx2
  replace ZB := Nat.lt_of_lt_of_le ZB hb.size
  replace Zx_aStock := Nat.lt_of_lt_of_le Zx_aStock hb.size
  replace hB := bw_trans hB hb
  replace hW := bw_trans hW hb
  obtain ⟨Ag, cg, rfl⟩ := Gg.form
  clear hb
  skip
  go_wp2_with fail
  refine (eqInts_any Ag Aw ys.length cg cw _ _ Gg.sl.2 (GW.below hW) hy).mono ?_
  rintro e w7 ⟨rfl, hb⟩
  replace Ox_aStock := Ox_aStock.below hb
  replace Gg := Gg.below hb
  replace hx0 := (hb.cell (p := ⟨w.heap.size, 0, none⟩) ZB).trans hx0
  replace hx1 := (hb.cell (p := ⟨w.heap.size, 1, none⟩) ZB).trans hx1
  replace hx2 := (hb.cell (p := ⟨w.heap.size, 2, none⟩) ZB).trans hx2
  replace ZB := Nat.lt_of_lt_of_le ZB hb.size
  replace Zx_aStock := Nat.lt_of_lt_of_le Zx_aStock hb.size
  replace hB := bw_trans hB hb
  replace hW := bw_trans hW hb
  clear hb
  go_wp2_with fail
  refine (toInts_any a_aStock l_aStock c_aStock xs_aStock _ (H_aStock.below hB) hn_aStock).mono ?_
  rintro e w8 ⟨rfl, he⟩
  have hb : Below w7.heap.size w7 w8 := by rw [he]; exact bw_alloc (Below.refl _ _) _
  have Oq_aStock : OwnI w8 w7.heap.size (.slice (some ⟨w7.heap.size, 0, none⟩) l_aStock l_aStock) xs_aStock := by rw [he]; exact OwnI.made H_aStock.length hn_aStock
  have Zq_aStock : w7.heap.size < w8.heap.size := by rw [he]; simp
  clear he
  replace Ox_aStock := Ox_aStock.below hb
  replace Gg := Gg.below hb
  replace hx0 := (hb.cell (p := ⟨w.heap.size, 0, none⟩) ZB).trans hx0
  replace hx1 := (hb.cell (p := ⟨w.heap.size, 1, none⟩) ZB).trans hx1
  replace hx2 := (hb.cell (p := ⟨w.heap.size, 2, none⟩) ZB).trans hx2
  replace ZB := Nat.lt_of_lt_of_le ZB hb.size
  replace Zx_aStock := Nat.lt_of_lt_of_le Zx_aStock hb.size
  replace hB := bw_trans hB hb
  replace hW := bw_trans hW hb
  clear hb
  go_wp2_with fail
  refine (eqInts_any _ _ l_aStock _ _ xs_aStock _ (by have h := Ox_aStock.sl; rw [← h.1] at h; exact h.2) (by have h := Oq_aStock.sl; rw [← h.1] at h; exact h.2) hn_aStock).mono ?_
  rintro e w9 ⟨rfl, hb⟩
  replace Ox_aStock := Ox_aStock.below hb
  replace Gg := Gg.below hb
  replace Oq_aStock := Oq_aStock.below hb
  replace hx0 := (hb.cell (p := ⟨w.heap.size, 0, none⟩) ZB).trans hx0
  replace hx1 := (hb.cell (p := ⟨w.heap.size, 1, none⟩) ZB).trans hx1
  replace hx2 := (hb.cell (p := ⟨w.heap.size, 2, none⟩) ZB).trans hx2
  replace ZB := Nat.lt_of_lt_of_le ZB hb.size
  replace Zx_aStock := Nat.lt_of_lt_of_le Zx_aStock hb.size
  replace Zq_aStock := Nat.lt_of_lt_of_le Zq_aStock hb.size
  replace hB := bw_trans hB hb
  replace hW := bw_trans hW hb
  clear hb
  clear Oq_aStock Zq_aStock
  go_wp2_with fail
  refine (markI_any _ l_aStock _ w3.heap.size (1) xs_aStock _ Ox_aStock hn_aStock ⟨by omega, by omega⟩).mono ?_
  rintro e w10 ⟨rfl, _, hg, _⟩
  replace hg : w9.grownBy w10 (some w3.heap.size) := hg
  have hle : w3.heap.size ≤ w3.heap.size := LE_aStock.out.1
  have hlg : w3.heap.size < w5.heap.size := LE_aStock.out.2.1
  have hww : w.heap.size ≤ w3.heap.size := LE_aStock.out.2.2
  replace hB := bw_from hB (below_grown hg (fun j hj => by injection hj with hj; omega) hB.size)
  replace hW := bw_from hW (below_grown hg (fun j hj => by injection hj with hj; omega) hW.size)
  replace hx0 := (hg.cell_far ⟨w.heap.size, 0, none⟩ ZB (fun e => absurd (Option.some.inj e) (Nat.ne_of_lt (Nat.lt_of_lt_of_le LB.out hle)))).trans hx0
  replace hx1 := (hg.cell_far ⟨w.heap.size, 1, none⟩ ZB (fun e => absurd (Option.some.inj e) (Nat.ne_of_lt (Nat.lt_of_lt_of_le LB.out hle)))).trans hx1
  replace hx2 := (hg.cell_far ⟨w.heap.size, 2, none⟩ ZB (fun e => absurd (Option.some.inj e) (Nat.ne_of_lt (Nat.lt_of_lt_of_le LB.out hle)))).trans hx2
  replace ZB := Nat.lt_of_lt_of_le ZB hg.size
  replace Gg := Gg.keptRow hg hlg
  clear hg hle hlg hww Ox_aStock Zx_aStock
  have hkn : ¬ (1 + (l_aStock : Int) < 0) := by omega
  go_wp2_with fail
  refine (eqInts_any Ag Aw ys.length cg cw _ _ Gg.sl.2 (GW.below hW) hy).mono ?_
  rintro e w11 ⟨rfl, hb⟩
  replace Gg := Gg.below hb
  replace hx0 := (hb.cell (p := ⟨w.heap.size, 0, none⟩) ZB).trans hx0
  replace hx1 := (hb.cell (p := ⟨w.heap.size, 1, none⟩) ZB).trans hx1
  replace hx2 := (hb.cell (p := ⟨w.heap.size, 2, none⟩) ZB).trans hx2
  replace ZB := Nat.lt_of_lt_of_le ZB hb.size
  replace hB := bw_trans hB hb
  replace hW := bw_trans hW hb
  clear hb
  clear hkn
  go_wp2_with fail
  refine (markI_any Ag ys.length cg w5.heap.size 1 ys _ Gg hy ⟨by omega, by omega⟩).mono ?_
  rintro e w12 ⟨rfl, GM, _, hb⟩
  replace hx0 := (hb.cell (p := ⟨w.heap.size, 0, none⟩) (Nat.lt_of_lt_of_le LB.out BGhW.out)).trans hx0
  replace hx1 := (hb.cell (p := ⟨w.heap.size, 1, none⟩) (Nat.lt_of_lt_of_le LB.out BGhW.out)).trans hx1
  replace hx2 := (hb.cell (p := ⟨w.heap.size, 2, none⟩) (Nat.lt_of_lt_of_le LB.out BGhW.out)).trans hx2
  replace hB := bw_from hB (hb.mono BGhB.out)
  replace hW := bw_from hW (hb.mono BGhW.out)
  replace ZB := Nat.lt_of_lt_of_le ZB hb.size
  clear hb Gg
  have hml := mks_len 1 ys.length
  have HM := Lib.hid hml
  clear hml
  have hqn : ¬ (1 + (ys.length : Int) < 0) := by omega
  go_wp2_with fail
  refine (heldI_any Ag ys.length cg 1 _ (by have h := GM.sl.2; rw [HM.out] at h; exact h) hy ⟨by omega, by omega⟩).mono ?_
  rintro e w13 ⟨rfl, hb⟩
  replace GM := GM.below hb
  replace hx0 := (hb.cell (p := ⟨w.heap.size, 0, none⟩) ZB).trans hx0
  replace hx1 := (hb.cell (p := ⟨w.heap.size, 1, none⟩) ZB).trans hx1
  replace hx2 := (hb.cell (p := ⟨w.heap.size, 2, none⟩) ZB).trans hx2
  replace ZB := Nat.lt_of_lt_of_le ZB hb.size
  replace hB := bw_trans hB hb
  replace hW := bw_trans hW hb
  clear hb
  go_wp2_with fail
  refine (toLensHall_any _ _ _ _).mono ?_
  rintro e w14 ⟨rfl, hb⟩
  replace GM := GM.below hb
  replace hx0 := (hb.cell (p := ⟨w.heap.size, 0, none⟩) ZB).trans hx0
  replace hx1 := (hb.cell (p := ⟨w.heap.size, 1, none⟩) ZB).trans hx1
  replace hx2 := (hb.cell (p := ⟨w.heap.size, 2, none⟩) ZB).trans hx2
  replace ZB := Nat.lt_of_lt_of_le ZB hb.size
  replace hB := bw_trans hB hb
  replace hW := bw_trans hW hb
  clear hb
  go_wp2_with fail
  refine (toInts_any a_aStock l_aStock c_aStock xs_aStock _ (H_aStock.below hB) hn_aStock).mono ?_
  rintro e w15 ⟨rfl, he⟩
  have hb : Below w14.heap.size w14 w15 := by rw [he]; exact bw_alloc (Below.refl _ _) _
  have Oh_aStock : OwnI w15 w14.heap.size (.slice (some ⟨w14.heap.size, 0, none⟩) l_aStock l_aStock) xs_aStock := by rw [he]; exact OwnI.made H_aStock.length hn_aStock
  have Zh_aStock : w14.heap.size < w15.heap.size := by rw [he]; simp
  clear he
  replace GM := GM.below hb
  replace hx0 := (hb.cell (p := ⟨w.heap.size, 0, none⟩) ZB).trans hx0
  replace hx1 := (hb.cell (p := ⟨w.heap.size, 1, none⟩) ZB).trans hx1
  replace hx2 := (hb.cell (p := ⟨w.heap.size, 2, none⟩) ZB).trans hx2
  replace ZB := Nat.lt_of_lt_of_le ZB hb.size
  replace hB := bw_trans hB hb
  replace hW := bw_trans hW hb
  clear hb
  go_wp2_with fail
  refine (HI.out (some ⟨w14.heap.size, 0, none⟩) l_aStock _ (by have h := Oh_aStock.sl; rw [← h.1] at h; exact h.2)).mono ?_
  rintro e w16 ⟨Vh, rfl, Gh, hb⟩
  replace GM := GM.below hb
  replace Oh_aStock := Oh_aStock.below hb
  replace hx0 := (hb.cell (p := ⟨w.heap.size, 0, none⟩) ZB).trans hx0
  replace hx1 := (hb.cell (p := ⟨w.heap.size, 1, none⟩) ZB).trans hx1
  replace hx2 := (hb.cell (p := ⟨w.heap.size, 2, none⟩) ZB).trans hx2
  replace ZB := Nat.lt_of_lt_of_le ZB hb.size
  replace Zh_aStock := Nat.lt_of_lt_of_le Zh_aStock hb.size
  replace hB := bw_trans hB hb
  replace hW := bw_trans hW hb
  obtain ⟨Ah, ch, rfl⟩ := Gh.form
  clear hb
  clear Oh_aStock Zh_aStock
  go_wp2_with fail
  refine (eqInts_any Ah Aw ys.length ch cw _ _ Gh.sl.2 (GW.below hW) hy).mono ?_
  rintro e w17 ⟨rfl, hb⟩
  replace GM := GM.below hb
  replace Gh := Gh.below hb
  replace hx0 := (hb.cell (p := ⟨w.heap.size, 0, none⟩) ZB).trans hx0
  replace hx1 := (hb.cell (p := ⟨w.heap.size, 1, none⟩) ZB).trans hx1
  replace hx2 := (hb.cell (p := ⟨w.heap.size, 2, none⟩) ZB).trans hx2
  replace ZB := Nat.lt_of_lt_of_le ZB hb.size
  replace hB := bw_trans hB hb
  replace hW := bw_trans hW hb
  clear hb
  clear Gh
  go_wp2_with fail
  refine (heldI_any Ag ys.length cg 1 _ (by have h := GM.sl.2; rw [HM.out] at h; exact h) hy ⟨by omega, by omega⟩).mono ?_
  rintro e w18 ⟨rfl, hb⟩
  replace GM := GM.below hb
  replace hx0 := (hb.cell (p := ⟨w.heap.size, 0, none⟩) ZB).trans hx0
  replace hx1 := (hb.cell (p := ⟨w.heap.size, 1, none⟩) ZB).trans hx1
  replace hx2 := (hb.cell (p := ⟨w.heap.size, 2, none⟩) ZB).trans hx2
  replace ZB := Nat.lt_of_lt_of_le ZB hb.size
  replace hB := bw_trans hB hb
  replace hW := bw_trans hW hb
  clear hb
  clear GW GM HM
  go_wp2
  go_ret
  exact ⟨rfl, hB⟩
end Go.Proofs.Ythhilkahfgpncaa
