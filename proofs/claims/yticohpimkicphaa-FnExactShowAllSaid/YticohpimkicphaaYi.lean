/-
  MovesFrom and MoveGlass: the laws.
-/
import Derived.Test.YticohpimkicphaaYh
import Derived.Deep.RegionHeld3
namespace Go.Proofs.Yticohpimkicphaa
open Go.RowKit

set_option maxRecDepth 100000 in
set_option maxHeartbeats 6400000 in
theorem law_MovesFrom (a_aX : Option Addr) (l_aX c_aX : Nat) (xs_aX : List Int) (b_aX : Option Addr) (m_aX d_aX : Nat) (bs_aX : List BrE) (a_aPlaces : Option Addr) (l_aPlaces c_aPlaces : Nat) (xs_aPlaces : List Int) (w : World) (hl_aX : l_aX ≤ 9223372036854775807) (hm_aX : m_aX ≤ 9223372036854775807) (H_aX : SlI w a_aX l_aX xs_aX) (HB_aX : SlBr w b_aX m_aX bs_aX) (hm_aPlaces : l_aPlaces ≤ 9223372036854775807) (H_aPlaces : SlI w a_aPlaces l_aPlaces xs_aPlaces) :
    Calls Try.prog 8 #[.agg #[.slice a_aX l_aX c_aX, .slice b_aX m_aX d_aX], .slice a_aPlaces l_aPlaces c_aPlaces] w fun e w' => e = .returned (.bool true) ∧ Below w.heap.size w w' := by
  by_cases hn_aPlaces : l_aPlaces ≤ 1048576
  case neg =>
    clear H_aX HB_aX H_aPlaces
    go_enter Try.func8, Try.ntmps8
    go_wp2
    go_ret
    exact ⟨rfl, bw_alloc (Below.refl _ _) _⟩
  have HSZ := Lib.hid (fun W => szSlide_any a_aX l_aX c_aX b_aX m_aX d_aX 1048576 W hl_aX hm_aX ⟨by omega, by omega⟩)
  have hsz := @szD_ok 1048576 l_aX m_aX (by omega)
  generalize szD 1048576 l_aX m_aX = Z at *
  by_cases hz : Z < 0
  case pos =>
    clear H_aX HB_aX H_aPlaces hsz
    go_enter Try.func8, Try.ntmps8
    go_wp2_with fail
    refine (HSZ.out _).mono ?_
    rintro e w0 ⟨rfl, hB0⟩
    go_wp2
    go_ret
    exact ⟨rfl, bw_trans (bw_alloc (Below.refl _ _) _) hB0⟩
  obtain ⟨hn_aX, hq_aX⟩ := hsz hz
  clear hsz
  have hS : ∀ (A_aX : Option Addr) (C_aX : Nat) (B_aX : Option Addr) (D_aX : Nat) (A_aPlaces : Option Addr) (C_aPlaces : Nat) (W : World), SlI W A_aX l_aX xs_aX → SlBr W B_aX m_aX bs_aX → SlI W A_aPlaces l_aPlaces xs_aPlaces → Calls Try.prog 32 #[.agg #[.slice A_aX l_aX C_aX, .slice B_aX m_aX D_aX], .slice A_aPlaces l_aPlaces C_aPlaces] W (GivesIC (mfL xs_aX l_aX bs_aX m_aX xs_aPlaces) (scC xs_aX l_aX bs_aX m_aX [xs_aPlaces] 0) W) := fun A_aX C_aX B_aX D_aX A_aPlaces C_aPlaces W K_aX KB_aX K_aPlaces => sMovesFrom_any A_aX l_aX C_aX xs_aX B_aX m_aX D_aX bs_aX A_aPlaces l_aPlaces C_aPlaces xs_aPlaces W K_aX KB_aX K_aPlaces hn_aX hq_aX hn_aPlaces
  have hI : ∀ (A_aX : Option Addr) (C_aX : Nat) (B_aX : Option Addr) (D_aX : Nat) (A_aPlaces : Option Addr) (C_aPlaces : Nat) (W : World), SlI W A_aX l_aX xs_aX → SlBr W B_aX m_aX bs_aX → SlI W A_aPlaces l_aPlaces xs_aPlaces → Calls Try.prog 33 #[.agg #[.slice A_aX l_aX C_aX, .slice B_aX m_aX D_aX], .slice A_aPlaces l_aPlaces C_aPlaces] W (GivesIC (mfL xs_aX l_aX bs_aX m_aX xs_aPlaces) (scC xs_aX l_aX bs_aX m_aX [xs_aPlaces] 0) W) := fun A_aX C_aX B_aX D_aX A_aPlaces C_aPlaces W K_aX KB_aX K_aPlaces => iMovesFrom_any A_aX l_aX C_aX xs_aX B_aX m_aX D_aX bs_aX A_aPlaces l_aPlaces C_aPlaces xs_aPlaces W K_aX KB_aX K_aPlaces hn_aX hq_aX hn_aPlaces
  have hy : (mfL xs_aX l_aX bs_aX m_aX xs_aPlaces).length ≤ 1048576 := mf_len H_aX.length HB_aX.1
  generalize mfL xs_aX l_aX bs_aX m_aX xs_aPlaces = ys at *
  generalize scC xs_aX l_aX bs_aX m_aX [xs_aPlaces] 0 = K0 at *
  have HS := Lib.hid hS
  have HI := Lib.hid hI
  clear hS hI
  have HT := Lib.hid (fun W (hW : Below w.heap.size w W) => toSlide_any a_aX l_aX c_aX xs_aX b_aX m_aX d_aX bs_aX W (H_aX.below hW) (HB_aX.below hW) hn_aX hq_aX)
  clear H_aX HB_aX
  go_enter Try.func8, Try.ntmps8
  go_wp2_with fail
  refine (HSZ.out _).mono ?_
  rintro e w1 ⟨rfl, hb⟩
  clear HSZ
  have hX0 : w1.cell? ⟨w.heap.size, 0, none⟩ = some (.slice a_aX l_aX c_aX) := cell_of hb (by go_simp)
  have hX1 : w1.cell? ⟨w.heap.size, 1, none⟩ = some (.slice b_aX m_aX d_aX) := cell_of hb (by go_simp)
  have hB := bw_trans (bw_alloc (Below.refl _ _) _) hb
  have ZB : w.heap.size < w1.heap.size := World.block_lt_of_cell? w1 _ hX0
  clear hb
  go_wp2_with fail
  refine (HT.out _ hB).mono ?_
  rintro e w2 ⟨gs1, gs2, rfl, Ns1, Ns2, Ns3, Os, Xs, Fs, hb⟩
  replace hX0 := cell_of hb hX0
  replace hX1 := cell_of hb hX1
  replace ZB := Nat.lt_of_lt_of_le ZB hb.size
  replace hB := bw_trans hB hb
  clear hb
  replace Fs := Lib.hid Fs
  have Ss : SlI w2 (some ⟨gs1, 0, none⟩) l_aX xs_aX := by (have h := Os.sl; rw [← h.1] at h; exact h.2)
  go_wp2_with fail
  refine (toInts_any a_aPlaces l_aPlaces c_aPlaces xs_aPlaces _ (H_aPlaces.below hB) hn_aPlaces).mono ?_
  rintro e w3 ⟨rfl, he⟩
  have hb : Below w2.heap.size w2 w3 := by rw [he]; exact bw_alloc (Below.refl _ _) _
  have Os_aPlaces : OwnI w3 w2.heap.size (.slice (some ⟨w2.heap.size, 0, none⟩) l_aPlaces l_aPlaces) xs_aPlaces := by rw [he]; exact OwnI.made H_aPlaces.length hn_aPlaces
  have Zs_aPlaces : w2.heap.size < w3.heap.size := by rw [he]; simp
  clear he
  replace Fs : Hid _ := fun j => (hb.frozen (p := ⟨gs2, j, none⟩) Ns3).trans (Fs.out j)
  replace Ss := Ss.below hb
  replace Os := Os.below hb
  replace Xs := Xs.below hb
  replace hX0 := cell_of hb hX0
  replace hX1 := cell_of hb hX1
  replace ZB := Nat.lt_of_lt_of_le ZB hb.size
  replace Ns3 := Nat.lt_of_lt_of_le Ns3 hb.size
  replace hB := bw_trans hB hb
  clear hb
  go_wp2_with fail
  refine (HS.out (some ⟨gs1, 0, none⟩) l_aX (some ⟨gs2, 0, none⟩) m_aX (some ⟨w2.heap.size, 0, none⟩) l_aPlaces _ Ss Xs (by have h := Os_aPlaces.sl; rw [← h.1] at h; exact h.2)).mono ?_
  rintro e w4 ⟨Vw, rfl, Gw, hb⟩
  replace Fs : Hid _ := fun j => (hb.frozen (p := ⟨gs2, j, none⟩) Ns3).trans (Fs.out j)
  replace Ss := Ss.below hb
  replace Os := Os.below hb
  replace Xs := Xs.below hb
  replace Os_aPlaces := Os_aPlaces.below hb
  replace hX0 := cell_of hb hX0
  replace hX1 := cell_of hb hX1
  replace ZB := Nat.lt_of_lt_of_le ZB hb.size
  replace Ns3 := Nat.lt_of_lt_of_le Ns3 hb.size
  replace Zs_aPlaces := Nat.lt_of_lt_of_le Zs_aPlaces hb.size
  replace hB := bw_trans hB hb
  obtain ⟨Aw, cw, rfl⟩ := Gw.form
  clear hb
  clear Ss Os Xs Fs Ns3
  clear Os_aPlaces Zs_aPlaces
  have hW := Below.refl w4.heap.size w4
  have LZB : w.heap.size < w4.heap.size := ZB
  have hBs : w.heap.size ≤ w4.heap.size := hB.size
  have GW := Gw.sl.2
  clear Gw
  go_wp2_with fail
  refine (HT.out _ hB).mono ?_
  rintro e w5 ⟨gx1, gx2, rfl, Nx1, Nx2, Nx3, Ox, Xx, Fx, hb⟩
  replace hX0 := cell_of hb hX0
  replace hX1 := cell_of hb hX1
  replace ZB := Nat.lt_of_lt_of_le ZB hb.size
  replace hB := bw_trans hB hb
  replace hW := bw_trans hW hb
  clear hb
  replace Fx := Lib.hid Fx
  have Sx : SlI w5 (some ⟨gx1, 0, none⟩) l_aX xs_aX := by (have h := Ox.sl; rw [← h.1] at h; exact h.2)
  go_wp2_with fail
  have hb : Below w5.heap.size w5 (w5.alloc (.cells #[.slice (some ⟨gx1, 0, none⟩) l_aX l_aX, .slice (some ⟨gx2, 0, none⟩) m_aX m_aX] 33)) := bw_alloc (Below.refl _ _) _
  have hY0 : (w5.alloc (.cells #[.slice (some ⟨gx1, 0, none⟩) l_aX l_aX, .slice (some ⟨gx2, 0, none⟩) m_aX m_aX] 33)).cell? ⟨w5.heap.size, 0, none⟩ = some (.slice (some ⟨gx1, 0, none⟩) l_aX l_aX) := by go_simp
  have hY1 : (w5.alloc (.cells #[.slice (some ⟨gx1, 0, none⟩) l_aX l_aX, .slice (some ⟨gx2, 0, none⟩) m_aX m_aX] 33)).cell? ⟨w5.heap.size, 1, none⟩ = some (.slice (some ⟨gx2, 0, none⟩) m_aX m_aX) := by go_simp
  generalize (w5.alloc (.cells #[.slice (some ⟨gx1, 0, none⟩) l_aX l_aX, .slice (some ⟨gx2, 0, none⟩) m_aX m_aX] 33)) = w6 at hb hY0 hY1 ⊢
  replace Fx : Hid _ := fun j => (hb.frozen (p := ⟨gx2, j, none⟩) Nx3).trans (Fx.out j)
  replace Sx := Sx.below hb
  replace Ox := Ox.below hb
  replace Xx := Xx.below hb
  replace hX0 := cell_of hb hX0
  replace hX1 := cell_of hb hX1
  replace ZB := Nat.lt_of_lt_of_le ZB hb.size
  replace Nx3 := Nat.lt_of_lt_of_le Nx3 hb.size
  replace hB := bw_trans hB hb
  replace hW := bw_trans hW hb
  clear hb
  have LX : w4.heap.size ≤ gx1 := Nx1
  go_wp2_with fail
  refine (toInts_any a_aPlaces l_aPlaces c_aPlaces xs_aPlaces _ (H_aPlaces.below hB) hn_aPlaces).mono ?_
  rintro e w7 ⟨rfl, he⟩
  have hb : Below w6.heap.size w6 w7 := by rw [he]; exact bw_alloc (Below.refl _ _) _
  have LGX_aPlaces := Lib.hid (show gx2 < w6.heap.size from Nx3)
  have Ox_aPlaces : OwnI w7 w6.heap.size (.slice (some ⟨w6.heap.size, 0, none⟩) l_aPlaces l_aPlaces) xs_aPlaces := by rw [he]; exact OwnI.made H_aPlaces.length hn_aPlaces
  have Zx_aPlaces : w6.heap.size < w7.heap.size := by rw [he]; simp
  clear he
  replace Fx : Hid _ := fun j => (hb.frozen (p := ⟨gx2, j, none⟩) Nx3).trans (Fx.out j)
  replace Sx := Sx.below hb
  replace Ox := Ox.below hb
  replace Xx := Xx.below hb
  replace hX0 := cell_of hb hX0
  replace hX1 := cell_of hb hX1
  replace hY0 := cell_of hb hY0
  replace hY1 := cell_of hb hY1
  replace ZB := Nat.lt_of_lt_of_le ZB hb.size
  replace Nx3 := Nat.lt_of_lt_of_le Nx3 hb.size
  replace hB := bw_trans hB hb
  replace hW := bw_trans hW hb
  clear hb
  have BGX : gx2 < w7.heap.size := Nx3
  have BGhW := Lib.hid (show w4.heap.size ≤ w7.heap.size from hW.size)
  have BGhB := Lib.hid (show w.heap.size ≤ w7.heap.size from hB.size)
  have LE_aPlaces := Lib.hid (show w6.heap.size < w7.heap.size from Zx_aPlaces)
  have LG_aPlaces := Lib.hid (show gx2 < w6.heap.size from LGX_aPlaces.out)
  go_wp2_with fail
  refine (HI.out (some ⟨gx1, 0, none⟩) l_aX (some ⟨gx2, 0, none⟩) m_aX (some ⟨w6.heap.size, 0, none⟩) l_aPlaces _ Sx Xx (by have h := Ox_aPlaces.sl; rw [← h.1] at h; exact h.2)).mono ?_
  rintro e w8 ⟨Vg, rfl, Gg, hb⟩
  replace Fx : Hid _ := fun j => (hb.frozen (p := ⟨gx2, j, none⟩) Nx3).trans (Fx.out j)
  replace Sx := Sx.below hb
  replace Ox := Ox.below hb
  replace Xx := Xx.below hb
  replace Ox_aPlaces := Ox_aPlaces.below hb
  replace hX0 := cell_of hb hX0
  replace hX1 := cell_of hb hX1
  replace hY0 := cell_of hb hY0
  replace hY1 := cell_of hb hY1
  replace ZB := Nat.lt_of_lt_of_le ZB hb.size
  replace Nx3 := Nat.lt_of_lt_of_le Nx3 hb.size
  replace Zx_aPlaces := Nat.lt_of_lt_of_le Zx_aPlaces hb.size
  replace hB := bw_trans hB hb
  replace hW := bw_trans hW hb
  obtain ⟨Ag, cg, rfl⟩ := Gg.form
  clear hb
  go_wp2_with fail
  refine (eqInts_any Ag Aw ys.length cg cw _ _ Gg.sl.2 (GW.below hW) hy).mono ?_
  rintro e w9 ⟨rfl, hb⟩
  replace Fx : Hid _ := fun j => (hb.frozen (p := ⟨gx2, j, none⟩) Nx3).trans (Fx.out j)
  replace Sx := Sx.below hb
  replace Ox := Ox.below hb
  replace Xx := Xx.below hb
  replace Ox_aPlaces := Ox_aPlaces.below hb
  replace Gg := Gg.below hb
  replace hX0 := cell_of hb hX0
  replace hX1 := cell_of hb hX1
  replace hY0 := cell_of hb hY0
  replace hY1 := cell_of hb hY1
  replace ZB := Nat.lt_of_lt_of_le ZB hb.size
  replace Nx3 := Nat.lt_of_lt_of_le Nx3 hb.size
  replace Zx_aPlaces := Nat.lt_of_lt_of_le Zx_aPlaces hb.size
  replace hB := bw_trans hB hb
  replace hW := bw_trans hW hb
  clear hb
  go_wp2_with fail
  have hT2 := Lib.hid (fun W (hW2 : Below w9.heap.size w9 W) => HT.out W (bw_trans hB hW2))
  have hE2 := Lib.hid (fun (A' : Option Addr) (B' : Option Addr) W (hW2 : Below w9.heap.size w9 W) (h1 : SlI W A' l_aX xs_aX) (h2 : SlBr W B' m_aX bs_aX) => eqSlide_any (some ⟨gx1, 0, none⟩) l_aX l_aX xs_aX (some ⟨gx2, 0, none⟩) m_aX m_aX bs_aX A' l_aX B' m_aX W (Sx.below hW2) (Xx.below hW2) h1 h2 hn_aX hq_aX)
  go_region_held3 (fun w' => w'.cell? ⟨w.heap.size, 0, none⟩ = some (.slice a_aX l_aX c_aX) ∧ w'.cell? ⟨w.heap.size, 1, none⟩ = some (.slice b_aX m_aX d_aX) ∧ w'.cell? ⟨w5.heap.size, 0, none⟩ = some (.slice (some ⟨gx1, 0, none⟩) l_aX l_aX) ∧ w'.cell? ⟨w5.heap.size, 1, none⟩ = some (.slice (some ⟨gx2, 0, none⟩) m_aX m_aX))
    (((try dsimp only); (repeat' apply And.intro) <;> first | assumption | go_simp))
    (first | (go_at_call 14; refine (hT2.out _ (Below.refl _ _).drew).mono ?_; rintro e wa ⟨gq1, gq2, rfl, _, _, _, Oq, Xq, _, hba0⟩; (have hba : Below w9.heap.size w9 wa := bw_trans (Below.refl _ _).drew hba0); (have Sq : SlI wa (some ⟨gq1, 0, none⟩) l_aX xs_aX := by (have h := Oq.sl; rw [← h.1] at h; exact h.2)); (have hv0 := cell_of hba hX0); (have hv1 := cell_of hba hX1); (have hv2 := cell_of hba hY0); (have hv3 := cell_of hba hY1)) | (go_at_call 18; refine (hE2.out _ _ _ hba Sq Xq).mono ?_; rintro e w10 ⟨rfl, hbb⟩; (have hb : Below w9.heap.size w9 w10 := bw_trans hba hbb); (have hu0 := cell_of hbb hv0); (have hu1 := cell_of hbb hv1); (have hu2 := cell_of hbb hv2); (have hu3 := cell_of hbb hv3)))
  clear hT2 hE2 Oq Xq Sq hv0 hv1 hv2 hv3 hu0 hu1 hu2 hu3 hba hba0 hbb
  replace Fx : Hid _ := fun j => (hb.frozen (p := ⟨gx2, j, none⟩) Nx3).trans (Fx.out j)
  replace Sx := Sx.below hb
  replace Ox := Ox.below hb
  replace Xx := Xx.below hb
  replace Ox_aPlaces := Ox_aPlaces.below hb
  replace Gg := Gg.below hb
  replace hX0 := cell_of hb hX0
  replace hX1 := cell_of hb hX1
  replace hY0 := cell_of hb hY0
  replace hY1 := cell_of hb hY1
  replace ZB := Nat.lt_of_lt_of_le ZB hb.size
  replace Nx3 := Nat.lt_of_lt_of_le Nx3 hb.size
  replace Zx_aPlaces := Nat.lt_of_lt_of_le Zx_aPlaces hb.size
  replace hB := bw_trans hB hb
  replace hW := bw_trans hW hb
  clear hb
  go_wp2_with fail
  refine (toInts_any a_aPlaces l_aPlaces c_aPlaces xs_aPlaces _ (H_aPlaces.below hB) hn_aPlaces).mono ?_
  rintro e w11 ⟨rfl, he⟩
  have hb : Below w10.heap.size w10 w11 := by rw [he]; exact bw_alloc (Below.refl _ _) _
  have Oq_aPlaces : OwnI w11 w10.heap.size (.slice (some ⟨w10.heap.size, 0, none⟩) l_aPlaces l_aPlaces) xs_aPlaces := by rw [he]; exact OwnI.made H_aPlaces.length hn_aPlaces
  have Zq_aPlaces : w10.heap.size < w11.heap.size := by rw [he]; simp
  clear he
  replace Fx : Hid _ := fun j => (hb.frozen (p := ⟨gx2, j, none⟩) Nx3).trans (Fx.out j)
  replace Sx := Sx.below hb
  replace Ox := Ox.below hb
  replace Xx := Xx.below hb
  replace Ox_aPlaces := Ox_aPlaces.below hb
  replace Gg := Gg.below hb
  replace hX0 := cell_of hb hX0
  replace hX1 := cell_of hb hX1
  replace hY0 := cell_of hb hY0
  replace hY1 := cell_of hb hY1
  replace ZB := Nat.lt_of_lt_of_le ZB hb.size
  replace Nx3 := Nat.lt_of_lt_of_le Nx3 hb.size
  replace Zx_aPlaces := Nat.lt_of_lt_of_le Zx_aPlaces hb.size
  replace hB := bw_trans hB hb
  replace hW := bw_trans hW hb
  clear hb
  go_wp2_with fail
  refine (eqInts_any _ _ l_aPlaces l_aPlaces l_aPlaces _ _ (by have h := Ox_aPlaces.sl; rw [← h.1] at h; exact h.2) (by have h := Oq_aPlaces.sl; rw [← h.1] at h; exact h.2) hn_aPlaces).mono ?_
  rintro e w12 ⟨rfl, hb⟩
  replace Fx : Hid _ := fun j => (hb.frozen (p := ⟨gx2, j, none⟩) Nx3).trans (Fx.out j)
  replace Sx := Sx.below hb
  replace Ox := Ox.below hb
  replace Xx := Xx.below hb
  replace Ox_aPlaces := Ox_aPlaces.below hb
  replace Gg := Gg.below hb
  replace Oq_aPlaces := Oq_aPlaces.below hb
  replace hX0 := cell_of hb hX0
  replace hX1 := cell_of hb hX1
  replace hY0 := cell_of hb hY0
  replace hY1 := cell_of hb hY1
  replace ZB := Nat.lt_of_lt_of_le ZB hb.size
  replace Nx3 := Nat.lt_of_lt_of_le Nx3 hb.size
  replace Zx_aPlaces := Nat.lt_of_lt_of_le Zx_aPlaces hb.size
  replace Zq_aPlaces := Nat.lt_of_lt_of_le Zq_aPlaces hb.size
  replace hB := bw_trans hB hb
  replace hW := bw_trans hW hb
  clear hb
  clear Oq_aPlaces Zq_aPlaces
  go_wp2_with fail
  refine (markSlide_any gx1 gx2 l_aX m_aX xs_aX bs_aX 1 _ Ox Xx Fx.out Nx2 Nx3 hn_aX hq_aX ⟨by omega, by omega⟩).mono ?_
  rintro e w13 ⟨rfl, hg, hr⟩
  replace hB := bw_from hB (hg.mono (Nat.le_trans hBs LX))
  replace hW := bw_from hW (hg.mono LX)
  have hlX : w.heap.size < gx1 := Nat.lt_of_lt_of_le LZB LX
  replace hX0 := (hg.cell (p := ⟨w.heap.size, 0, none⟩) hlX).trans hX0
  replace hX1 := (hg.cell (p := ⟨w.heap.size, 1, none⟩) hlX).trans hX1
  clear hY0 hY1 hlX
  replace ZB := Nat.lt_of_lt_of_le ZB hg.size
  replace Zx_aPlaces := Nat.lt_of_lt_of_le Zx_aPlaces hg.size
  replace Ox_aPlaces := hr _ _ _ LG_aPlaces.out Ox_aPlaces
  replace Gg := hr _ _ _ BGX Gg
  clear hg hr Sx Ox Xx Fx Nx3
  go_wp2_with fail
  refine (markI_any _ l_aPlaces _ w6.heap.size (1 + (l_aX : Int) + 4 * (m_aX : Int)) xs_aPlaces _ Ox_aPlaces hn_aPlaces ⟨by omega, by omega⟩).mono ?_
  rintro e w14 ⟨rfl, _, hg, _⟩
  replace hg : w13.grownBy w14 (some w6.heap.size) := hg
  have hlg : w6.heap.size < w7.heap.size := LE_aPlaces.out
  have hlx : gx2 < w6.heap.size := LG_aPlaces.out
  have hww : w4.heap.size < gx2 := Nat.lt_of_le_of_lt LX Nx2
  replace hB := bw_from hB (below_grown hg (fun j hj => by injection hj with hj; omega) hB.size)
  replace hW := bw_from hW (below_grown hg (fun j hj => by injection hj with hj; omega) hW.size)
  replace hX0 := (hg.cell_far ⟨w.heap.size, 0, none⟩ ZB (fun e => absurd (Option.some.inj e) (by dsimp only; omega))).trans hX0
  replace hX1 := (hg.cell_far ⟨w.heap.size, 1, none⟩ ZB (fun e => absurd (Option.some.inj e) (by dsimp only; omega))).trans hX1
  replace ZB := Nat.lt_of_lt_of_le ZB hg.size
  replace Gg := Gg.keptRow hg hlg
  clear hg hlg hlx hww Ox_aPlaces Zx_aPlaces
  have hkn : ¬ (1 + (l_aX : Int) + 4 * (m_aX : Int) + (l_aPlaces : Int) < 0) := by omega
  go_wp2_with fail
  refine (eqInts_any Ag Aw ys.length cg cw _ _ Gg.sl.2 (GW.below hW) hy).mono ?_
  rintro e w15 ⟨rfl, hb⟩
  replace Gg := Gg.below hb
  replace hX0 := cell_of hb hX0
  replace hX1 := cell_of hb hX1
  replace ZB := Nat.lt_of_lt_of_le ZB hb.size
  replace hB := bw_trans hB hb
  replace hW := bw_trans hW hb
  clear hb
  clear hkn
  go_wp2_with fail
  refine (markI_any Ag ys.length cg w7.heap.size 1 ys _ Gg hy ⟨by omega, by omega⟩).mono ?_
  rintro e w16 ⟨rfl, GM, _, hb⟩
  replace hX0 := (hb.cell (p := ⟨w.heap.size, 0, none⟩) (Nat.lt_of_lt_of_le LZB BGhW.out)).trans hX0
  replace hX1 := (hb.cell (p := ⟨w.heap.size, 1, none⟩) (Nat.lt_of_lt_of_le LZB BGhW.out)).trans hX1
  replace hB := bw_from hB (hb.mono BGhB.out)
  replace hW := bw_from hW (hb.mono BGhW.out)
  replace ZB := Nat.lt_of_lt_of_le ZB hb.size
  clear hb Gg
  have hml := mks_len 1 ys.length
  have HM := Lib.hid hml
  clear hml
  have hqn : ¬ (1 + (ys.length : Int) < 0) := by omega
  go_wp2_with fail
  refine (heldI_any Ag ys.length cg 1 _ (by have h := GM.sl.2; rw [HM.out] at h; exact h) hy ⟨by omega, by omega⟩).mono ?_
  rintro e w17 ⟨rfl, hb⟩
  replace GM := GM.below hb
  replace hX0 := cell_of hb hX0
  replace hX1 := cell_of hb hX1
  replace ZB := Nat.lt_of_lt_of_le ZB hb.size
  replace hB := bw_trans hB hb
  replace hW := bw_trans hW hb
  clear hb
  go_wp2_with fail
  refine (HT.out _ hB).mono ?_
  rintro e w18 ⟨gh1, gh2, rfl, Nh1, Nh2, Nh3, Oh, Xh, Fh, hb⟩
  replace GM := GM.below hb
  replace hX0 := cell_of hb hX0
  replace hX1 := cell_of hb hX1
  replace ZB := Nat.lt_of_lt_of_le ZB hb.size
  replace hB := bw_trans hB hb
  replace hW := bw_trans hW hb
  clear hb
  replace Fh := Lib.hid Fh
  have Sh : SlI w18 (some ⟨gh1, 0, none⟩) l_aX xs_aX := by (have h := Oh.sl; rw [← h.1] at h; exact h.2)
  go_wp2_with fail
  refine (toInts_any a_aPlaces l_aPlaces c_aPlaces xs_aPlaces _ (H_aPlaces.below hB) hn_aPlaces).mono ?_
  rintro e w19 ⟨rfl, he⟩
  have hb : Below w18.heap.size w18 w19 := by rw [he]; exact bw_alloc (Below.refl _ _) _
  have Oh_aPlaces : OwnI w19 w18.heap.size (.slice (some ⟨w18.heap.size, 0, none⟩) l_aPlaces l_aPlaces) xs_aPlaces := by rw [he]; exact OwnI.made H_aPlaces.length hn_aPlaces
  have Zh_aPlaces : w18.heap.size < w19.heap.size := by rw [he]; simp
  clear he
  replace Fh : Hid _ := fun j => (hb.frozen (p := ⟨gh2, j, none⟩) Nh3).trans (Fh.out j)
  replace GM := GM.below hb
  replace Sh := Sh.below hb
  replace Oh := Oh.below hb
  replace Xh := Xh.below hb
  replace hX0 := cell_of hb hX0
  replace hX1 := cell_of hb hX1
  replace ZB := Nat.lt_of_lt_of_le ZB hb.size
  replace Nh3 := Nat.lt_of_lt_of_le Nh3 hb.size
  replace hB := bw_trans hB hb
  replace hW := bw_trans hW hb
  clear hb
  go_wp2_with fail
  refine (HI.out (some ⟨gh1, 0, none⟩) l_aX (some ⟨gh2, 0, none⟩) m_aX (some ⟨w18.heap.size, 0, none⟩) l_aPlaces _ Sh Xh (by have h := Oh_aPlaces.sl; rw [← h.1] at h; exact h.2)).mono ?_
  rintro e w20 ⟨Vh, rfl, Gh, hb⟩
  replace Fh : Hid _ := fun j => (hb.frozen (p := ⟨gh2, j, none⟩) Nh3).trans (Fh.out j)
  replace GM := GM.below hb
  replace Sh := Sh.below hb
  replace Oh := Oh.below hb
  replace Xh := Xh.below hb
  replace Oh_aPlaces := Oh_aPlaces.below hb
  replace hX0 := cell_of hb hX0
  replace hX1 := cell_of hb hX1
  replace ZB := Nat.lt_of_lt_of_le ZB hb.size
  replace Nh3 := Nat.lt_of_lt_of_le Nh3 hb.size
  replace Zh_aPlaces := Nat.lt_of_lt_of_le Zh_aPlaces hb.size
  replace hB := bw_trans hB hb
  replace hW := bw_trans hW hb
  obtain ⟨Ah, ch, rfl⟩ := Gh.form
  clear hb
  clear Sh Oh Xh Fh Nh3
  clear Oh_aPlaces Zh_aPlaces
  go_wp2_with fail
  refine (eqInts_any Ah Aw ys.length ch cw _ _ Gh.sl.2 (GW.below hW) hy).mono ?_
  rintro e w21 ⟨rfl, hb⟩
  replace GM := GM.below hb
  replace Gh := Gh.below hb
  replace hX0 := cell_of hb hX0
  replace hX1 := cell_of hb hX1
  replace ZB := Nat.lt_of_lt_of_le ZB hb.size
  replace hB := bw_trans hB hb
  replace hW := bw_trans hW hb
  clear hb
  clear Gh
  go_wp2_with fail
  refine (heldI_any Ag ys.length cg 1 _ (by have h := GM.sl.2; rw [HM.out] at h; exact h) hy ⟨by omega, by omega⟩).mono ?_
  rintro e w22 ⟨rfl, hb⟩
  replace GM := GM.below hb
  replace hX0 := cell_of hb hX0
  replace hX1 := cell_of hb hX1
  replace ZB := Nat.lt_of_lt_of_le ZB hb.size
  replace hB := bw_trans hB hb
  replace hW := bw_trans hW hb
  clear hb
  clear GW GM HM
  go_wp2
  go_ret
  exact ⟨rfl, hB⟩

set_option maxRecDepth 100000 in
set_option maxHeartbeats 6400000 in
theorem law_MoveGlass (a_aX : Option Addr) (l_aX c_aX : Nat) (xs_aX : List Int) (b_aX : Option Addr) (m_aX d_aX : Nat) (bs_aX : List BrE) (a_aPlaces : Option Addr) (l_aPlaces c_aPlaces : Nat) (xs_aPlaces : List Int) (aMove : Int) (w : World) (hl_aX : l_aX ≤ 9223372036854775807) (hm_aX : m_aX ≤ 9223372036854775807) (H_aX : SlI w a_aX l_aX xs_aX) (HB_aX : SlBr w b_aX m_aX bs_aX) (hm_aPlaces : l_aPlaces ≤ 9223372036854775807) (H_aPlaces : SlI w a_aPlaces l_aPlaces xs_aPlaces) :
    Calls Try.prog 7 #[.agg #[.slice a_aX l_aX c_aX, .slice b_aX m_aX d_aX], .slice a_aPlaces l_aPlaces c_aPlaces, .int .i64 aMove] w fun e w' => e = .returned (.bool true) ∧ Below w.heap.size w w' := by
  by_cases hn_aPlaces : l_aPlaces ≤ 1048576
  case neg =>
    clear H_aX HB_aX H_aPlaces
    go_enter Try.func7, Try.ntmps7
    go_wp2
    go_ret
    exact ⟨rfl, bw_alloc (Below.refl _ _) _⟩
  have HSZ := Lib.hid (fun W => szSlide_any a_aX l_aX c_aX b_aX m_aX d_aX 1048576 W hl_aX hm_aX ⟨by omega, by omega⟩)
  have hsz := @szD_ok 1048576 l_aX m_aX (by omega)
  generalize szD 1048576 l_aX m_aX = Z at *
  by_cases hz : Z < 0
  case pos =>
    clear H_aX HB_aX H_aPlaces hsz
    go_enter Try.func7, Try.ntmps7
    go_wp2_with fail
    refine (HSZ.out _).mono ?_
    rintro e w0 ⟨rfl, hB0⟩
    go_wp2
    go_ret
    exact ⟨rfl, bw_trans (bw_alloc (Below.refl _ _) _) hB0⟩
  obtain ⟨hn_aX, hq_aX⟩ := hsz hz
  clear hsz
  have hS : ∀ (A_aX : Option Addr) (C_aX : Nat) (B_aX : Option Addr) (D_aX : Nat) (A_aPlaces : Option Addr) (C_aPlaces : Nat) (W : World), SlI W A_aX l_aX xs_aX → SlBr W B_aX m_aX bs_aX → SlI W A_aPlaces l_aPlaces xs_aPlaces → Calls Try.prog 30 #[.agg #[.slice A_aX l_aX C_aX, .slice B_aX m_aX D_aX], .slice A_aPlaces l_aPlaces C_aPlaces, .int .i64 aMove] W (GivesIC (mgL xs_aX l_aX bs_aX m_aX xs_aPlaces aMove) (mgC xs_aX l_aX bs_aX m_aX xs_aPlaces aMove) W) := fun A_aX C_aX B_aX D_aX A_aPlaces C_aPlaces W K_aX KB_aX K_aPlaces => sMoveGlass_any A_aX l_aX C_aX xs_aX B_aX m_aX D_aX bs_aX A_aPlaces l_aPlaces C_aPlaces xs_aPlaces aMove W K_aX KB_aX K_aPlaces hn_aX hq_aX hn_aPlaces
  have hI : ∀ (A_aX : Option Addr) (C_aX : Nat) (B_aX : Option Addr) (D_aX : Nat) (A_aPlaces : Option Addr) (C_aPlaces : Nat) (W : World), SlI W A_aX l_aX xs_aX → SlBr W B_aX m_aX bs_aX → SlI W A_aPlaces l_aPlaces xs_aPlaces → Calls Try.prog 31 #[.agg #[.slice A_aX l_aX C_aX, .slice B_aX m_aX D_aX], .slice A_aPlaces l_aPlaces C_aPlaces, .int .i64 aMove] W (GivesIC (mgL xs_aX l_aX bs_aX m_aX xs_aPlaces aMove) (mgC xs_aX l_aX bs_aX m_aX xs_aPlaces aMove) W) := fun A_aX C_aX B_aX D_aX A_aPlaces C_aPlaces W K_aX KB_aX K_aPlaces => iMoveGlass_any A_aX l_aX C_aX xs_aX B_aX m_aX D_aX bs_aX A_aPlaces l_aPlaces C_aPlaces xs_aPlaces aMove W K_aX KB_aX K_aPlaces hn_aX hq_aX hn_aPlaces
  have hy : (mgL xs_aX l_aX bs_aX m_aX xs_aPlaces aMove).length ≤ 1048576 := mg_len (by rw [H_aPlaces.length]; exact hn_aPlaces)
  generalize mgL xs_aX l_aX bs_aX m_aX xs_aPlaces aMove = ys at *
  generalize mgC xs_aX l_aX bs_aX m_aX xs_aPlaces aMove = K0 at *
  have HS := Lib.hid hS
  have HI := Lib.hid hI
  clear hS hI
  have HT := Lib.hid (fun W (hW : Below w.heap.size w W) => toSlide_any a_aX l_aX c_aX xs_aX b_aX m_aX d_aX bs_aX W (H_aX.below hW) (HB_aX.below hW) hn_aX hq_aX)
  clear H_aX HB_aX
  go_enter Try.func7, Try.ntmps7
  go_wp2_with fail
  refine (HSZ.out _).mono ?_
  rintro e w1 ⟨rfl, hb⟩
  clear HSZ
  have hX0 : w1.cell? ⟨w.heap.size, 0, none⟩ = some (.slice a_aX l_aX c_aX) := cell_of hb (by go_simp)
  have hX1 : w1.cell? ⟨w.heap.size, 1, none⟩ = some (.slice b_aX m_aX d_aX) := cell_of hb (by go_simp)
  have hB := bw_trans (bw_alloc (Below.refl _ _) _) hb
  have ZB : w.heap.size < w1.heap.size := World.block_lt_of_cell? w1 _ hX0
  clear hb
  go_wp2_with fail
  refine (HT.out _ hB).mono ?_
  rintro e w2 ⟨gs1, gs2, rfl, Ns1, Ns2, Ns3, Os, Xs, Fs, hb⟩
  replace hX0 := cell_of hb hX0
  replace hX1 := cell_of hb hX1
  replace ZB := Nat.lt_of_lt_of_le ZB hb.size
  replace hB := bw_trans hB hb
  clear hb
  replace Fs := Lib.hid Fs
  have Ss : SlI w2 (some ⟨gs1, 0, none⟩) l_aX xs_aX := by (have h := Os.sl; rw [← h.1] at h; exact h.2)
  go_wp2_with fail
  refine (toInts_any a_aPlaces l_aPlaces c_aPlaces xs_aPlaces _ (H_aPlaces.below hB) hn_aPlaces).mono ?_
  rintro e w3 ⟨rfl, he⟩
  have hb : Below w2.heap.size w2 w3 := by rw [he]; exact bw_alloc (Below.refl _ _) _
  have Os_aPlaces : OwnI w3 w2.heap.size (.slice (some ⟨w2.heap.size, 0, none⟩) l_aPlaces l_aPlaces) xs_aPlaces := by rw [he]; exact OwnI.made H_aPlaces.length hn_aPlaces
  have Zs_aPlaces : w2.heap.size < w3.heap.size := by rw [he]; simp
  clear he
  replace Fs : Hid _ := fun j => (hb.frozen (p := ⟨gs2, j, none⟩) Ns3).trans (Fs.out j)
  replace Ss := Ss.below hb
  replace Os := Os.below hb
  replace Xs := Xs.below hb
  replace hX0 := cell_of hb hX0
  replace hX1 := cell_of hb hX1
  replace ZB := Nat.lt_of_lt_of_le ZB hb.size
  replace Ns3 := Nat.lt_of_lt_of_le Ns3 hb.size
  replace hB := bw_trans hB hb
  clear hb
  go_wp2_with fail
  refine (HS.out (some ⟨gs1, 0, none⟩) l_aX (some ⟨gs2, 0, none⟩) m_aX (some ⟨w2.heap.size, 0, none⟩) l_aPlaces _ Ss Xs (by have h := Os_aPlaces.sl; rw [← h.1] at h; exact h.2)).mono ?_
  rintro e w4 ⟨Vw, rfl, Gw, hb⟩
  replace Fs : Hid _ := fun j => (hb.frozen (p := ⟨gs2, j, none⟩) Ns3).trans (Fs.out j)
  replace Ss := Ss.below hb
  replace Os := Os.below hb
  replace Xs := Xs.below hb
  replace Os_aPlaces := Os_aPlaces.below hb
  replace hX0 := cell_of hb hX0
  replace hX1 := cell_of hb hX1
  replace ZB := Nat.lt_of_lt_of_le ZB hb.size
  replace Ns3 := Nat.lt_of_lt_of_le Ns3 hb.size
  replace Zs_aPlaces := Nat.lt_of_lt_of_le Zs_aPlaces hb.size
  replace hB := bw_trans hB hb
  obtain ⟨Aw, cw, rfl⟩ := Gw.form
  clear hb
  clear Ss Os Xs Fs Ns3
  clear Os_aPlaces Zs_aPlaces
  have hW := Below.refl w4.heap.size w4
  have LZB : w.heap.size < w4.heap.size := ZB
  have hBs : w.heap.size ≤ w4.heap.size := hB.size
  have GW := Gw.sl.2
  clear Gw
  go_wp2_with fail
  refine (HT.out _ hB).mono ?_
  rintro e w5 ⟨gx1, gx2, rfl, Nx1, Nx2, Nx3, Ox, Xx, Fx, hb⟩
  replace hX0 := cell_of hb hX0
  replace hX1 := cell_of hb hX1
  replace ZB := Nat.lt_of_lt_of_le ZB hb.size
  replace hB := bw_trans hB hb
  replace hW := bw_trans hW hb
  clear hb
  replace Fx := Lib.hid Fx
  have Sx : SlI w5 (some ⟨gx1, 0, none⟩) l_aX xs_aX := by (have h := Ox.sl; rw [← h.1] at h; exact h.2)
  go_wp2_with fail
  have hb : Below w5.heap.size w5 (w5.alloc (.cells #[.slice (some ⟨gx1, 0, none⟩) l_aX l_aX, .slice (some ⟨gx2, 0, none⟩) m_aX m_aX] 33)) := bw_alloc (Below.refl _ _) _
  have hY0 : (w5.alloc (.cells #[.slice (some ⟨gx1, 0, none⟩) l_aX l_aX, .slice (some ⟨gx2, 0, none⟩) m_aX m_aX] 33)).cell? ⟨w5.heap.size, 0, none⟩ = some (.slice (some ⟨gx1, 0, none⟩) l_aX l_aX) := by go_simp
  have hY1 : (w5.alloc (.cells #[.slice (some ⟨gx1, 0, none⟩) l_aX l_aX, .slice (some ⟨gx2, 0, none⟩) m_aX m_aX] 33)).cell? ⟨w5.heap.size, 1, none⟩ = some (.slice (some ⟨gx2, 0, none⟩) m_aX m_aX) := by go_simp
  generalize (w5.alloc (.cells #[.slice (some ⟨gx1, 0, none⟩) l_aX l_aX, .slice (some ⟨gx2, 0, none⟩) m_aX m_aX] 33)) = w6 at hb hY0 hY1 ⊢
  replace Fx : Hid _ := fun j => (hb.frozen (p := ⟨gx2, j, none⟩) Nx3).trans (Fx.out j)
  replace Sx := Sx.below hb
  replace Ox := Ox.below hb
  replace Xx := Xx.below hb
  replace hX0 := cell_of hb hX0
  replace hX1 := cell_of hb hX1
  replace ZB := Nat.lt_of_lt_of_le ZB hb.size
  replace Nx3 := Nat.lt_of_lt_of_le Nx3 hb.size
  replace hB := bw_trans hB hb
  replace hW := bw_trans hW hb
  clear hb
  have LX : w4.heap.size ≤ gx1 := Nx1
  go_wp2_with fail
  refine (toInts_any a_aPlaces l_aPlaces c_aPlaces xs_aPlaces _ (H_aPlaces.below hB) hn_aPlaces).mono ?_
  rintro e w7 ⟨rfl, he⟩
  have hb : Below w6.heap.size w6 w7 := by rw [he]; exact bw_alloc (Below.refl _ _) _
  have LGX_aPlaces := Lib.hid (show gx2 < w6.heap.size from Nx3)
  have Ox_aPlaces : OwnI w7 w6.heap.size (.slice (some ⟨w6.heap.size, 0, none⟩) l_aPlaces l_aPlaces) xs_aPlaces := by rw [he]; exact OwnI.made H_aPlaces.length hn_aPlaces
  have Zx_aPlaces : w6.heap.size < w7.heap.size := by rw [he]; simp
  clear he
  replace Fx : Hid _ := fun j => (hb.frozen (p := ⟨gx2, j, none⟩) Nx3).trans (Fx.out j)
  replace Sx := Sx.below hb
  replace Ox := Ox.below hb
  replace Xx := Xx.below hb
  replace hX0 := cell_of hb hX0
  replace hX1 := cell_of hb hX1
  replace hY0 := cell_of hb hY0
  replace hY1 := cell_of hb hY1
  replace ZB := Nat.lt_of_lt_of_le ZB hb.size
  replace Nx3 := Nat.lt_of_lt_of_le Nx3 hb.size
  replace hB := bw_trans hB hb
  replace hW := bw_trans hW hb
  clear hb
  have BGX : gx2 < w7.heap.size := Nx3
  have BGhW := Lib.hid (show w4.heap.size ≤ w7.heap.size from hW.size)
  have BGhB := Lib.hid (show w.heap.size ≤ w7.heap.size from hB.size)
  have LE_aPlaces := Lib.hid (show w6.heap.size < w7.heap.size from Zx_aPlaces)
  have LG_aPlaces := Lib.hid (show gx2 < w6.heap.size from LGX_aPlaces.out)
  go_wp2_with fail
  refine (HI.out (some ⟨gx1, 0, none⟩) l_aX (some ⟨gx2, 0, none⟩) m_aX (some ⟨w6.heap.size, 0, none⟩) l_aPlaces _ Sx Xx (by have h := Ox_aPlaces.sl; rw [← h.1] at h; exact h.2)).mono ?_
  rintro e w8 ⟨Vg, rfl, Gg, hb⟩
  replace Fx : Hid _ := fun j => (hb.frozen (p := ⟨gx2, j, none⟩) Nx3).trans (Fx.out j)
  replace Sx := Sx.below hb
  replace Ox := Ox.below hb
  replace Xx := Xx.below hb
  replace Ox_aPlaces := Ox_aPlaces.below hb
  replace hX0 := cell_of hb hX0
  replace hX1 := cell_of hb hX1
  replace hY0 := cell_of hb hY0
  replace hY1 := cell_of hb hY1
  replace ZB := Nat.lt_of_lt_of_le ZB hb.size
  replace Nx3 := Nat.lt_of_lt_of_le Nx3 hb.size
  replace Zx_aPlaces := Nat.lt_of_lt_of_le Zx_aPlaces hb.size
  replace hB := bw_trans hB hb
  replace hW := bw_trans hW hb
  obtain ⟨Ag, cg, rfl⟩ := Gg.form
  clear hb
  go_wp2_with fail
  refine (eqInts_any Ag Aw ys.length cg cw _ _ Gg.sl.2 (GW.below hW) hy).mono ?_
  rintro e w9 ⟨rfl, hb⟩
  replace Fx : Hid _ := fun j => (hb.frozen (p := ⟨gx2, j, none⟩) Nx3).trans (Fx.out j)
  replace Sx := Sx.below hb
  replace Ox := Ox.below hb
  replace Xx := Xx.below hb
  replace Ox_aPlaces := Ox_aPlaces.below hb
  replace Gg := Gg.below hb
  replace hX0 := cell_of hb hX0
  replace hX1 := cell_of hb hX1
  replace hY0 := cell_of hb hY0
  replace hY1 := cell_of hb hY1
  replace ZB := Nat.lt_of_lt_of_le ZB hb.size
  replace Nx3 := Nat.lt_of_lt_of_le Nx3 hb.size
  replace Zx_aPlaces := Nat.lt_of_lt_of_le Zx_aPlaces hb.size
  replace hB := bw_trans hB hb
  replace hW := bw_trans hW hb
  clear hb
  go_wp2_with fail
  have hT2 := Lib.hid (fun W (hW2 : Below w9.heap.size w9 W) => HT.out W (bw_trans hB hW2))
  have hE2 := Lib.hid (fun (A' : Option Addr) (B' : Option Addr) W (hW2 : Below w9.heap.size w9 W) (h1 : SlI W A' l_aX xs_aX) (h2 : SlBr W B' m_aX bs_aX) => eqSlide_any (some ⟨gx1, 0, none⟩) l_aX l_aX xs_aX (some ⟨gx2, 0, none⟩) m_aX m_aX bs_aX A' l_aX B' m_aX W (Sx.below hW2) (Xx.below hW2) h1 h2 hn_aX hq_aX)
  go_region_held3 (fun w' => w'.cell? ⟨w.heap.size, 0, none⟩ = some (.slice a_aX l_aX c_aX) ∧ w'.cell? ⟨w.heap.size, 1, none⟩ = some (.slice b_aX m_aX d_aX) ∧ w'.cell? ⟨w5.heap.size, 0, none⟩ = some (.slice (some ⟨gx1, 0, none⟩) l_aX l_aX) ∧ w'.cell? ⟨w5.heap.size, 1, none⟩ = some (.slice (some ⟨gx2, 0, none⟩) m_aX m_aX))
    (((try dsimp only); (repeat' apply And.intro) <;> first | assumption | go_simp))
    (first | (go_at_call 14; refine (hT2.out _ (Below.refl _ _).drew).mono ?_; rintro e wa ⟨gq1, gq2, rfl, _, _, _, Oq, Xq, _, hba0⟩; (have hba : Below w9.heap.size w9 wa := bw_trans (Below.refl _ _).drew hba0); (have Sq : SlI wa (some ⟨gq1, 0, none⟩) l_aX xs_aX := by (have h := Oq.sl; rw [← h.1] at h; exact h.2)); (have hv0 := cell_of hba hX0); (have hv1 := cell_of hba hX1); (have hv2 := cell_of hba hY0); (have hv3 := cell_of hba hY1)) | (go_at_call 18; refine (hE2.out _ _ _ hba Sq Xq).mono ?_; rintro e w10 ⟨rfl, hbb⟩; (have hb : Below w9.heap.size w9 w10 := bw_trans hba hbb); (have hu0 := cell_of hbb hv0); (have hu1 := cell_of hbb hv1); (have hu2 := cell_of hbb hv2); (have hu3 := cell_of hbb hv3)))
  clear hT2 hE2 Oq Xq Sq hv0 hv1 hv2 hv3 hu0 hu1 hu2 hu3 hba hba0 hbb
  replace Fx : Hid _ := fun j => (hb.frozen (p := ⟨gx2, j, none⟩) Nx3).trans (Fx.out j)
  replace Sx := Sx.below hb
  replace Ox := Ox.below hb
  replace Xx := Xx.below hb
  replace Ox_aPlaces := Ox_aPlaces.below hb
  replace Gg := Gg.below hb
  replace hX0 := cell_of hb hX0
  replace hX1 := cell_of hb hX1
  replace hY0 := cell_of hb hY0
  replace hY1 := cell_of hb hY1
  replace ZB := Nat.lt_of_lt_of_le ZB hb.size
  replace Nx3 := Nat.lt_of_lt_of_le Nx3 hb.size
  replace Zx_aPlaces := Nat.lt_of_lt_of_le Zx_aPlaces hb.size
  replace hB := bw_trans hB hb
  replace hW := bw_trans hW hb
  clear hb
  go_wp2_with fail
  refine (toInts_any a_aPlaces l_aPlaces c_aPlaces xs_aPlaces _ (H_aPlaces.below hB) hn_aPlaces).mono ?_
  rintro e w11 ⟨rfl, he⟩
  have hb : Below w10.heap.size w10 w11 := by rw [he]; exact bw_alloc (Below.refl _ _) _
  have Oq_aPlaces : OwnI w11 w10.heap.size (.slice (some ⟨w10.heap.size, 0, none⟩) l_aPlaces l_aPlaces) xs_aPlaces := by rw [he]; exact OwnI.made H_aPlaces.length hn_aPlaces
  have Zq_aPlaces : w10.heap.size < w11.heap.size := by rw [he]; simp
  clear he
  replace Fx : Hid _ := fun j => (hb.frozen (p := ⟨gx2, j, none⟩) Nx3).trans (Fx.out j)
  replace Sx := Sx.below hb
  replace Ox := Ox.below hb
  replace Xx := Xx.below hb
  replace Ox_aPlaces := Ox_aPlaces.below hb
  replace Gg := Gg.below hb
  replace hX0 := cell_of hb hX0
  replace hX1 := cell_of hb hX1
  replace hY0 := cell_of hb hY0
  replace hY1 := cell_of hb hY1
  replace ZB := Nat.lt_of_lt_of_le ZB hb.size
  replace Nx3 := Nat.lt_of_lt_of_le Nx3 hb.size
  replace Zx_aPlaces := Nat.lt_of_lt_of_le Zx_aPlaces hb.size
  replace hB := bw_trans hB hb
  replace hW := bw_trans hW hb
  clear hb
  go_wp2_with fail
  refine (eqInts_any _ _ l_aPlaces l_aPlaces l_aPlaces _ _ (by have h := Ox_aPlaces.sl; rw [← h.1] at h; exact h.2) (by have h := Oq_aPlaces.sl; rw [← h.1] at h; exact h.2) hn_aPlaces).mono ?_
  rintro e w12 ⟨rfl, hb⟩
  replace Fx : Hid _ := fun j => (hb.frozen (p := ⟨gx2, j, none⟩) Nx3).trans (Fx.out j)
  replace Sx := Sx.below hb
  replace Ox := Ox.below hb
  replace Xx := Xx.below hb
  replace Ox_aPlaces := Ox_aPlaces.below hb
  replace Gg := Gg.below hb
  replace Oq_aPlaces := Oq_aPlaces.below hb
  replace hX0 := cell_of hb hX0
  replace hX1 := cell_of hb hX1
  replace hY0 := cell_of hb hY0
  replace hY1 := cell_of hb hY1
  replace ZB := Nat.lt_of_lt_of_le ZB hb.size
  replace Nx3 := Nat.lt_of_lt_of_le Nx3 hb.size
  replace Zx_aPlaces := Nat.lt_of_lt_of_le Zx_aPlaces hb.size
  replace Zq_aPlaces := Nat.lt_of_lt_of_le Zq_aPlaces hb.size
  replace hB := bw_trans hB hb
  replace hW := bw_trans hW hb
  clear hb
  clear Oq_aPlaces Zq_aPlaces
  go_wp2_with fail
  refine (markSlide_any gx1 gx2 l_aX m_aX xs_aX bs_aX 1 _ Ox Xx Fx.out Nx2 Nx3 hn_aX hq_aX ⟨by omega, by omega⟩).mono ?_
  rintro e w13 ⟨rfl, hg, hr⟩
  replace hB := bw_from hB (hg.mono (Nat.le_trans hBs LX))
  replace hW := bw_from hW (hg.mono LX)
  have hlX : w.heap.size < gx1 := Nat.lt_of_lt_of_le LZB LX
  replace hX0 := (hg.cell (p := ⟨w.heap.size, 0, none⟩) hlX).trans hX0
  replace hX1 := (hg.cell (p := ⟨w.heap.size, 1, none⟩) hlX).trans hX1
  clear hY0 hY1 hlX
  replace ZB := Nat.lt_of_lt_of_le ZB hg.size
  replace Zx_aPlaces := Nat.lt_of_lt_of_le Zx_aPlaces hg.size
  replace Ox_aPlaces := hr _ _ _ LG_aPlaces.out Ox_aPlaces
  replace Gg := hr _ _ _ BGX Gg
  clear hg hr Sx Ox Xx Fx Nx3
  go_wp2_with fail
  refine (markI_any _ l_aPlaces _ w6.heap.size (1 + (l_aX : Int) + 4 * (m_aX : Int)) xs_aPlaces _ Ox_aPlaces hn_aPlaces ⟨by omega, by omega⟩).mono ?_
  rintro e w14 ⟨rfl, _, hg, _⟩
  replace hg : w13.grownBy w14 (some w6.heap.size) := hg
  have hlg : w6.heap.size < w7.heap.size := LE_aPlaces.out
  have hlx : gx2 < w6.heap.size := LG_aPlaces.out
  have hww : w4.heap.size < gx2 := Nat.lt_of_le_of_lt LX Nx2
  replace hB := bw_from hB (below_grown hg (fun j hj => by injection hj with hj; omega) hB.size)
  replace hW := bw_from hW (below_grown hg (fun j hj => by injection hj with hj; omega) hW.size)
  replace hX0 := (hg.cell_far ⟨w.heap.size, 0, none⟩ ZB (fun e => absurd (Option.some.inj e) (by dsimp only; omega))).trans hX0
  replace hX1 := (hg.cell_far ⟨w.heap.size, 1, none⟩ ZB (fun e => absurd (Option.some.inj e) (by dsimp only; omega))).trans hX1
  replace ZB := Nat.lt_of_lt_of_le ZB hg.size
  replace Gg := Gg.keptRow hg hlg
  clear hg hlg hlx hww Ox_aPlaces Zx_aPlaces
  have hkn : ¬ (1 + (l_aX : Int) + 4 * (m_aX : Int) + (l_aPlaces : Int) < 0) := by omega
  go_wp2_with fail
  refine (eqInts_any Ag Aw ys.length cg cw _ _ Gg.sl.2 (GW.below hW) hy).mono ?_
  rintro e w15 ⟨rfl, hb⟩
  replace Gg := Gg.below hb
  replace hX0 := cell_of hb hX0
  replace hX1 := cell_of hb hX1
  replace ZB := Nat.lt_of_lt_of_le ZB hb.size
  replace hB := bw_trans hB hb
  replace hW := bw_trans hW hb
  clear hb
  clear hkn
  go_wp2_with fail
  refine (markI_any Ag ys.length cg w7.heap.size 1 ys _ Gg hy ⟨by omega, by omega⟩).mono ?_
  rintro e w16 ⟨rfl, GM, _, hb⟩
  replace hX0 := (hb.cell (p := ⟨w.heap.size, 0, none⟩) (Nat.lt_of_lt_of_le LZB BGhW.out)).trans hX0
  replace hX1 := (hb.cell (p := ⟨w.heap.size, 1, none⟩) (Nat.lt_of_lt_of_le LZB BGhW.out)).trans hX1
  replace hB := bw_from hB (hb.mono BGhB.out)
  replace hW := bw_from hW (hb.mono BGhW.out)
  replace ZB := Nat.lt_of_lt_of_le ZB hb.size
  clear hb Gg
  have hml := mks_len 1 ys.length
  have HM := Lib.hid hml
  clear hml
  have hqn : ¬ (1 + (ys.length : Int) < 0) := by omega
  go_wp2_with fail
  refine (heldI_any Ag ys.length cg 1 _ (by have h := GM.sl.2; rw [HM.out] at h; exact h) hy ⟨by omega, by omega⟩).mono ?_
  rintro e w17 ⟨rfl, hb⟩
  replace GM := GM.below hb
  replace hX0 := cell_of hb hX0
  replace hX1 := cell_of hb hX1
  replace ZB := Nat.lt_of_lt_of_le ZB hb.size
  replace hB := bw_trans hB hb
  replace hW := bw_trans hW hb
  clear hb
  go_wp2_with fail
  refine (HT.out _ hB).mono ?_
  rintro e w18 ⟨gh1, gh2, rfl, Nh1, Nh2, Nh3, Oh, Xh, Fh, hb⟩
  replace GM := GM.below hb
  replace hX0 := cell_of hb hX0
  replace hX1 := cell_of hb hX1
  replace ZB := Nat.lt_of_lt_of_le ZB hb.size
  replace hB := bw_trans hB hb
  replace hW := bw_trans hW hb
  clear hb
  replace Fh := Lib.hid Fh
  have Sh : SlI w18 (some ⟨gh1, 0, none⟩) l_aX xs_aX := by (have h := Oh.sl; rw [← h.1] at h; exact h.2)
  go_wp2_with fail
  refine (toInts_any a_aPlaces l_aPlaces c_aPlaces xs_aPlaces _ (H_aPlaces.below hB) hn_aPlaces).mono ?_
  rintro e w19 ⟨rfl, he⟩
  have hb : Below w18.heap.size w18 w19 := by rw [he]; exact bw_alloc (Below.refl _ _) _
  have Oh_aPlaces : OwnI w19 w18.heap.size (.slice (some ⟨w18.heap.size, 0, none⟩) l_aPlaces l_aPlaces) xs_aPlaces := by rw [he]; exact OwnI.made H_aPlaces.length hn_aPlaces
  have Zh_aPlaces : w18.heap.size < w19.heap.size := by rw [he]; simp
  clear he
  replace Fh : Hid _ := fun j => (hb.frozen (p := ⟨gh2, j, none⟩) Nh3).trans (Fh.out j)
  replace GM := GM.below hb
  replace Sh := Sh.below hb
  replace Oh := Oh.below hb
  replace Xh := Xh.below hb
  replace hX0 := cell_of hb hX0
  replace hX1 := cell_of hb hX1
  replace ZB := Nat.lt_of_lt_of_le ZB hb.size
  replace Nh3 := Nat.lt_of_lt_of_le Nh3 hb.size
  replace hB := bw_trans hB hb
  replace hW := bw_trans hW hb
  clear hb
  go_wp2_with fail
  refine (HI.out (some ⟨gh1, 0, none⟩) l_aX (some ⟨gh2, 0, none⟩) m_aX (some ⟨w18.heap.size, 0, none⟩) l_aPlaces _ Sh Xh (by have h := Oh_aPlaces.sl; rw [← h.1] at h; exact h.2)).mono ?_
  rintro e w20 ⟨Vh, rfl, Gh, hb⟩
  replace Fh : Hid _ := fun j => (hb.frozen (p := ⟨gh2, j, none⟩) Nh3).trans (Fh.out j)
  replace GM := GM.below hb
  replace Sh := Sh.below hb
  replace Oh := Oh.below hb
  replace Xh := Xh.below hb
  replace Oh_aPlaces := Oh_aPlaces.below hb
  replace hX0 := cell_of hb hX0
  replace hX1 := cell_of hb hX1
  replace ZB := Nat.lt_of_lt_of_le ZB hb.size
  replace Nh3 := Nat.lt_of_lt_of_le Nh3 hb.size
  replace Zh_aPlaces := Nat.lt_of_lt_of_le Zh_aPlaces hb.size
  replace hB := bw_trans hB hb
  replace hW := bw_trans hW hb
  obtain ⟨Ah, ch, rfl⟩ := Gh.form
  clear hb
  clear Sh Oh Xh Fh Nh3
  clear Oh_aPlaces Zh_aPlaces
  go_wp2_with fail
  refine (eqInts_any Ah Aw ys.length ch cw _ _ Gh.sl.2 (GW.below hW) hy).mono ?_
  rintro e w21 ⟨rfl, hb⟩
  replace GM := GM.below hb
  replace Gh := Gh.below hb
  replace hX0 := cell_of hb hX0
  replace hX1 := cell_of hb hX1
  replace ZB := Nat.lt_of_lt_of_le ZB hb.size
  replace hB := bw_trans hB hb
  replace hW := bw_trans hW hb
  clear hb
  clear Gh
  go_wp2_with fail
  refine (heldI_any Ag ys.length cg 1 _ (by have h := GM.sl.2; rw [HM.out] at h; exact h) hy ⟨by omega, by omega⟩).mono ?_
  rintro e w22 ⟨rfl, hb⟩
  replace GM := GM.below hb
  replace hX0 := cell_of hb hX0
  replace hX1 := cell_of hb hX1
  replace ZB := Nat.lt_of_lt_of_le ZB hb.size
  replace hB := bw_trans hB hb
  replace hW := bw_trans hW hb
  clear hb
  clear GW GM HM
  go_wp2
  go_ret
  exact ⟨rfl, hB⟩
end Go.Proofs.Yticohpimkicphaa
