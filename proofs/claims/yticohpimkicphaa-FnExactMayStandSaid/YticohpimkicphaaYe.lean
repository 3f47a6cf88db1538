/-
  ValidSlide and MayStand: the laws.
-/
import Derived.Test.YticohpimkicphaaYd
import Derived.Deep.RegionHeld3
namespace Go.Proofs.Yticohpimkicphaa
open Go.RowKit

theorem sValidSlide_any (A : Option Addr) (n c : Nat) (ss : List Int) (B : Option Addr) (m d : Nat) (bs : List BrE) (w : World) (HS : SlI w A n ss) (HB : SlBr w B m bs) (hn : n ≤ 1048576) (hm : m ≤ 1048576) :
    Calls Try.prog 26 #[.agg #[.slice A n c, .slice B m d]] w fun e w' => e = .returned (.bool (vsB ss n bs m)) ∧ Below w.heap.size w w' := by
  have hb0 : Below w.heap.size w (w.alloc (.cells #[.slice A n c, .slice B m d] 33)) := bw_alloc (Below.refl _ _) _
  have HK := Lib.hid (l13Ok_any w.heap.size A n c ss B m d bs (w.alloc (.cells #[.slice A n c, .slice B m d] 33)) ⟨by go_simp, by go_simp, HS.below hb0, HB.below hb0, by simp⟩ hn hm)
  clear HS HB
  go_enter Try.func26, Try.ntmps26
  go_wp2_with fail
  refine HK.out.mono ?_
  rintro e w1 ⟨rfl, hb1⟩
  go_wp2
  go_ret
  exact ⟨rfl, bw_trans hb0 hb1⟩

/-- The code of MayStand, and its answer. -/
def mtC (ss : List Int) (n : Nat) (bs : List BrE) (m : Nat) (ps : List Int) : Int := if vsB ss n bs m then (if plB ss ps n then 0 else 2) else 1
def mtB (ss : List Int) (n : Nat) (bs : List BrE) (m : Nat) (ps : List Int) : Bool := vsB ss n bs m && (plB ss ps n && myB bs ps)
set_option maxHeartbeats 1600000 in
theorem sMayStand_any (A : Option Addr) (n c : Nat) (ss : List Int) (B : Option Addr) (m d : Nat) (bs : List BrE) (P : Option Addr) (k e : Nat) (ps : List Int) (w : World) (HS : SlI w A n ss) (HB : SlBr w B m bs) (HP : SlI w P k ps) (hn : n ≤ 1048576) (hm : m ≤ 1048576) (hk : k ≤ 1048576) :
    Calls Try.prog 28 #[.agg #[.slice A n c, .slice B m d], .slice P k e] w fun e w' => e = .returned (.tuple #[.bool (mtB ss n bs m ps), .int .i64 (mtC ss n bs m ps)]) ∧ Below w.heap.size w w' := by
  have hb0 : Below w.heap.size w (w.alloc (.cells #[.slice A n c, .slice B m d] 33)) := bw_alloc (Below.refl _ _) _
  have HD := Lib.hid (show SdP (w.alloc (.cells #[.slice A n c, .slice B m d] 33)) w.heap.size A n c ss B m d bs from ⟨by go_simp, by go_simp, HS.below hb0, HB.below hb0, by simp⟩)
  have HK := Lib.hid (l13Ok_any w.heap.size A n c ss B m d bs _ HD.out hn hm)
  have HP0 := Lib.hid (HP.below hb0)
  have HLS := HS.length
  have HLB := HB.1
  have HLP := HP.length
  clear HS HB HP
  unfold mtB mtC
  cases hv : vsB ss n bs m
  · rw [hv] at HK
    clear hv HLS HLB HLP HD HP0
    go_enter Try.func28, Try.ntmps28
    go_wp2_with fail
    refine HK.out.mono ?_
    rintro e w1 ⟨rfl, hb1⟩
    go_wp2
    go_ret2
    exact ⟨rfl, bw_trans hb0 hb1⟩
  obtain ⟨n1, n4, hst, m8, hbd⟩ := vs_at HLS HLB hv
  rw [hv] at HK
  have HPL := Lib.hid (fun W hW => l13Places_any w.heap.size A n c ss B m d bs P k e ps W (HD.out.below hW) (HP0.out.below hW) hn hk hst)
  cases hp : plB ss ps n
  · rw [hp] at HPL
    clear hv HLS HLB HLP HD HP0 hst hbd hp
    go_enter Try.func28, Try.ntmps28
    go_wp2_with fail
    refine HK.out.mono ?_
    rintro e w1 ⟨rfl, hb1⟩
    go_wp2_with fail
    refine (HPL.out _ hb1).mono ?_
    rintro e w2 ⟨rfl, hb2⟩
    go_wp2
    go_ret2
    exact ⟨rfl, bw_trans (bw_trans hb0 hb1) hb2⟩
  rw [hp] at HPL
  have hkn : k = n := by rw [← HLP]; exact (pl_at hp).1
  subst hkn
  have HMY := Lib.hid (fun W hW => l13May_any w.heap.size A k c ss B m d bs P k e ps W (HD.out.below hW) (HP0.out.below hW) hm hk hbd)
  clear hv HLS HLB HLP HD HP0 hst hbd hp
  generalize myB bs ps = R at *
  go_enter Try.func28, Try.ntmps28
  go_wp2_with fail
  refine HK.out.mono ?_
  rintro e w1 ⟨rfl, hb1⟩
  go_wp2_with fail
  refine (HPL.out _ hb1).mono ?_
  rintro e w2 ⟨rfl, hb2⟩
  go_wp2_with fail
  refine (HMY.out _ (bw_trans hb1 hb2)).mono ?_
  rintro e w3 ⟨rfl, hb3⟩
  go_wp2
  go_ret2
  exact ⟨rfl, bw_trans (bw_trans (bw_trans hb0 hb1) hb2) hb3⟩

set_option maxHeartbeats 1600000 in
theorem iMayStand_any (A : Option Addr) (n c : Nat) (ss : List Int) (B : Option Addr) (m d : Nat) (bs : List BrE) (P : Option Addr) (k e : Nat) (ps : List Int) (w : World) (HS : SlI w A n ss) (HB : SlBr w B m bs) (HP : SlI w P k ps) (hn : n ≤ 1048576) (hm : m ≤ 1048576) (hk : k ≤ 1048576) :
    Calls Try.prog 29 #[.agg #[.slice A n c, .slice B m d], .slice P k e] w fun e w' => e = .returned (.tuple #[.bool (mtB ss n bs m ps), .int .i64 (mtC ss n bs m ps)]) ∧ Below w.heap.size w w' := by
  have hb0 : Below w.heap.size w (w.alloc (.cells #[.slice A n c, .slice B m d] 33)) := bw_alloc (Below.refl _ _) _
  have HK := Lib.hid (validSlide_any A n c ss B m d bs (w.alloc (.cells #[.slice A n c, .slice B m d] 33)) (HS.below hb0) (HB.below hb0) hn hm)
  have HLS := HS.length
  have HLB := HB.1
  have HLP := HP.length
  unfold mtB mtC
  cases hv : vsB ss n bs m
  · rw [hv] at HK
    clear hv HLS HLB HLP HS HB HP
    go_enter Try.func29, Try.ntmps29
    go_wp2_with fail
    refine HK.out.mono ?_
    rintro e w1 ⟨rfl, hb1⟩
    go_wp2
    go_ret2
    exact ⟨rfl, bw_trans hb0 hb1⟩
  obtain ⟨n1, n4, hst, m8, hbd⟩ := vs_at HLS HLB hv
  rw [hv] at HK
  have HPL := Lib.hid (fun W (hW : Below w.heap.size w W) => placesOk_any A n c ss (.slice B m d) P k e ps W (HS.below hW) (HP.below hW) hn hk hst)
  cases hp : plB ss ps n
  · rw [hp] at HPL
    clear hv HLS HLB HLP HS HB HP hst hbd hp
    go_enter Try.func29, Try.ntmps29
    go_wp2_with fail
    refine HK.out.mono ?_
    rintro e w1 ⟨rfl, hb1⟩
    have hc0 : w1.cell? ⟨w.heap.size, 0, none⟩ = some (.slice A n c) := cell_of hb1 (by go_simp)
    have hc1 : w1.cell? ⟨w.heap.size, 1, none⟩ = some (.slice B m d) := cell_of hb1 (by go_simp)
    go_wp2_with fail
    refine (HPL.out _ (bw_trans hb0 hb1)).mono ?_
    rintro e w2 ⟨rfl, hb2⟩
    go_wp2
    go_ret2
    exact ⟨rfl, bw_trans (bw_trans hb0 hb1) hb2⟩
  rw [hp] at HPL
  have hkn : k = n := by rw [← HLP]; exact (pl_at hp).1
  subst hkn
  have HMY := Lib.hid (fun W (hW : Below w.heap.size w W) => mayStand_any (.slice A k c) B m d bs P k e ps W (HB.below hW) (HP.below hW) hm hk hbd)
  clear hv HLS HLB HLP HS HB HP hst hbd hp
  generalize myB bs ps = R at *
  go_enter Try.func29, Try.ntmps29
  go_wp2_with fail
  refine HK.out.mono ?_
  rintro e w1 ⟨rfl, hb1⟩
  have hc0 : w1.cell? ⟨w.heap.size, 0, none⟩ = some (.slice A k c) := cell_of hb1 (by go_simp)
  have hc1 : w1.cell? ⟨w.heap.size, 1, none⟩ = some (.slice B m d) := cell_of hb1 (by go_simp)
  go_wp2_with fail
  refine (HPL.out _ (bw_trans hb0 hb1)).mono ?_
  rintro e w2 ⟨rfl, hb2⟩
  have hd0 := cell_of hb2 hc0
  have hd1 := cell_of hb2 hc1
  go_wp2_with fail
  refine (HMY.out _ (bw_trans (bw_trans hb0 hb1) hb2)).mono ?_
  rintro e w3 ⟨rfl, hb3⟩
  go_wp2
  go_ret2
  exact ⟨rfl, bw_trans (bw_trans (bw_trans hb0 hb1) hb2) hb3⟩

set_option maxRecDepth 100000 in
set_option maxHeartbeats 6400000 in
theorem law_ValidSlide (a_aX : Option Addr) (l_aX c_aX : Nat) (xs_aX : List Int) (b_aX : Option Addr) (m_aX d_aX : Nat) (bs_aX : List BrE) (w : World) (hl_aX : l_aX ≤ 9223372036854775807) (hm_aX : m_aX ≤ 9223372036854775807) (H_aX : SlI w a_aX l_aX xs_aX) (HB_aX : SlBr w b_aX m_aX bs_aX) :
    Calls Try.prog 5 #[.agg #[.slice a_aX l_aX c_aX, .slice b_aX m_aX d_aX]] w fun e w' => e = .returned (.bool true) ∧ Below w.heap.size w w' := by
  have HSZ := Lib.hid (fun W => szSlide_any a_aX l_aX c_aX b_aX m_aX d_aX 1048576 W hl_aX hm_aX ⟨by omega, by omega⟩)
  have hsz := @szD_ok 1048576 l_aX m_aX (by omega)
  generalize szD 1048576 l_aX m_aX = Z at *
  by_cases hz : Z < 0
  case pos =>
    clear H_aX HB_aX hsz
    go_enter Try.func5, Try.ntmps5
    go_wp2_with fail
    refine (HSZ.out _).mono ?_
    rintro e w0 ⟨rfl, hB0⟩
    go_wp2
    go_ret
    exact ⟨rfl, bw_trans (bw_alloc (Below.refl _ _) _) hB0⟩
  obtain ⟨hn_aX, hq_aX⟩ := hsz hz
  clear hsz
  have hS : ∀ (A_aX : Option Addr) (C_aX : Nat) (B_aX : Option Addr) (D_aX : Nat) (W : World), SlI W A_aX l_aX xs_aX → SlBr W B_aX m_aX bs_aX → Calls Try.prog 26 #[.agg #[.slice A_aX l_aX C_aX, .slice B_aX m_aX D_aX]] W (fun e w' => e = .returned (.bool (vsB xs_aX l_aX bs_aX m_aX)) ∧ Below W.heap.size W w') := fun A_aX C_aX B_aX D_aX W K_aX KB_aX => sValidSlide_any A_aX l_aX C_aX xs_aX B_aX m_aX D_aX bs_aX W K_aX KB_aX hn_aX hq_aX
  have hI : ∀ (A_aX : Option Addr) (C_aX : Nat) (B_aX : Option Addr) (D_aX : Nat) (W : World), SlI W A_aX l_aX xs_aX → SlBr W B_aX m_aX bs_aX → Calls Try.prog 27 #[.agg #[.slice A_aX l_aX C_aX, .slice B_aX m_aX D_aX]] W (fun e w' => e = .returned (.bool (vsB xs_aX l_aX bs_aX m_aX)) ∧ Below W.heap.size W w') := fun A_aX C_aX B_aX D_aX W K_aX KB_aX => validSlide_any A_aX l_aX C_aX xs_aX B_aX m_aX D_aX bs_aX W K_aX KB_aX hn_aX hq_aX
  generalize vsB xs_aX l_aX bs_aX m_aX = K0 at *
  have HS := Lib.hid hS
  have HI := Lib.hid hI
  clear hS hI
  have HT := Lib.hid (fun W (hW : Below w.heap.size w W) => toSlide_any a_aX l_aX c_aX xs_aX b_aX m_aX d_aX bs_aX W (H_aX.below hW) (HB_aX.below hW) hn_aX hq_aX)
  clear H_aX HB_aX
  go_enter Try.func5, Try.ntmps5
  go_wp2_with fail
  refine (HSZ.out _).mono ?_
  rintro e w1 ⟨rfl, hb⟩
  clear HSZ
  have hX0 : w1.cell? ⟨w.heap.size, 0, none⟩ = some (.slice a_aX l_aX c_aX) := cell_of hb (by go_simp)
  have hX1 : w1.cell? ⟨w.heap.size, 1, none⟩ = some (.slice b_aX m_aX d_aX) := cell_of hb (by go_simp)
  have hB := bw_trans (bw_alloc (Below.refl _ _) _) hb
  have ZB : w.heap.size < w1.heap.size := World.block_lt_of_cell? w1 _ hX0
  clear hb
  go_wp2_with fail
  refine (HT.out _ hB).mono ?_
  rintro e w2 ⟨gs1, gs2, rfl, Ns1, Ns2, Ns3, Os, Xs, Fs, hb⟩
  replace hX0 := cell_of hb hX0
  replace hX1 := cell_of hb hX1
  replace ZB := Nat.lt_of_lt_of_le ZB hb.size
  replace hB := bw_trans hB hb
  clear hb
  replace Fs := Lib.hid Fs
  have Ss : SlI w2 (some ⟨gs1, 0, none⟩) l_aX xs_aX := by (have h := Os.sl; rw [← h.1] at h; exact h.2)
  go_wp2_with fail
  refine (HS.out (some ⟨gs1, 0, none⟩) l_aX (some ⟨gs2, 0, none⟩) m_aX _ Ss Xs).mono ?_
  rintro e w3 ⟨rfl, hb⟩
  replace Fs : Hid _ := fun j => (hb.frozen (p := ⟨gs2, j, none⟩) Ns3).trans (Fs.out j)
  replace Ss := Ss.below hb
  replace Os := Os.below hb
  replace Xs := Xs.below hb
  replace hX0 := cell_of hb hX0
  replace hX1 := cell_of hb hX1
  replace ZB := Nat.lt_of_lt_of_le ZB hb.size
  replace Ns3 := Nat.lt_of_lt_of_le Ns3 hb.size
  replace hB := bw_trans hB hb
  clear hb
  clear Ss Os Xs Fs Ns3
  have hW := Below.refl w3.heap.size w3
  have LZB : w.heap.size < w3.heap.size := ZB
  have hBs : w.heap.size ≤ w3.heap.size := hB.size
  go_wp2_with fail
  refine (HT.out _ hB).mono ?_
  rintro e w4 ⟨gx1, gx2, rfl, Nx1, Nx2, Nx3, Ox, Xx, Fx, hb⟩
  replace hX0 := cell_of hb hX0
  replace hX1 := cell_of hb hX1
  replace ZB := Nat.lt_of_lt_of_le ZB hb.size
  replace hB := bw_trans hB hb
  replace hW := bw_trans hW hb
  clear hb
  replace Fx := Lib.hid Fx
  have Sx : SlI w4 (some ⟨gx1, 0, none⟩) l_aX xs_aX := by (have h := Ox.sl; rw [← h.1] at h; exact h.2)
  go_wp2_with fail
  have hb : Below w4.heap.size w4 (w4.alloc (.cells #[.slice (some ⟨gx1, 0, none⟩) l_aX l_aX, .slice (some ⟨gx2, 0, none⟩) m_aX m_aX] 33)) := bw_alloc (Below.refl _ _) _
  have hY0 : (w4.alloc (.cells #[.slice (some ⟨gx1, 0, none⟩) l_aX l_aX, .slice (some ⟨gx2, 0, none⟩) m_aX m_aX] 33)).cell? ⟨w4.heap.size, 0, none⟩ = some (.slice (some ⟨gx1, 0, none⟩) l_aX l_aX) := by go_simp
  have hY1 : (w4.alloc (.cells #[.slice (some ⟨gx1, 0, none⟩) l_aX l_aX, .slice (some ⟨gx2, 0, none⟩) m_aX m_aX] 33)).cell? ⟨w4.heap.size, 1, none⟩ = some (.slice (some ⟨gx2, 0, none⟩) m_aX m_aX) := by go_simp
  generalize (w4.alloc (.cells #[.slice (some ⟨gx1, 0, none⟩) l_aX l_aX, .slice (some ⟨gx2, 0, none⟩) m_aX m_aX] 33)) = w5 at hb hY0 hY1 ⊢
  replace Fx : Hid _ := fun j => (hb.frozen (p := ⟨gx2, j, none⟩) Nx3).trans (Fx.out j)
  replace Sx := Sx.below hb
  replace Ox := Ox.below hb
  replace Xx := Xx.below hb
  replace hX0 := cell_of hb hX0
  replace hX1 := cell_of hb hX1
  replace ZB := Nat.lt_of_lt_of_le ZB hb.size
  replace Nx3 := Nat.lt_of_lt_of_le Nx3 hb.size
  replace hB := bw_trans hB hb
  replace hW := bw_trans hW hb
  clear hb
  have LX : w3.heap.size ≤ gx1 := Nx1
  have BGX : gx2 < w5.heap.size := Nx3
  have BGhW := Lib.hid (show w3.heap.size ≤ w5.heap.size from hW.size)
  have BGhB := Lib.hid (show w.heap.size ≤ w5.heap.size from hB.size)
  go_wp2_with fail
  refine (HI.out (some ⟨gx1, 0, none⟩) l_aX (some ⟨gx2, 0, none⟩) m_aX _ Sx Xx).mono ?_
  rintro e w6 ⟨rfl, hb⟩
  replace Fx : Hid _ := fun j => (hb.frozen (p := ⟨gx2, j, none⟩) Nx3).trans (Fx.out j)
  replace Sx := Sx.below hb
  replace Ox := Ox.below hb
  replace Xx := Xx.below hb
  replace hX0 := cell_of hb hX0
  replace hX1 := cell_of hb hX1
  replace hY0 := cell_of hb hY0
  replace hY1 := cell_of hb hY1
  replace ZB := Nat.lt_of_lt_of_le ZB hb.size
  replace Nx3 := Nat.lt_of_lt_of_le Nx3 hb.size
  replace hB := bw_trans hB hb
  replace hW := bw_trans hW hb
  clear hb
  go_wp2_with fail
  have hT2 := Lib.hid (fun W (hW2 : Below w6.heap.size w6 W) => HT.out W (bw_trans hB hW2))
  have hE2 := Lib.hid (fun (A' : Option Addr) (B' : Option Addr) W (hW2 : Below w6.heap.size w6 W) (h1 : SlI W A' l_aX xs_aX) (h2 : SlBr W B' m_aX bs_aX) => eqSlide_any (some ⟨gx1, 0, none⟩) l_aX l_aX xs_aX (some ⟨gx2, 0, none⟩) m_aX m_aX bs_aX A' l_aX B' m_aX W (Sx.below hW2) (Xx.below hW2) h1 h2 hn_aX hq_aX)
  go_region_held3 (fun w' => w'.cell? ⟨w.heap.size, 0, none⟩ = some (.slice a_aX l_aX c_aX) ∧ w'.cell? ⟨w.heap.size, 1, none⟩ = some (.slice b_aX m_aX d_aX) ∧ w'.cell? ⟨w4.heap.size, 0, none⟩ = some (.slice (some ⟨gx1, 0, none⟩) l_aX l_aX) ∧ w'.cell? ⟨w4.heap.size, 1, none⟩ = some (.slice (some ⟨gx2, 0, none⟩) m_aX m_aX))
    (((try dsimp only); (repeat' apply And.intro) <;> first | assumption | go_simp))
    (first | (go_at_call 14; refine (hT2.out _ (Below.refl _ _).drew).mono ?_; rintro e wa ⟨gq1, gq2, rfl, _, _, _, Oq, Xq, _, hba0⟩; (have hba : Below w6.heap.size w6 wa := bw_trans (Below.refl _ _).drew hba0); (have Sq : SlI wa (some ⟨gq1, 0, none⟩) l_aX xs_aX := by (have h := Oq.sl; rw [← h.1] at h; exact h.2)); (have hv0 := cell_of hba hX0); (have hv1 := cell_of hba hX1); (have hv2 := cell_of hba hY0); (have hv3 := cell_of hba hY1)) | (go_at_call 18; refine (hE2.out _ _ _ hba Sq Xq).mono ?_; rintro e w7 ⟨rfl, hbb⟩; (have hb : Below w6.heap.size w6 w7 := bw_trans hba hbb); (have hu0 := cell_of hbb hv0); (have hu1 := cell_of hbb hv1); (have hu2 := cell_of hbb hv2); (have hu3 := cell_of hbb hv3)))
  clear hT2 hE2 Oq Xq Sq hv0 hv1 hv2 hv3 hu0 hu1 hu2 hu3 hba hba0 hbb
  replace Fx : Hid _ := fun j => (hb.frozen (p := ⟨gx2, j, none⟩) Nx3).trans (Fx.out j)
  replace Sx := Sx.below hb
  replace Ox := Ox.below hb
  replace Xx := Xx.below hb
  replace hX0 := cell_of hb hX0
  replace hX1 := cell_of hb hX1
  replace hY0 := cell_of hb hY0
  replace hY1 := cell_of hb hY1
  replace ZB := Nat.lt_of_lt_of_le ZB hb.size
  replace Nx3 := Nat.lt_of_lt_of_le Nx3 hb.size
  replace hB := bw_trans hB hb
  replace hW := bw_trans hW hb
  clear hb
  go_wp2
  go_ret
  exact ⟨rfl, hB⟩

set_option maxRecDepth 100000 in
set_option maxHeartbeats 6400000 in
theorem law_MayStand (a_aX : Option Addr) (l_aX c_aX : Nat) (xs_aX : List Int) (b_aX : Option Addr) (m_aX d_aX : Nat) (bs_aX : List BrE) (a_aPlaces : Option Addr) (l_aPlaces c_aPlaces : Nat) (xs_aPlaces : List Int) (w : World) (hl_aX : l_aX ≤ 9223372036854775807) (hm_aX : m_aX ≤ 9223372036854775807) (H_aX : SlI w a_aX l_aX xs_aX) (HB_aX : SlBr w b_aX m_aX bs_aX) (hm_aPlaces : l_aPlaces ≤ 9223372036854775807) (H_aPlaces : SlI w a_aPlaces l_aPlaces xs_aPlaces) :
    Calls Try.prog 6 #[.agg #[.slice a_aX l_aX c_aX, .slice b_aX m_aX d_aX], .slice a_aPlaces l_aPlaces c_aPlaces] w fun e w' => e = .returned (.bool true) ∧ Below w.heap.size w w' := by
  by_cases hn_aPlaces : l_aPlaces ≤ 1048576
  case neg =>
    clear H_aX HB_aX H_aPlaces
    go_enter Try.func6, Try.ntmps6
    go_wp2
    go_ret
    exact ⟨rfl, bw_alloc (Below.refl _ _) _⟩
  have HSZ := Lib.hid (fun W => szSlide_any a_aX l_aX c_aX b_aX m_aX d_aX 1048576 W hl_aX hm_aX ⟨by omega, by omega⟩)
  have hsz := @szD_ok 1048576 l_aX m_aX (by omega)
  generalize szD 1048576 l_aX m_aX = Z at *
  by_cases hz : Z < 0
  case pos =>
    clear H_aX HB_aX H_aPlaces hsz
    go_enter Try.func6, Try.ntmps6
    go_wp2_with fail
    refine (HSZ.out _).mono ?_
    rintro e w0 ⟨rfl, hB0⟩
    go_wp2
    go_ret
    exact ⟨rfl, bw_trans (bw_alloc (Below.refl _ _) _) hB0⟩
  obtain ⟨hn_aX, hq_aX⟩ := hsz hz
  clear hsz
  have hS : ∀ (A_aX : Option Addr) (C_aX : Nat) (B_aX : Option Addr) (D_aX : Nat) (A_aPlaces : Option Addr) (C_aPlaces : Nat) (W : World), SlI W A_aX l_aX xs_aX → SlBr W B_aX m_aX bs_aX → SlI W A_aPlaces l_aPlaces xs_aPlaces → Calls Try.prog 28 #[.agg #[.slice A_aX l_aX C_aX, .slice B_aX m_aX D_aX], .slice A_aPlaces l_aPlaces C_aPlaces] W (fun e w' => e = .returned (.tuple #[.bool (mtB xs_aX l_aX bs_aX m_aX xs_aPlaces), .int .i64 (mtC xs_aX l_aX bs_aX m_aX xs_aPlaces)]) ∧ Below W.heap.size W w') := fun A_aX C_aX B_aX D_aX A_aPlaces C_aPlaces W K_aX KB_aX K_aPlaces => sMayStand_any A_aX l_aX C_aX xs_aX B_aX m_aX D_aX bs_aX A_aPlaces l_aPlaces C_aPlaces xs_aPlaces W K_aX KB_aX K_aPlaces hn_aX hq_aX hn_aPlaces
  have hI : ∀ (A_aX : Option Addr) (C_aX : Nat) (B_aX : Option Addr) (D_aX : Nat) (A_aPlaces : Option Addr) (C_aPlaces : Nat) (W : World), SlI W A_aX l_aX xs_aX → SlBr W B_aX m_aX bs_aX → SlI W A_aPlaces l_aPlaces xs_aPlaces → Calls Try.prog 29 #[.agg #[.slice A_aX l_aX C_aX, .slice B_aX m_aX D_aX], .slice A_aPlaces l_aPlaces C_aPlaces] W (fun e w' => e = .returned (.tuple #[.bool (mtB xs_aX l_aX bs_aX m_aX xs_aPlaces), .int .i64 (mtC xs_aX l_aX bs_aX m_aX xs_aPlaces)]) ∧ Below W.heap.size W w') := fun A_aX C_aX B_aX D_aX A_aPlaces C_aPlaces W K_aX KB_aX K_aPlaces => iMayStand_any A_aX l_aX C_aX xs_aX B_aX m_aX D_aX bs_aX A_aPlaces l_aPlaces C_aPlaces xs_aPlaces W K_aX KB_aX K_aPlaces hn_aX hq_aX hn_aPlaces
  generalize mtB xs_aX l_aX bs_aX m_aX xs_aPlaces = K0 at *
  generalize mtC xs_aX l_aX bs_aX m_aX xs_aPlaces = K1 at *
  have HS := Lib.hid hS
  have HI := Lib.hid hI
  clear hS hI
  have HT := Lib.hid (fun W (hW : Below w.heap.size w W) => toSlide_any a_aX l_aX c_aX xs_aX b_aX m_aX d_aX bs_aX W (H_aX.below hW) (HB_aX.below hW) hn_aX hq_aX)
  clear H_aX HB_aX
  go_enter Try.func6, Try.ntmps6
  go_wp2_with fail
  refine (HSZ.out _).mono ?_
  rintro e w1 ⟨rfl, hb⟩
  clear HSZ
  have hX0 : w1.cell? ⟨w.heap.size, 0, none⟩ = some (.slice a_aX l_aX c_aX) := cell_of hb (by go_simp)
  have hX1 : w1.cell? ⟨w.heap.size, 1, none⟩ = some (.slice b_aX m_aX d_aX) := cell_of hb (by go_simp)
  have hB := bw_trans (bw_alloc (Below.refl _ _) _) hb
  have ZB : w.heap.size < w1.heap.size := World.block_lt_of_cell? w1 _ hX0
  clear hb
  go_wp2_with fail
  refine (HT.out _ hB).mono ?_
  rintro e w2 ⟨gs1, gs2, rfl, Ns1, Ns2, Ns3, Os, Xs, Fs, hb⟩
  replace hX0 := cell_of hb hX0
  replace hX1 := cell_of hb hX1
  replace ZB := Nat.lt_of_lt_of_le ZB hb.size
  replace hB := bw_trans hB hb
  clear hb
  replace Fs := Lib.hid Fs
  have Ss : SlI w2 (some ⟨gs1, 0, none⟩) l_aX xs_aX := by (have h := Os.sl; rw [← h.1] at h; exact h.2)
  go_wp2_with fail
  refine (toInts_any a_aPlaces l_aPlaces c_aPlaces xs_aPlaces _ (H_aPlaces.below hB) hn_aPlaces).mono ?_
  rintro e w3 ⟨rfl, he⟩
  have hb : Below w2.heap.size w2 w3 := by rw [he]; exact bw_alloc (Below.refl _ _) _
  have Os_aPlaces : OwnI w3 w2.heap.size (.slice (some ⟨w2.heap.size, 0, none⟩) l_aPlaces l_aPlaces) xs_aPlaces := by rw [he]; exact OwnI.made H_aPlaces.length hn_aPlaces
  have Zs_aPlaces : w2.heap.size < w3.heap.size := by rw [he]; simp
  clear he
  replace Fs : Hid _ := fun j => (hb.frozen (p := ⟨gs2, j, none⟩) Ns3).trans (Fs.out j)
  replace Ss := Ss.below hb
  replace Os := Os.below hb
  replace Xs := Xs.below hb
  replace hX0 := cell_of hb hX0
  replace hX1 := cell_of hb hX1
  replace ZB := Nat.lt_of_lt_of_le ZB hb.size
  replace Ns3 := Nat.lt_of_lt_of_le Ns3 hb.size
  replace hB := bw_trans hB hb
  clear hb
  go_wp2_with fail
  refine (HS.out (some ⟨gs1, 0, none⟩) l_aX (some ⟨gs2, 0, none⟩) m_aX (some ⟨w2.heap.size, 0, none⟩) l_aPlaces _ Ss Xs (by have h := Os_aPlaces.sl; rw [← h.1] at h; exact h.2)).mono ?_
  rintro e w4 ⟨rfl, hb⟩
  replace Fs : Hid _ := fun j => (hb.frozen (p := ⟨gs2, j, none⟩) Ns3).trans (Fs.out j)
  replace Ss := Ss.below hb
  replace Os := Os.below hb
  replace Xs := Xs.below hb
  replace Os_aPlaces := Os_aPlaces.below hb
  replace hX0 := cell_of hb hX0
  replace hX1 := cell_of hb hX1
  replace ZB := Nat.lt_of_lt_of_le ZB hb.size
  replace Ns3 := Nat.lt_of_lt_of_le Ns3 hb.size
  replace Zs_aPlaces := Nat.lt_of_lt_of_le Zs_aPlaces hb.size
  replace hB := bw_trans hB hb
  clear hb
  clear Ss Os Xs Fs Ns3
  clear Os_aPlaces Zs_aPlaces
  have hW := Below.refl w4.heap.size w4
  have LZB : w.heap.size < w4.heap.size := ZB
  have hBs : w.heap.size ≤ w4.heap.size := hB.size
  go_wp2_with fail
  refine (HT.out _ hB).mono ?_
  rintro e w5 ⟨gx1, gx2, rfl, Nx1, Nx2, Nx3, Ox, Xx, Fx, hb⟩
  replace hX0 := cell_of hb hX0
  replace hX1 := cell_of hb hX1
  replace ZB := Nat.lt_of_lt_of_le ZB hb.size
  replace hB := bw_trans hB hb
  replace hW := bw_trans hW hb
  clear hb
  replace Fx := Lib.hid Fx
  have Sx : SlI w5 (some ⟨gx1, 0, none⟩) l_aX xs_aX := by (have h := Ox.sl; rw [← h.1] at h; exact h.2)
  go_wp2_with fail
  have hb : Below w5.heap.size w5 (w5.alloc (.cells #[.slice (some ⟨gx1, 0, none⟩) l_aX l_aX, .slice (some ⟨gx2, 0, none⟩) m_aX m_aX] 33)) := bw_alloc (Below.refl _ _) _
  have hY0 : (w5.alloc (.cells #[.slice (some ⟨gx1, 0, none⟩) l_aX l_aX, .slice (some ⟨gx2, 0, none⟩) m_aX m_aX] 33)).cell? ⟨w5.heap.size, 0, none⟩ = some (.slice (some ⟨gx1, 0, none⟩) l_aX l_aX) := by go_simp
  have hY1 : (w5.alloc (.cells #[.slice (some ⟨gx1, 0, none⟩) l_aX l_aX, .slice (some ⟨gx2, 0, none⟩) m_aX m_aX] 33)).cell? ⟨w5.heap.size, 1, none⟩ = some (.slice (some ⟨gx2, 0, none⟩) m_aX m_aX) := by go_simp
  generalize (w5.alloc (.cells #[.slice (some ⟨gx1, 0, none⟩) l_aX l_aX, .slice (some ⟨gx2, 0, none⟩) m_aX m_aX] 33)) = w6 at hb hY0 hY1 ⊢
  replace Fx : Hid _ := fun j => (hb.frozen (p := ⟨gx2, j, none⟩) Nx3).trans (Fx.out j)
  replace Sx := Sx.below hb
  replace Ox := Ox.below hb
  replace Xx := Xx.below hb
  replace hX0 := cell_of hb hX0
  replace hX1 := cell_of hb hX1
  replace ZB := Nat.lt_of_lt_of_le ZB hb.size
  replace Nx3 := Nat.lt_of_lt_of_le Nx3 hb.size
  replace hB := bw_trans hB hb
  replace hW := bw_trans hW hb
  clear hb
  have LX : w4.heap.size ≤ gx1 := Nx1
  go_wp2_with fail
  refine (toInts_any a_aPlaces l_aPlaces c_aPlaces xs_aPlaces _ (H_aPlaces.below hB) hn_aPlaces).mono ?_
  rintro e w7 ⟨rfl, he⟩
  have hb : Below w6.heap.size w6 w7 := by rw [he]; exact bw_alloc (Below.refl _ _) _
  have LGX_aPlaces := Lib.hid (show gx2 < w6.heap.size from Nx3)
  have Ox_aPlaces : OwnI w7 w6.heap.size (.slice (some ⟨w6.heap.size, 0, none⟩) l_aPlaces l_aPlaces) xs_aPlaces := by rw [he]; exact OwnI.made H_aPlaces.length hn_aPlaces
  have Zx_aPlaces : w6.heap.size < w7.heap.size := by rw [he]; simp
  clear he
  replace Fx : Hid _ := fun j => (hb.frozen (p := ⟨gx2, j, none⟩) Nx3).trans (Fx.out j)
  replace Sx := Sx.below hb
  replace Ox := Ox.below hb
  replace Xx := Xx.below hb
  replace hX0 := cell_of hb hX0
  replace hX1 := cell_of hb hX1
  replace hY0 := cell_of hb hY0
  replace hY1 := cell_of hb hY1
  replace ZB := Nat.lt_of_lt_of_le ZB hb.size
  replace Nx3 := Nat.lt_of_lt_of_le Nx3 hb.size
  replace hB := bw_trans hB hb
  replace hW := bw_trans hW hb
  clear hb
  have BGX : gx2 < w7.heap.size := Nx3
  have BGhW := Lib.hid (show w4.heap.size ≤ w7.heap.size from hW.size)
  have BGhB := Lib.hid (show w.heap.size ≤ w7.heap.size from hB.size)
  have LE_aPlaces := Lib.hid (show w6.heap.size < w7.heap.size from Zx_aPlaces)
  have LG_aPlaces := Lib.hid (show gx2 < w6.heap.size from LGX_aPlaces.out)
  go_wp2_with fail
  refine (HI.out (some ⟨gx1, 0, none⟩) l_aX (some ⟨gx2, 0, none⟩) m_aX (some ⟨w6.heap.size, 0, none⟩) l_aPlaces _ Sx Xx (by have h := Ox_aPlaces.sl; rw [← h.1] at h; exact h.2)).mono ?_
  rintro e w8 ⟨rfl, hb⟩
  replace Fx : Hid _ := fun j => (hb.frozen (p := ⟨gx2, j, none⟩) Nx3).trans (Fx.out j)
  replace Sx := Sx.below hb
  replace Ox := Ox.below hb
  replace Xx := Xx.below hb
  replace Ox_aPlaces := Ox_aPlaces.below hb
  replace hX0 := cell_of hb hX0
  replace hX1 := cell_of hb hX1
  replace hY0 := cell_of hb hY0
  replace hY1 := cell_of hb hY1
  replace ZB := Nat.lt_of_lt_of_le ZB hb.size
  replace Nx3 := Nat.lt_of_lt_of_le Nx3 hb.size
  replace Zx_aPlaces := Nat.lt_of_lt_of_le Zx_aPlaces hb.size
  replace hB := bw_trans hB hb
  replace hW := bw_trans hW hb
  clear hb
  go_wp2_with fail
  have hT2 := Lib.hid (fun W (hW2 : Below w8.heap.size w8 W) => HT.out W (bw_trans hB hW2))
  have hE2 := Lib.hid (fun (A' : Option Addr) (B' : Option Addr) W (hW2 : Below w8.heap.size w8 W) (h1 : SlI W A' l_aX xs_aX) (h2 : SlBr W B' m_aX bs_aX) => eqSlide_any (some ⟨gx1, 0, none⟩) l_aX l_aX xs_aX (some ⟨gx2, 0, none⟩) m_aX m_aX bs_aX A' l_aX B' m_aX W (Sx.below hW2) (Xx.below hW2) h1 h2 hn_aX hq_aX)
  go_region_held3 (fun w' => w'.cell? ⟨w.heap.size, 0, none⟩ = some (.slice a_aX l_aX c_aX) ∧ w'.cell? ⟨w.heap.size, 1, none⟩ = some (.slice b_aX m_aX d_aX) ∧ w'.cell? ⟨w5.heap.size, 0, none⟩ = some (.slice (some ⟨gx1, 0, none⟩) l_aX l_aX) ∧ w'.cell? ⟨w5.heap.size, 1, none⟩ = some (.slice (some ⟨gx2, 0, none⟩) m_aX m_aX))
    (((try dsimp only); (repeat' apply And.intro) <;> first | assumption | go_simp))
    (first | (go_at_call 14; refine (hT2.out _ (Below.refl _ _).drew).mono ?_; rintro e wa ⟨gq1, gq2, rfl, _, _, _, Oq, Xq, _, hba0⟩; (have hba : Below w8.heap.size w8 wa := bw_trans (Below.refl _ _).drew hba0); (have Sq : SlI wa (some ⟨gq1, 0, none⟩) l_aX xs_aX := by (have h := Oq.sl; rw [← h.1] at h; exact h.2)); (have hv0 := cell_of hba hX0); (have hv1 := cell_of hba hX1); (have hv2 := cell_of hba hY0); (have hv3 := cell_of hba hY1)) | (go_at_call 18; refine (hE2.out _ _ _ hba Sq Xq).mono ?_; rintro e w9 ⟨rfl, hbb⟩; (have hb : Below w8.heap.size w8 w9 := bw_trans hba hbb); (have hu0 := cell_of hbb hv0); (have hu1 := cell_of hbb hv1); (have hu2 := cell_of hbb hv2); (have hu3 := cell_of hbb hv3)))
  clear hT2 hE2 Oq Xq Sq hv0 hv1 hv2 hv3 hu0 hu1 hu2 hu3 hba hba0 hbb
  replace Fx : Hid _ := fun j => (hb.frozen (p := ⟨gx2, j, none⟩) Nx3).trans (Fx.out j)
  replace Sx := Sx.below hb
  replace Ox := Ox.below hb
  replace Xx := Xx.below hb
  replace Ox_aPlaces := Ox_aPlaces.below hb
  replace hX0 := cell_of hb hX0
  replace hX1 := cell_of hb hX1
  replace hY0 := cell_of hb hY0
  replace hY1 := cell_of hb hY1
  replace ZB := Nat.lt_of_lt_of_le ZB hb.size
  replace Nx3 := Nat.lt_of_lt_of_le Nx3 hb.size
  replace Zx_aPlaces := Nat.lt_of_lt_of_le Zx_aPlaces hb.size
  replace hB := bw_trans hB hb
  replace hW := bw_trans hW hb
  clear hb
  go_wp2_with fail
  refine (toInts_any a_aPlaces l_aPlaces c_aPlaces xs_aPlaces _ (H_aPlaces.below hB) hn_aPlaces).mono ?_
  rintro e w10 ⟨rfl, he⟩
  have hb : Below w9.heap.size w9 w10 := by rw [he]; exact bw_alloc (Below.refl _ _) _
  have Oq_aPlaces : OwnI w10 w9.heap.size (.slice (some ⟨w9.heap.size, 0, none⟩) l_aPlaces l_aPlaces) xs_aPlaces := by rw [he]; exact OwnI.made H_aPlaces.length hn_aPlaces
  have Zq_aPlaces : w9.heap.size < w10.heap.size := by rw [he]; simp
  clear he
  replace Fx : Hid _ := fun j => (hb.frozen (p := ⟨gx2, j, none⟩) Nx3).trans (Fx.out j)
  replace Sx := Sx.below hb
  replace Ox := Ox.below hb
  replace Xx := Xx.below hb
  replace Ox_aPlaces := Ox_aPlaces.below hb
  replace hX0 := cell_of hb hX0
  replace hX1 := cell_of hb hX1
  replace hY0 := cell_of hb hY0
  replace hY1 := cell_of hb hY1
  replace ZB := Nat.lt_of_lt_of_le ZB hb.size
  replace Nx3 := Nat.lt_of_lt_of_le Nx3 hb.size
  replace Zx_aPlaces := Nat.lt_of_lt_of_le Zx_aPlaces hb.size
  replace hB := bw_trans hB hb
  replace hW := bw_trans hW hb
  clear hb
  go_wp2_with fail
  refine (eqInts_any _ _ l_aPlaces l_aPlaces l_aPlaces _ _ (by have h := Ox_aPlaces.sl; rw [← h.1] at h; exact h.2) (by have h := Oq_aPlaces.sl; rw [← h.1] at h; exact h.2) hn_aPlaces).mono ?_
  rintro e w11 ⟨rfl, hb⟩
  replace Fx : Hid _ := fun j => (hb.frozen (p := ⟨gx2, j, none⟩) Nx3).trans (Fx.out j)
  replace Sx := Sx.below hb
  replace Ox := Ox.below hb
  replace Xx := Xx.below hb
  replace Ox_aPlaces := Ox_aPlaces.below hb
  replace Oq_aPlaces := Oq_aPlaces.below hb
  replace hX0 := cell_of hb hX0
  replace hX1 := cell_of hb hX1
  replace hY0 := cell_of hb hY0
  replace hY1 := cell_of hb hY1
  replace ZB := Nat.lt_of_lt_of_le ZB hb.size
  replace Nx3 := Nat.lt_of_lt_of_le Nx3 hb.size
  replace Zx_aPlaces := Nat.lt_of_lt_of_le Zx_aPlaces hb.size
  replace Zq_aPlaces := Nat.lt_of_lt_of_le Zq_aPlaces hb.size
  replace hB := bw_trans hB hb
  replace hW := bw_trans hW hb
  clear hb
  clear Oq_aPlaces Zq_aPlaces
  go_wp2
  go_ret
  exact ⟨rfl, hB⟩
end Go.Proofs.Yticohpimkicphaa
