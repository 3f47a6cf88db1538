/-
  CountPlaces: in the program, in the reference, the law.
-/
import Derived.Test.YticohpimkicphaaYn
import Derived.Test.YticohpimkicphaaYq
import Derived.Test.YticohpimkicphaaYi
namespace Go.Proofs.Yticohpimkicphaa
open Go.RowKit
open Go.Maps (Keyed)

theorem sc_nest {ss : List Int} {n : Nat} {bs : List BrE} {m : Nat} {ps : List Int} : scC ss n bs m [ps] 0 = (if vsB ss n bs m then (if plB ss ps n then (if myB bs ps then 0 else 9) else 2) else 1) := by
  cases hin : inB 0 0 (2 * (n : Int) - 1)
  · have hn0 : n = 0 := by
      rcases Nat.eq_zero_or_pos n with h | h
      · exact h
      · rw [inB_of (by omega) (by omega)] at hin; cases hin
    have hv : vsB ss n bs m = false := by unfold vsB stOk; rw [inB_lo (by omega)]; rfl
    rw [sc_out hin, hv]; rfl
  · exact sc_one hin
/-- How many are reached. -/
def cpV (ss : List Int) (n : Nat) (bs : List BrE) (m : Nat) (ps : List Int) : Int := if scC ss n bs m [ps] 0 = 0 then ((allN (mvOk ss n bs) n ps).length : Int) else 0
theorem cp_yes {ss : List Int} {n : Nat} {bs : List BrE} {m : Nat} {ps : List Int} (h : scC ss n bs m [ps] 0 = 0) : cpV ss n bs m ps = ((allN (mvOk ss n bs) n ps).length : Int) := if_pos h
theorem cp_no {ss : List Int} {n : Nat} {bs : List BrE} {m : Nat} {ps : List Int} (h : ¬ scC ss n bs m [ps] 0 = 0) : cpV ss n bs m ps = 0 := if_neg h
/-- What is true of the list of all that is reached. -/
theorem all_gd {ss : List Int} {n : Nat} {bs : List BrE} {ps : List Int} (hst : stBd ss n) (hn : n ≤ 4) (hpl : plB ss ps n = true) : GdN (fun qs => plB ss qs n = true) ps (allN (mvOk ss n bs) n ps) ∧ (allN (mvOk ss n bs) n ps).length ≤ 256 ∧ ∀ y ∈ allN (mvOk ss n bs) n ps, VN n y.pl := by
  have h := GdN.lev (V := fun qs => plB ss qs n = true) (ok := mvOk ss n bs) (n := n) hpl (fun qs mv h => (Bool.and_eq_true_iff.1 h).1) 256
  exact ⟨h, h.le (fun qs h => vn_of hst h) hn, fun y hy => vn_of hst (h.2.2.1 y hy)⟩
theorem all_size {ss : List Int} {n : Nat} {bs : List BrE} {ps : List Int} {vs : List Value} (hst : stBd ss n) (hn : n ≤ 4) (hpl : plB ss ps n = true) : Maps.size (mpK (allN (mvOk ss n bs) n ps) vs (allN (mvOk ss n bs) n ps).length) = (allN (mvOk ss n bs) n ps).length := by
  obtain ⟨h1, h2, h3⟩ := all_gd (bs := bs) hst hn hpl
  exact mp_size hn (fun y hy => kw_of (h3 y hy)) h1.2.2.2.1 (Nat.le_refl _)

set_option maxRecDepth 100000 in
set_option maxHeartbeats 1600000 in
theorem sCountPlaces_any (A : Option Addr) (n c : Nat) (ss : List Int) (B : Option Addr) (m d : Nat) (bs : List BrE) (P : Option Addr) (k e : Nat) (ps : List Int) (w : World) (HS : SlI w A n ss) (HB : SlBr w B m bs) (HP : SlI w P k ps) (hn : n ≤ 1048576) (hm : m ≤ 1048576) (hk : k ≤ 1048576) :
    Calls Try.prog 34 #[.agg #[.slice A n c, .slice B m d], .slice P k e] w fun e w' => e = .returned (.tuple #[.int .i64 (cpV ss n bs m ps), .int .i64 (scC ss n bs m [ps] 0)]) ∧ Below w.heap.size w w' := by
  have hb0 : Below w.heap.size w (w.alloc (.cells #[.slice A n c, .slice B m d] 33)) := bw_alloc (Below.refl _ _) _
  have HD := Lib.hid (show SdP (w.alloc (.cells #[.slice A n c, .slice B m d] 33)) w.heap.size A n c ss B m d bs from ⟨by go_simp, by go_simp, HS.below hb0, HB.below hb0, by simp⟩)
  have HK := Lib.hid (l13Code_any w.heap.size A n c ss B m d bs P k e ps _ HD.out (HP.below hb0) hn hm hk)
  have HLS := HS.length
  have HLB := HB.1
  rw [← sc_nest] at HK
  by_cases hc : scC ss n bs m [ps] 0 = 0
  case neg =>
    rw [cp_no hc]
    have hce : (scC ss n bs m [ps] 0 != 0) = true := by simpa using hc
    clear HS HB HP
    generalize scC ss n bs m [ps] 0 = C at *
    go_enter Try.func34, Try.ntmps34
    go_wp2_with fail
    refine HK.out.mono ?_
    rintro e w1 ⟨rfl, hb1⟩
    go_wp2
    go_ret2
    exact ⟨rfl, bw_trans hb0 hb1⟩
  rw [cp_yes hc]
  obtain ⟨n1, n4, m8, hst, hbd, hpl, hpn, _, _⟩ := sc_facts HLS HLB hc
  rw [hc] at HK
  rw [hc]
  have hkn : k = n := by rw [← HP.length]; exact hpn
  subst hkn
  have HM := Lib.hid (fun W hW => l13All_any w.heap.size A k c ss B m d bs P e ps W (HD.out.below hW) ((HP.below hb0).below hW) n1 n4 m8 hst hbd hpl)
  have h256 := (all_gd (bs := bs) hst n4 hpl).2.1
  clear HS HB HP hst hbd hpl hpn hc
  generalize allN (mvOk ss k bs) k ps = all at *
  go_enter Try.func34, Try.ntmps34
  go_wp2_with fail
  refine HK.out.mono ?_
  rintro e w1 ⟨rfl, hb1⟩
  go_wp2_with fail
  refine (HM.out _ hb1).mono ?_
  rintro e w2 ⟨A', c', rfl, _, hb2⟩
  go_wp2
  go_ret2
  exact ⟨rfl, bw_trans (bw_trans hb0 hb1) hb2⟩

set_option maxRecDepth 100000 in
set_option maxHeartbeats 1600000 in
theorem iCountPlaces_any (A : Option Addr) (n c : Nat) (ss : List Int) (B : Option Addr) (m d : Nat) (bs : List BrE) (P : Option Addr) (k e : Nat) (ps : List Int) (w : World) (HS : SlI w A n ss) (HB : SlBr w B m bs) (HP : SlI w P k ps) (hn : n ≤ 1048576) (hm : m ≤ 1048576) (hk : k ≤ 1048576) :
    Calls Try.prog 35 #[.agg #[.slice A n c, .slice B m d], .slice P k e] w fun e w' => e = .returned (.tuple #[.int .i64 (cpV ss n bs m ps), .int .i64 (scC ss n bs m [ps] 0)]) ∧ Below w.heap.size w w' := by
  have hb0 : Below w.heap.size w ((w.alloc (.cells #[.slice A n c, .slice B m d] 33)).alloc (.cells #[.slice P k e] 22)) := by (repeat (first | exact Below.refl _ _ | refine bw_drew ?_ | refine bw_drewN ?_ _ | refine bw_set ?_ (by simp; try omega) _ | refine bw_alloc ?_ _ | refine bw_trans ?_ (by assumption) | assumption))
  have HK := Lib.hid (slideCode_any A n c ss B m d bs 0 (some ⟨w.heap.size + 1, 0, none⟩) 1 1 [ps] _ (HS.below hb0) (HB.below hb0) (by have h := ss_one (e := e) (HP.below (bw_alloc (Below.refl _ _) (.cells #[.slice A n c, .slice B m d] 33))) hk; simpa using h) hn hm (by omega))
  by_cases hc : scC ss n bs m [ps] 0 = 0
  case neg =>
    rw [cp_no hc]
    have hce : (scC ss n bs m [ps] 0 != 0) = true := by simpa using hc
    clear HS HB HP
    generalize scC ss n bs m [ps] 0 = C at *
    go_enter Try.func35, Try.ntmps35
    go_wp2_with fail
    refine HK.out.mono ?_
    rintro e w1 ⟨rfl, hb1⟩
    go_wp2
    go_ret2
    exact ⟨rfl, bw_trans hb0 hb1⟩
  rw [cp_yes hc]
  obtain ⟨n1, n4, m8, hst, hbd, hpl, hpn, _, _⟩ := sc_facts HS.length HB.1 hc
  rw [hc] at HK
  rw [hc]
  have hkn : k = n := by rw [← HP.length]; exact hpn
  subst hkn
  have HM := Lib.hid (fun W (hW : Below w.heap.size w W) => reach_any A k c ss B m d bs P e ps W (HS.below hW) (HB.below hW) (HP.below hW) n1 n4 m8 hst hbd hpl)
  have HSZ := Lib.hid (fun vs => all_size (bs := bs) (vs := vs) hst n4 hpl)
  clear HS HB HP hst hbd hpl hpn hc
  generalize allN (mvOk ss k bs) k ps = all at *
  go_enter Try.func35, Try.ntmps35
  go_wp2_with fail
  refine HK.out.mono ?_
  rintro e w1 ⟨rfl, hb1⟩
  have hc0 : w1.cell? ⟨w.heap.size, 0, none⟩ = some (.slice A k c) := cell_of hb1 (by go_simp)
  have hc1 : w1.cell? ⟨w.heap.size, 1, none⟩ = some (.slice B m d) := cell_of hb1 (by go_simp)
  have hbw := bw_trans hb0 hb1
  clear HK hb1
  go_wp2_with fail
  refine (HM.out _ hbw).mono ?_
  rintro e w2 ⟨vs, rfl, _, hmap, _, hb2⟩
  have hs := hmap
  have HMP := Lib.hid hmap
  have HS2 := Lib.hid (HSZ.out vs)
  clear hmap hs HM HSZ
  go_wp2_with (at_len; refine wpList_len_own _ rfl _ _ rfl 71 22 Try.underlying68 heldR (w1.heap.size + 1) _ _ rfl HMP.out ?_; rw [HS2.out])
  go_ret2
  exact ⟨rfl, bw_trans hbw hb2⟩

set_option maxRecDepth 100000 in
set_option maxHeartbeats 6400000 in
theorem law_CountPlaces (a_aX : Option Addr) (l_aX c_aX : Nat) (xs_aX : List Int) (b_aX : Option Addr) (m_aX d_aX : Nat) (bs_aX : List BrE) (a_aPlaces : Option Addr) (l_aPlaces c_aPlaces : Nat) (xs_aPlaces : List Int) (w : World) (hl_aX : l_aX ≤ 9223372036854775807) (hm_aX : m_aX ≤ 9223372036854775807) (H_aX : SlI w a_aX l_aX xs_aX) (HB_aX : SlBr w b_aX m_aX bs_aX) (hm_aPlaces : l_aPlaces ≤ 9223372036854775807) (H_aPlaces : SlI w a_aPlaces l_aPlaces xs_aPlaces) :
    Calls Try.prog 9 #[.agg #[.slice a_aX l_aX c_aX, .slice b_aX m_aX d_aX], .slice a_aPlaces l_aPlaces c_aPlaces] w fun e w' => e = .returned (.bool true) ∧ Below w.heap.size w w' := by
  by_cases hn_aPlaces : l_aPlaces ≤ 1048576
  case neg =>
    clear H_aX HB_aX H_aPlaces
    go_enter Try.func9, Try.ntmps9
    go_wp2
    go_ret
    exact ⟨rfl, bw_alloc (Below.refl _ _) _⟩
  have HSZ := Lib.hid (fun W => szSlide_any a_aX l_aX c_aX b_aX m_aX d_aX 1048576 W hl_aX hm_aX ⟨by omega, by omega⟩)
  have hsz := @szD_ok 1048576 l_aX m_aX (by omega)
  generalize szD 1048576 l_aX m_aX = Z at *
  by_cases hz : Z < 0
  case pos =>
    clear H_aX HB_aX H_aPlaces hsz
    go_enter Try.func9, Try.ntmps9
    go_wp2_with fail
    refine (HSZ.out _).mono ?_
    rintro e w0 ⟨rfl, hB0⟩
    go_wp2
    go_ret
    exact ⟨rfl, bw_trans (bw_alloc (Below.refl _ _) _) hB0⟩
  obtain ⟨hn_aX, hq_aX⟩ := hsz hz
  clear hsz
  have hS : ∀ (A_aX : Option Addr) (C_aX : Nat) (B_aX : Option Addr) (D_aX : Nat) (A_aPlaces : Option Addr) (C_aPlaces : Nat) (W : World), SlI W A_aX l_aX xs_aX → SlBr W B_aX m_aX bs_aX → SlI W A_aPlaces l_aPlaces xs_aPlaces → Calls Try.prog 34 #[.agg #[.slice A_aX l_aX C_aX, .slice B_aX m_aX D_aX], .slice A_aPlaces l_aPlaces C_aPlaces] W (fun e w' => e = .returned (.tuple #[.int .i64 ((cpV xs_aX l_aX bs_aX m_aX xs_aPlaces)), .int .i64 ((scC xs_aX l_aX bs_aX m_aX [xs_aPlaces] 0))]) ∧ Below W.heap.size W w') := fun A_aX C_aX B_aX D_aX A_aPlaces C_aPlaces W K_aX KB_aX K_aPlaces => sCountPlaces_any A_aX l_aX C_aX xs_aX B_aX m_aX D_aX bs_aX A_aPlaces l_aPlaces C_aPlaces xs_aPlaces W K_aX KB_aX K_aPlaces hn_aX hq_aX hn_aPlaces
  have hI : ∀ (A_aX : Option Addr) (C_aX : Nat) (B_aX : Option Addr) (D_aX : Nat) (A_aPlaces : Option Addr) (C_aPlaces : Nat) (W : World), SlI W A_aX l_aX xs_aX → SlBr W B_aX m_aX bs_aX → SlI W A_aPlaces l_aPlaces xs_aPlaces → Calls Try.prog 35 #[.agg #[.slice A_aX l_aX C_aX, .slice B_aX m_aX D_aX], .slice A_aPlaces l_aPlaces C_aPlaces] W (fun e w' => e = .returned (.tuple #[.int .i64 ((cpV xs_aX l_aX bs_aX m_aX xs_aPlaces)), .int .i64 ((scC xs_aX l_aX bs_aX m_aX [xs_aPlaces] 0))]) ∧ Below W.heap.size W w') := fun A_aX C_aX B_aX D_aX A_aPlaces C_aPlaces W K_aX KB_aX K_aPlaces => iCountPlaces_any A_aX l_aX C_aX xs_aX B_aX m_aX D_aX bs_aX A_aPlaces l_aPlaces C_aPlaces xs_aPlaces W K_aX KB_aX K_aPlaces hn_aX hq_aX hn_aPlaces
  generalize (cpV xs_aX l_aX bs_aX m_aX xs_aPlaces) = K0 at *
  generalize (scC xs_aX l_aX bs_aX m_aX [xs_aPlaces] 0) = K1 at *
  have HS := Lib.hid hS
  have HI := Lib.hid hI
  clear hS hI
  have HT := Lib.hid (fun W (hW : Below w.heap.size w W) => toSlide_any a_aX l_aX c_aX xs_aX b_aX m_aX d_aX bs_aX W (H_aX.below hW) (HB_aX.below hW) hn_aX hq_aX)
  clear H_aX HB_aX
  go_enter Try.func9, Try.ntmps9
  go_wp2_with fail
  refine (HSZ.out _).mono ?_
  rintro e w1 ⟨rfl, hb⟩
  clear HSZ
  have hX0 : w1.cell? ⟨w.heap.size, 0, none⟩ = some (.slice a_aX l_aX c_aX) := cell_of hb (by go_simp)
  have hX1 : w1.cell? ⟨w.heap.size, 1, none⟩ = some (.slice b_aX m_aX d_aX) := cell_of hb (by go_simp)
  have hB := bw_trans (bw_alloc (Below.refl _ _) _) hb
  have ZB : w.heap.size < w1.heap.size := World.block_lt_of_cell? w1 _ hX0
  clear hb
  go_wp2_with fail
  refine (HT.out _ hB).mono ?_
  rintro e w2 ⟨gs1, gs2, rfl, Ns1, Ns2, Ns3, Os, Xs, Fs, hb⟩
  replace hX0 := cell_of hb hX0
  replace hX1 := cell_of hb hX1
  replace ZB := Nat.lt_of_lt_of_le ZB hb.size
  replace hB := bw_trans hB hb
  clear hb
  replace Fs := Lib.hid Fs
  have Ss : SlI w2 (some ⟨gs1, 0, none⟩) l_aX xs_aX := by (have h := Os.sl; rw [← h.1] at h; exact h.2)
  go_wp2_with fail
  refine (toInts_any a_aPlaces l_aPlaces c_aPlaces xs_aPlaces _ (H_aPlaces.below hB) hn_aPlaces).mono ?_
  rintro e w3 ⟨rfl, he⟩
  have hb : Below w2.heap.size w2 w3 := by rw [he]; exact bw_alloc (Below.refl _ _) _
  have Os_aPlaces : OwnI w3 w2.heap.size (.slice (some ⟨w2.heap.size, 0, none⟩) l_aPlaces l_aPlaces) xs_aPlaces := by rw [he]; exact OwnI.made H_aPlaces.length hn_aPlaces
  have Zs_aPlaces : w2.heap.size < w3.heap.size := by rw [he]; simp
  clear he
  replace Fs : Hid _ := fun j => (hb.frozen (p := ⟨gs2, j, none⟩) Ns3).trans (Fs.out j)
  replace Ss := Ss.below hb
  replace Os := Os.below hb
  replace Xs := Xs.below hb
  replace hX0 := cell_of hb hX0
  replace hX1 := cell_of hb hX1
  replace ZB := Nat.lt_of_lt_of_le ZB hb.size
  replace Ns3 := Nat.lt_of_lt_of_le Ns3 hb.size
  replace hB := bw_trans hB hb
  clear hb
  go_wp2_with fail
  refine (HS.out (some ⟨gs1, 0, none⟩) l_aX (some ⟨gs2, 0, none⟩) m_aX (some ⟨w2.heap.size, 0, none⟩) l_aPlaces _ Ss Xs (by have h := Os_aPlaces.sl; rw [← h.1] at h; exact h.2)).mono ?_
  rintro e w4 ⟨rfl, hb⟩
  replace Fs : Hid _ := fun j => (hb.frozen (p := ⟨gs2, j, none⟩) Ns3).trans (Fs.out j)
  replace Ss := Ss.below hb
  replace Os := Os.below hb
  replace Xs := Xs.below hb
  replace Os_aPlaces := Os_aPlaces.below hb
  replace hX0 := cell_of hb hX0
  replace hX1 := cell_of hb hX1
  replace ZB := Nat.lt_of_lt_of_le ZB hb.size
  replace Ns3 := Nat.lt_of_lt_of_le Ns3 hb.size
  replace Zs_aPlaces := Nat.lt_of_lt_of_le Zs_aPlaces hb.size
  replace hB := bw_trans hB hb
  clear hb
  clear Ss Os Xs Fs Ns3
  clear Os_aPlaces Zs_aPlaces
  have hW := Below.refl w4.heap.size w4
  have LZB : w.heap.size < w4.heap.size := ZB
  have hBs : w.heap.size ≤ w4.heap.size := hB.size
  go_wp2_with fail
  refine (HT.out _ hB).mono ?_
  rintro e w5 ⟨gx1, gx2, rfl, Nx1, Nx2, Nx3, Ox, Xx, Fx, hb⟩
  replace hX0 := cell_of hb hX0
  replace hX1 := cell_of hb hX1
  replace ZB := Nat.lt_of_lt_of_le ZB hb.size
  replace hB := bw_trans hB hb
  replace hW := bw_trans hW hb
  clear hb
  replace Fx := Lib.hid Fx
  have Sx : SlI w5 (some ⟨gx1, 0, none⟩) l_aX xs_aX := by (have h := Ox.sl; rw [← h.1] at h; exact h.2)
  go_wp2_with fail
  have hb : Below w5.heap.size w5 (w5.alloc (.cells #[.slice (some ⟨gx1, 0, none⟩) l_aX l_aX, .slice (some ⟨gx2, 0, none⟩) m_aX m_aX] 33)) := bw_alloc (Below.refl _ _) _
  have hY0 : (w5.alloc (.cells #[.slice (some ⟨gx1, 0, none⟩) l_aX l_aX, .slice (some ⟨gx2, 0, none⟩) m_aX m_aX] 33)).cell? ⟨w5.heap.size, 0, none⟩ = some (.slice (some ⟨gx1, 0, none⟩) l_aX l_aX) := by go_simp
  have hY1 : (w5.alloc (.cells #[.slice (some ⟨gx1, 0, none⟩) l_aX l_aX, .slice (some ⟨gx2, 0, none⟩) m_aX m_aX] 33)).cell? ⟨w5.heap.size, 1, none⟩ = some (.slice (some ⟨gx2, 0, none⟩) m_aX m_aX) := by go_simp
  generalize (w5.alloc (.cells #[.slice (some ⟨gx1, 0, none⟩) l_aX l_aX, .slice (some ⟨gx2, 0, none⟩) m_aX m_aX] 33)) = w6 at hb hY0 hY1 ⊢
  replace Fx : Hid _ := fun j => (hb.frozen (p := ⟨gx2, j, none⟩) Nx3).trans (Fx.out j)
  replace Sx := Sx.below hb
  replace Ox := Ox.below hb
  replace Xx := Xx.below hb
  replace hX0 := cell_of hb hX0
  replace hX1 := cell_of hb hX1
  replace ZB := Nat.lt_of_lt_of_le ZB hb.size
  replace Nx3 := Nat.lt_of_lt_of_le Nx3 hb.size
  replace hB := bw_trans hB hb
  replace hW := bw_trans hW hb
  clear hb
  have LX : w4.heap.size ≤ gx1 := Nx1
  go_wp2_with fail
  refine (toInts_any a_aPlaces l_aPlaces c_aPlaces xs_aPlaces _ (H_aPlaces.below hB) hn_aPlaces).mono ?_
  rintro e w7 ⟨rfl, he⟩
  have hb : Below w6.heap.size w6 w7 := by rw [he]; exact bw_alloc (Below.refl _ _) _
  have LGX_aPlaces := Lib.hid (show gx2 < w6.heap.size from Nx3)
  have Ox_aPlaces : OwnI w7 w6.heap.size (.slice (some ⟨w6.heap.size, 0, none⟩) l_aPlaces l_aPlaces) xs_aPlaces := by rw [he]; exact OwnI.made H_aPlaces.length hn_aPlaces
  have Zx_aPlaces : w6.heap.size < w7.heap.size := by rw [he]; simp
  clear he
  replace Fx : Hid _ := fun j => (hb.frozen (p := ⟨gx2, j, none⟩) Nx3).trans (Fx.out j)
  replace Sx := Sx.below hb
  replace Ox := Ox.below hb
  replace Xx := Xx.below hb
  replace hX0 := cell_of hb hX0
  replace hX1 := cell_of hb hX1
  replace hY0 := cell_of hb hY0
  replace hY1 := cell_of hb hY1
  replace ZB := Nat.lt_of_lt_of_le ZB hb.size
  replace Nx3 := Nat.lt_of_lt_of_le Nx3 hb.size
  replace hB := bw_trans hB hb
  replace hW := bw_trans hW hb
  clear hb
  have BGX : gx2 < w7.heap.size := Nx3
  have BGhW := Lib.hid (show w4.heap.size ≤ w7.heap.size from hW.size)
  have BGhB := Lib.hid (show w.heap.size ≤ w7.heap.size from hB.size)
  have LE_aPlaces := Lib.hid (show w6.heap.size < w7.heap.size from Zx_aPlaces)
  have LG_aPlaces := Lib.hid (show gx2 < w6.heap.size from LGX_aPlaces.out)
  go_wp2_with fail
  refine (HI.out (some ⟨gx1, 0, none⟩) l_aX (some ⟨gx2, 0, none⟩) m_aX (some ⟨w6.heap.size, 0, none⟩) l_aPlaces _ Sx Xx (by have h := Ox_aPlaces.sl; rw [← h.1] at h; exact h.2)).mono ?_
  rintro e w8 ⟨rfl, hb⟩
  replace Fx : Hid _ := fun j => (hb.frozen (p := ⟨gx2, j, none⟩) Nx3).trans (Fx.out j)
  replace Sx := Sx.below hb
  replace Ox := Ox.below hb
  replace Xx := Xx.below hb
  replace Ox_aPlaces := Ox_aPlaces.below hb
  replace hX0 := cell_of hb hX0
  replace hX1 := cell_of hb hX1
  replace hY0 := cell_of hb hY0
  replace hY1 := cell_of hb hY1
  replace ZB := Nat.lt_of_lt_of_le ZB hb.size
  replace Nx3 := Nat.lt_of_lt_of_le Nx3 hb.size
  replace Zx_aPlaces := Nat.lt_of_lt_of_le Zx_aPlaces hb.size
  replace hB := bw_trans hB hb
  replace hW := bw_trans hW hb
  clear hb
  go_wp2_with fail
  have hT2 := Lib.hid (fun W (hW2 : Below w8.heap.size w8 W) => HT.out W (bw_trans hB hW2))
  have hE2 := Lib.hid (fun (A' : Option Addr) (B' : Option Addr) W (hW2 : Below w8.heap.size w8 W) (h1 : SlI W A' l_aX xs_aX) (h2 : SlBr W B' m_aX bs_aX) => eqSlide_any (some ⟨gx1, 0, none⟩) l_aX l_aX xs_aX (some ⟨gx2, 0, none⟩) m_aX m_aX bs_aX A' l_aX B' m_aX W (Sx.below hW2) (Xx.below hW2) h1 h2 hn_aX hq_aX)
  go_region_held3 (fun w' => w'.cell? ⟨w.heap.size, 0, none⟩ = some (.slice a_aX l_aX c_aX) ∧ w'.cell? ⟨w.heap.size, 1, none⟩ = some (.slice b_aX m_aX d_aX) ∧ w'.cell? ⟨w5.heap.size, 0, none⟩ = some (.slice (some ⟨gx1, 0, none⟩) l_aX l_aX) ∧ w'.cell? ⟨w5.heap.size, 1, none⟩ = some (.slice (some ⟨gx2, 0, none⟩) m_aX m_aX))
    (((try dsimp only); (repeat' apply And.intro) <;> first | assumption | go_simp))
    (first | (go_at_call 14; refine (hT2.out _ (Below.refl _ _).drew).mono ?_; rintro e wa ⟨gq1, gq2, rfl, _, _, _, Oq, Xq, _, hba0⟩; (have hba : Below w8.heap.size w8 wa := bw_trans (Below.refl _ _).drew hba0); (have Sq : SlI wa (some ⟨gq1, 0, none⟩) l_aX xs_aX := by (have h := Oq.sl; rw [← h.1] at h; exact h.2)); (have hv0 := cell_of hba hX0); (have hv1 := cell_of hba hX1); (have hv2 := cell_of hba hY0); (have hv3 := cell_of hba hY1)) | (go_at_call 18; refine (hE2.out _ _ _ hba Sq Xq).mono ?_; rintro e w9 ⟨rfl, hbb⟩; (have hb : Below w8.heap.size w8 w9 := bw_trans hba hbb); (have hu0 := cell_of hbb hv0); (have hu1 := cell_of hbb hv1); (have hu2 := cell_of hbb hv2); (have hu3 := cell_of hbb hv3)))
  clear hT2 hE2 Oq Xq Sq hv0 hv1 hv2 hv3 hu0 hu1 hu2 hu3 hba hba0 hbb
  replace Fx : Hid _ := fun j => (hb.frozen (p := ⟨gx2, j, none⟩) Nx3).trans (Fx.out j)
  replace Sx := Sx.below hb
  replace Ox := Ox.below hb
  replace Xx := Xx.below hb
  replace Ox_aPlaces := Ox_aPlaces.below hb
  replace hX0 := cell_of hb hX0
  replace hX1 := cell_of hb hX1
  replace hY0 := cell_of hb hY0
  replace hY1 := cell_of hb hY1
  replace ZB := Nat.lt_of_lt_of_le ZB hb.size
  replace Nx3 := Nat.lt_of_lt_of_le Nx3 hb.size
  replace Zx_aPlaces := Nat.lt_of_lt_of_le Zx_aPlaces hb.size
  replace hB := bw_trans hB hb
  replace hW := bw_trans hW hb
  clear hb
  go_wp2_with fail
  refine (toInts_any a_aPlaces l_aPlaces c_aPlaces xs_aPlaces _ (H_aPlaces.below hB) hn_aPlaces).mono ?_
  rintro e w10 ⟨rfl, he⟩
  have hb : Below w9.heap.size w9 w10 := by rw [he]; exact bw_alloc (Below.refl _ _) _
  have Oq_aPlaces : OwnI w10 w9.heap.size (.slice (some ⟨w9.heap.size, 0, none⟩) l_aPlaces l_aPlaces) xs_aPlaces := by rw [he]; exact OwnI.made H_aPlaces.length hn_aPlaces
  have Zq_aPlaces : w9.heap.size < w10.heap.size := by rw [he]; simp
  clear he
  replace Fx : Hid _ := fun j => (hb.frozen (p := ⟨gx2, j, none⟩) Nx3).trans (Fx.out j)
  replace Sx := Sx.below hb
  replace Ox := Ox.below hb
  replace Xx := Xx.below hb
  replace Ox_aPlaces := Ox_aPlaces.below hb
  replace hX0 := cell_of hb hX0
  replace hX1 := cell_of hb hX1
  replace hY0 := cell_of hb hY0
  replace hY1 := cell_of hb hY1
  replace ZB := Nat.lt_of_lt_of_le ZB hb.size
  replace Nx3 := Nat.lt_of_lt_of_le Nx3 hb.size
  replace Zx_aPlaces := Nat.lt_of_lt_of_le Zx_aPlaces hb.size
  replace hB := bw_trans hB hb
  replace hW := bw_trans hW hb
  clear hb
  go_wp2_with fail
  refine (eqInts_any _ _ l_aPlaces l_aPlaces l_aPlaces _ _ (by have h := Ox_aPlaces.sl; rw [← h.1] at h; exact h.2) (by have h := Oq_aPlaces.sl; rw [← h.1] at h; exact h.2) hn_aPlaces).mono ?_
  rintro e w11 ⟨rfl, hb⟩
  replace Fx : Hid _ := fun j => (hb.frozen (p := ⟨gx2, j, none⟩) Nx3).trans (Fx.out j)
  replace Sx := Sx.below hb
  replace Ox := Ox.below hb
  replace Xx := Xx.below hb
  replace Ox_aPlaces := Ox_aPlaces.below hb
  replace Oq_aPlaces := Oq_aPlaces.below hb
  replace hX0 := cell_of hb hX0
  replace hX1 := cell_of hb hX1
  replace hY0 := cell_of hb hY0
  replace hY1 := cell_of hb hY1
  replace ZB := Nat.lt_of_lt_of_le ZB hb.size
  replace Nx3 := Nat.lt_of_lt_of_le Nx3 hb.size
  replace Zx_aPlaces := Nat.lt_of_lt_of_le Zx_aPlaces hb.size
  replace Zq_aPlaces := Nat.lt_of_lt_of_le Zq_aPlaces hb.size
  replace hB := bw_trans hB hb
  replace hW := bw_trans hW hb
  clear hb
  clear Oq_aPlaces Zq_aPlaces
  go_wp2
  go_ret
  exact ⟨rfl, hB⟩
end Go.Proofs.Yticohpimkicphaa
