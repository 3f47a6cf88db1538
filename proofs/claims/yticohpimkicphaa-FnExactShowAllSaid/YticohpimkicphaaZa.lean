
/-
  ShowAll: in the program; the law.
-/
import Derived.Test.YticohpimkicphaaYz
namespace Go.Proofs.Yticohpimkicphaa
open Go.RowKit
open Go.Maps (Keyed)

set_option maxRecDepth 100000 in
set_option maxHeartbeats 6400000 in
theorem iShowAll_any (A : Option Addr) (n c : Nat) (ss : List Int) (B : Option Addr) (m d : Nat) (bs : List BrE) (P : Option Addr) (k e : Nat) (ps : List Int) (Q : Option Addr) (l f : Nat) (pls : List (List Int)) (w : World) (HS : SlI w A n ss) (HB : SlBr w B m bs) (HP : SlI w P k ps) (HQ : SlSS w Q l pls) (hn : n ≤ 1048576) (hm : m ≤ 1048576) (hk : k ≤ 1048576) (hq : l ≤ 1048576) :
    Calls Try.prog 17 #[.agg #[.slice A n c, .slice B m d], .slice P k e, .slice Q l f] w fun e w' => e = .returned (.tuple #[.int .i64 (shV ss n bs m ps pls), .int .i64 (shC ss n bs m ps pls)]) ∧ Below w.heap.size w w' := by
  have hb0 : Below w.heap.size w (w.alloc (.cells #[.slice A n c, .slice B m d] 33)) := bw_alloc (Below.refl _ _) _
  have HO := Lib.hid (validSlide_any A n c ss B m d bs (w.alloc (.cells #[.slice A n c, .slice B m d] 33)) (HS.below hb0) (HB.below hb0) hn hm)
  have HLS := HS.length
  have HLB := HB.1
  have HLP := HP.length
  have hll : pls.length = l := HQ.1
  cases hv : vsB ss n bs m
  case false =>
    rw [hv] at HO
    rw [(sh_1 hv).1, (sh_1 hv).2]
    clear HS HB HP HQ hv HLS HLB HLP hll
    go_enter Try.func17, Try.ntmps17
    go_wp2_with fail
    refine HO.out.mono ?_
    rintro e w1 ⟨rfl, hb1⟩
    go_wp2
    go_ret2
    exact ⟨rfl, bw_trans hb0 hb1⟩
  obtain ⟨n1, n4, hst, m8, hbd⟩ := vs_at HLS HLB hv
  rw [hv] at HO
  have HPL := Lib.hid (fun W (hW : Below w.heap.size w W) => placesOk_any A n c ss (.slice B m d) P k e ps W (HS.below hW) (HP.below hW) hn hk hst)
  have HA := Lib.hid (fun W (hW : Below w.heap.size w W) (h0 : W.cell? ⟨w.heap.size, 0, none⟩ = some (.slice A n c)) (h1 : W.cell? ⟨w.heap.size, 1, none⟩ = some (.slice B m d)) b hb => wsCon_any (fun p => !plB ss p n) (.pointer (some ⟨w.heap.size, 0, none⟩)) Q l f pls W (HQ.below hW) hq (b := b) hb
    (fun j hj W2 hW2 A' c' hsl hle => wsClos_any w.heap.size A n c ss (.slice B m d) A' _ c' (pls.getD j []) W2 (cell_of hW2 h0) (cell_of hW2 h1) ((HS.below hW).below hW2) hsl hn hle hst))
  cases hp : plB ss ps n
  case false =>
    obtain ⟨e1, e2⟩ := sh_2 (ps := ps) (pls := pls) hv (bad_ps hp)
    rw [hp] at HPL
    rw [e1, e2]
    clear HS HB HP HQ hv HLS HLB HLP hll hp hst hbd e1 e2 HA
    go_enter Try.func17, Try.ntmps17
    go_wp2_with fail
    refine HO.out.mono ?_
    rintro e w1 ⟨rfl, hb1⟩
    have hc0 : w1.cell? ⟨w.heap.size, 0, none⟩ = some (.slice A n c) := cell_of hb1 (by go_simp)
    have hc1 : w1.cell? ⟨w.heap.size, 1, none⟩ = some (.slice B m d) := cell_of hb1 (by go_simp)
    go_wp2_with fail
    refine (HPL.out _ (bw_trans hb0 hb1)).mono ?_
    rintro e w2 ⟨rfl, hb2⟩
    go_wp2
    go_ret2
    exact ⟨rfl, bw_trans (bw_trans hb0 hb1) hb2⟩
  rw [hp] at HPL
  obtain rfl : n = k := by rw [← HLP]; exact (pl_at hp).1.symm
  by_cases h6 : 6 < l
  case pos =>
    obtain ⟨e1, e2⟩ := sh_2 (ps := ps) (pls := pls) hv (bad_6 (by rw [hll]; exact h6))
    have h6' : (6 : Int) < (l : Int) := by omega
    rw [e1, e2]
    clear HS HB HP HQ hv HLS HLB HLP hll hp hst hbd e1 e2 HA
    go_enter Try.func17, Try.ntmps17
    go_wp2_with fail
    refine HO.out.mono ?_
    rintro e w1 ⟨rfl, hb1⟩
    have hc0 : w1.cell? ⟨w.heap.size, 0, none⟩ = some (.slice A n c) := cell_of hb1 (by go_simp)
    have hc1 : w1.cell? ⟨w.heap.size, 1, none⟩ = some (.slice B m d) := cell_of hb1 (by go_simp)
    go_wp2_with fail
    refine (HPL.out _ (bw_trans hb0 hb1)).mono ?_
    rintro e w2 ⟨rfl, hb2⟩
    go_wp2
    go_ret2
    exact ⟨rfl, bw_trans (bw_trans hb0 hb1) hb2⟩
  have h6' : ¬ (6 : Int) < (l : Int) := by omega
  cases hany : pls.any (fun p => !plB ss p n)
  case true =>
    obtain ⟨e1, e2⟩ := sh_2 (ps := ps) (pls := pls) hv (bad_any hany)
    have HA2 := Lib.hid (fun W hW h0 h1 => HA.out W hW h0 h1 _ hany)
    rw [e1, e2]
    clear HS HB HP HQ hv HLS HLB HLP hll hp hst hbd e1 e2 HA hany
    go_enter Try.func17, Try.ntmps17
    go_wp2_with fail
    refine HO.out.mono ?_
    rintro e w1 ⟨rfl, hb1⟩
    have hc0 : w1.cell? ⟨w.heap.size, 0, none⟩ = some (.slice A n c) := cell_of hb1 (by go_simp)
    have hc1 : w1.cell? ⟨w.heap.size, 1, none⟩ = some (.slice B m d) := cell_of hb1 (by go_simp)
    go_wp2_with fail
    refine (HPL.out _ (bw_trans hb0 hb1)).mono ?_
    rintro e w2 ⟨rfl, hb2⟩
    have hd0 := cell_of hb2 hc0
    have hd1 := cell_of hb2 hc1
    go_wp2_with fail
    refine (HA2.out _ (bw_trans (bw_trans hb0 hb1) hb2) hd0 hd1).mono ?_
    rintro e w3 ⟨rfl, hb3⟩
    go_wp2
    go_ret2
    exact ⟨rfl, bw_trans (bw_trans (bw_trans hb0 hb1) hb2) hb3⟩
  have HA2 := Lib.hid (fun W hW h0 h1 => HA.out W hW h0 h1 _ hany)
  have HALL := Lib.hid (pl_any hany)
  have hbad := bad_no hany hp (by rw [hll]; exact h6)
  have HMY := Lib.hid (fun W (hW : Below w.heap.size w W) => mayStand_any (.slice A n c) B m d bs P n e ps W (HB.below hW) (HP.below hW) hm hk hbd)
  cases hmy : myB bs ps
  case false =>
    obtain ⟨e1, e2⟩ := sh_9 (ps := ps) (pls := pls) hv hbad hmy
    rw [hmy] at HMY
    rw [e1, e2]
    clear HS HB HP HQ hv HLS HLB HLP hll hp hst hbd e1 e2 HA hany hbad hmy HALL
    go_enter Try.func17, Try.ntmps17
    go_wp2_with fail
    refine HO.out.mono ?_
    rintro e w1 ⟨rfl, hb1⟩
    have hc0 : w1.cell? ⟨w.heap.size, 0, none⟩ = some (.slice A n c) := cell_of hb1 (by go_simp)
    have hc1 : w1.cell? ⟨w.heap.size, 1, none⟩ = some (.slice B m d) := cell_of hb1 (by go_simp)
    go_wp2_with fail
    refine (HPL.out _ (bw_trans hb0 hb1)).mono ?_
    rintro e w2 ⟨rfl, hb2⟩
    have hd0 := cell_of hb2 hc0
    have hd1 := cell_of hb2 hc1
    go_wp2_with fail
    refine (HA2.out _ (bw_trans (bw_trans hb0 hb1) hb2) hd0 hd1).mono ?_
    rintro e w3 ⟨rfl, hb3⟩
    have he0 := cell_of hb3 hd0
    have he1 := cell_of hb3 hd1
    go_wp2_with fail
    refine (HMY.out _ (bw_trans (bw_trans (bw_trans hb0 hb1) hb2) hb3)).mono ?_
    rintro e w4 ⟨rfl, hb4⟩
    go_wp2
    go_ret2
    exact ⟨rfl, bw_trans (bw_trans (bw_trans (bw_trans hb0 hb1) hb2) hb3) hb4⟩
  rw [hmy] at HMY
  have H3 := Lib.hid (fun h4 => sh_3 (ps := ps) (pls := pls) hv hbad hmy h4)
  have H0 := Lib.hid (fun h4 => sh_0 (ps := ps) (pls := pls) hv hbad hmy h4)
  have HAT := Lib.hid (fun i (hi : i ≤ pls.length) => sh_facts hp HALL.out hi)
  have HRE := Lib.hid (fun (P' : Option Addr) (e' : Nat) (qs : List Int) W (hW : Below w.heap.size w W) (h : SlI W P' n qs) (hq' : plB ss qs n = true) => (show Calls Try.prog 50 #[.agg #[.slice A n c, .slice B m d], .slice P' n e'] W (GivesR (toR ss n bs qs) W) from reach_any A n c ss B m d bs P' e' qs W (HS.below hW) (HB.below hW) h n1 n4 m8 hst hbd hq'))
  have HKW := Lib.hid (fun qs (hq' : plB ss qs n = true) => kw_of (vn_of hst hq'))
  have HHA := Lib.hid (fun ps' vs q (h1 : plB ss ps' n = true) (h2 : plB ss q n = true) => mp_hasN (out := toR ss n bs ps') (vs := vs) n4 (fun y hy => kw_of ((all_gd (bs := bs) hst n4 h1).2.2 y hy)) (kw_of (vn_of hst h2)))
  have HAA := Lib.hid (fun ps' vs (h1 : plB ss ps' n = true) j (hj : j < (toR ss n bs ps').length) z => mp_at (out := toR ss n bs ps') (vs := vs) n4 (fun y hy => kw_of ((all_gd (bs := bs) hst n4 h1).2.2 y hy)) (all_gd (bs := bs) hst n4 h1).1.2.2.2.1 (Nat.le_refl _) hj z)
  have HFN0 := Lib.hid (show ∀ i, fnS ss n bs ps pls i = hasN (toR ss n bs (atS ps pls i)) (pls.getD i []) from fun i => rfl)
  have HLE0 := Lib.hid (show ∀ i, lnS ss n bs ps pls i = ((toR ss n bs (atS ps pls i)).getD (fdI (toR ss n bs (atS ps pls i)) (pls.getD i [])).toNat Nd.zero).pt.length from fun i => rfl)
  have HLN := Lib.hid (fun i (hi : i < l) => ln_le (bs := bs) (pls := pls) (ps := ps) hst n4 (k := i) (HAT.out i (by omega)))
  have HSM := Lib.hid (fun i (hi : i ≤ l) => sm_le HLN.out i hi)
  have HQ0 := Lib.hid (fun W (hW : Below w.heap.size w W) => HQ.below hW)
  have HPW := Lib.hid (fun W (hW : Below w.heap.size w W) => HP.below hW)
  have HLL := Lib.hid hll
  clear HS HB HP HQ hv HLS HLB HLP hll hp hst hbd HA hany hbad hmy
  generalize shC ss n bs m ps pls = C at *
  generalize shV ss n bs m ps pls = V at *
  generalize lnS ss n bs ps pls = LN at *
  generalize fnS ss n bs ps pls = FN at *
  generalize toR ss n bs = TR at *
  go_enter Try.func17, Try.ntmps17
  go_wp2_with fail
  refine HO.out.mono ?_
  rintro e w1 ⟨rfl, hb1⟩
  have hc0 : w1.cell? ⟨w.heap.size, 0, none⟩ = some (.slice A n c) := cell_of hb1 (by go_simp)
  have hc1 : w1.cell? ⟨w.heap.size, 1, none⟩ = some (.slice B m d) := cell_of hb1 (by go_simp)
  go_wp2_with fail
  refine (HPL.out _ (bw_trans hb0 hb1)).mono ?_
  rintro e w2 ⟨rfl, hb2⟩
  have hd0 := cell_of hb2 hc0
  have hd1 := cell_of hb2 hc1
  go_wp2_with fail
  refine (HA2.out _ (bw_trans (bw_trans hb0 hb1) hb2) hd0 hd1).mono ?_
  rintro e w3 ⟨rfl, hb3⟩
  have he0 := cell_of hb3 hd0
  have he1 := cell_of hb3 hd1
  go_wp2_with fail
  refine (HMY.out _ (bw_trans (bw_trans (bw_trans hb0 hb1) hb2) hb3)).mono ?_
  rintro e w4 ⟨rfl, hb4⟩
  have hf0 := cell_of hb4 he0
  have hf1 := cell_of hb4 he1
  have hbx := bw_trans (bw_trans (bw_trans (bw_trans hb0 hb1) hb2) hb3) hb4
  clear hb0 hb1 hb2 hb3 hb4 hc0 hc1 hd0 hd1 he0 he1 HO HPL HA2 HMY
  go_wp2_with fail
  go_loopg [1, 8, 39] l (fun gh a s x wr => ∃ (i : Nat) (A1 : Option Addr) (c1 : Nat), i ≤ l ∧ gh = l - i ∧ x = .int .i64 (i : Int) ∧ s = .int .i64 ((smS LN i : Nat) : Int) ∧ a = .slice A1 n c1 ∧ Hid (SlI wr A1 n (atS ps pls i)) ∧ Hid (okS FN i = true) ∧ Below w.heap.size w wr ∧ wr.cell? ⟨w.heap.size, 0, none⟩ = some (.slice A n c) ∧ wr.cell? ⟨w.heap.size, 1, none⟩ = some (.slice B m d))
  case atStart => exact ⟨0, P, e, by omega, by omega, rfl, rfl, rfl, Lib.hid (HPW.out _ hbx), Lib.hid rfl, hbx, hf0, hf1⟩
  case round =>
    clear hbx hf0 hf1
    obtain ⟨i, A1, c1, hi, rfl, rfl, rfl, rfl, hat, hok, hbr, hx0, hx1⟩ := hrel
    by_cases hlt : i < l
    · obtain ⟨b, off, rfl, hbl, A', c', hc, hs, hle⟩ := (HQ0.out _ hbr).get hlt
      have hpi := HALL.out i (by rw [HLL.out]; exact hlt)
      have hxl : (pls.getD i []).length = n := (pl_at hpi).1
      rw [hxl] at hc hs
      have hpa := HAT.out i (by rw [HLL.out]; exact hi)
      have HR1 := Lib.hid (HRE.out A1 c1 _ wr hbr hat.out hpa)
      have hkw := HKW.out _ hpi
      have HKY := Lib.hid (fun W (hW : Below wr.heap.size wr W) => key_any A' n c' (pls.getD i []) W (hs.below hW) ⟨n1, n4⟩)
      have HH1 := Lib.hid (fun vs => HHA.out (atS ps pls i) vs (pls.getD i []) hpa hpi)
      have HA1 := Lib.hid (fun vs j hj z => HAA.out (atS ps pls i) vs hpa j hj z)
      have HFN := Lib.hid (HFN0.out i)
      have HLE := Lib.hid (HLE0.out i)
      have hs0 := HSM.out i hi
      have hl0 := HLN.out i hlt
      have HS1 := Lib.hid (show smS LN (i + 1) = smS LN i + LN i from rfl)
      have HNX := Lib.hid (show atS ps pls (i + 1) = pls.getD i [] from rfl)
      have HSN := Lib.hid hs
      have hil : (i : Int) < (l : Int) := by omega
      clear hpi hxl hpa hat HRE HAT HALL HLN HSM hs HKW HHA HAA HFN0 HLE0
      obtain ⟨xs, hxs⟩ : ∃ xs, pls.getD i [] = xs := ⟨_, rfl⟩
      rw [hxs] at hkw HKY HH1 HFN HLE HNX HSN
      clear hxs
      obtain ⟨all, hall⟩ : ∃ all, TR (atS ps pls i) = all := ⟨_, rfl⟩
      rw [hall] at HR1 HH1 HA1 HFN HLE
      clear hall
      obtain ⟨ln, hln⟩ : ∃ ln, LN i = ln := ⟨_, rfl⟩
      rw [hln] at hl0 HS1 HLE
      clear hln
      go_wp2_with fail
      refine HR1.out.mono ?_
      rintro e w5 ⟨vs, rfl, -, hmap, hown, hb5⟩
      have HMP := Lib.hid hmap
      have HOW := Lib.hid hown
      have hxa := cell_of hb5 hx0
      have hxb := cell_of hb5 hx1
      clear hmap hown HR1 hx0 hx1
      go_wp2_with fail
      refine (HKY.out _ hb5).mono ?_
      rintro e w6 ⟨rfl, hb6⟩
      have HMQ := Lib.hid (HMP.out.kept (grown_of_below hb6 none) (show some (wr.heap.size + 1) ≠ none by simp))
      have HH2 := Lib.hid (HH1.out vs)
      have HA2 := Lib.hid (HA1.out vs)
      have hya := cell_of hb6 hxa
      have hyb := cell_of hb6 hxb
      have hbb := bw_trans hb5 hb6
      have hbw := bw_trans hbr hbb
      have HO6 := Lib.hid (fun j hj => (HOW.out j hj).below hb6)
      clear HMP HH1 HA1 HKY hxa hxb hb5 hb6 HOW
      cases hX : hasN all xs
      · obtain ⟨rfl, rfl⟩ := H3.out (ok_stop (by rw [HFN.out]; exact hX) (by rw [HLL.out]; exact hlt))
        rw [hX] at HH2
        clear H3 H0 hX HA2 HO6 HLE
        go_wp2_with (at_lookup; refine wpList_lookup_own_ok _ rfl _ _ 68 rfl 71 22 keyLaw Try.underlying68 heldR (zeroI _) (.held (.slice none 0 0)) [] rfl (wr.heap.size + 1) _ _ rfl HMQ.out _ _ rfl (key_of hkw) ?_; intro v pz hv; rw [HH2.out])
        go_ret2
        exact ⟨rfl, hbw⟩
      obtain ⟨J, hfd, hJ, hJq⟩ := fd_yes hX
      have HOK : Hid (okS FN (i + 1) = true) := ok_step hok.out (by rw [HFN.out]; exact hX)
      rw [hX] at HH2
      rw [hfd, Int.toNat_natCast] at HLE
      have hat := HA2.out J hJ
      rw [hJq] at hat
      have HAJ := Lib.hid hat
      have HVJ := Lib.hid (HO6.out J hJ)
      obtain ⟨pv, hpv⟩ : ∃ pv, vs.getD J undef = pv := ⟨_, rfl⟩
      rw [hpv] at HAJ HVJ
      obtain ⟨Av, cv, ev⟩ := HVJ.out.form
      rw [← HLE.out] at ev
      subst ev
      clear hat hX hfd HFN HLE hJq H3 H0 hok HA2 HO6 hpv HVJ hJ
      go_wp2_with (at_lookup; refine wpList_lookup_own_ok _ rfl _ _ 68 rfl 71 22 keyLaw Try.underlying68 heldR (zeroI _) (.held (.slice none 0 0)) [] rfl (wr.heap.size + 1) _ _ rfl HMQ.out _ _ rfl (key_of hkw) ?_; intro v pz hv; rw [HH2.out]; rw [HAJ.out] at hv; obtain rfl := held_eq hv; clear hv)
      go_roundg (l - (i + 1))
      case rel => exact ⟨i + 1, A', c', by omega, rfl, by go_num, by rw [HS1.out]; go_num, rfl, by rw [HNX.out]; exact Lib.hid (HSN.out.below hbb), HOK, hbw, hya, hyb⟩
      case measure => omega
    · have hil : i = l := by omega
      have hii : ¬ ((i : Int) < (l : Int)) := by omega
      obtain ⟨rfl, e2⟩ := H0.out (by rw [HLL.out, ← hil]; exact hok.out)
      have HE := Lib.hid (show ((smS LN i : Nat) : Int) = V by rw [e2, HLL.out, hil])
      clear e2 hil HRE HAT HALL HLN HSM HKW HHA HAA HFN0 HLE0 H3 H0
      go_wp2
      go_ret2
      exact ⟨by rw [← HE.out]; rfl, hbr⟩

set_option maxRecDepth 100000 in
set_option maxHeartbeats 6400000 in
theorem law_ShowAll (a_aX : Option Addr) (l_aX c_aX : Nat) (xs_aX : List Int) (b_aX : Option Addr) (m_aX d_aX : Nat) (bs_aX : List BrE) (a_aFrom : Option Addr) (l_aFrom c_aFrom : Nat) (xs_aFrom : List Int) (a_aWanted : Option Addr) (l_aWanted c_aWanted : Nat) (xs_aWanted : List (List Int)) (w : World) (hl_aX : l_aX ≤ 9223372036854775807) (hm_aX : m_aX ≤ 9223372036854775807) (H_aX : SlI w a_aX l_aX xs_aX) (HB_aX : SlBr w b_aX m_aX bs_aX) (hm_aFrom : l_aFrom ≤ 9223372036854775807) (H_aFrom : SlI w a_aFrom l_aFrom xs_aFrom) (hm_aWanted : l_aWanted ≤ 9223372036854775807) (H_aWanted : SlSB 9223372036854775807 w a_aWanted l_aWanted xs_aWanted) :
    Calls Try.prog 3 #[.agg #[.slice a_aX l_aX c_aX, .slice b_aX m_aX d_aX], .slice a_aFrom l_aFrom c_aFrom, .slice a_aWanted l_aWanted c_aWanted] w fun e w' => e = .returned (.bool true) ∧ Below w.heap.size w w' := by
  by_cases hn_aFrom : l_aFrom ≤ 1048576
  case neg =>
    clear H_aX HB_aX H_aFrom H_aWanted
    go_enter Try.func3, Try.ntmps3
    go_wp2
    go_ret
    exact ⟨rfl, bw_alloc (Below.refl _ _) _⟩
  have HSZ := Lib.hid (fun W => szSlide_any a_aX l_aX c_aX b_aX m_aX d_aX 1048576 W hl_aX hm_aX ⟨by omega, by omega⟩)
  have hzl : szD 1048576 l_aX m_aX ≤ 1048576 := (szD_le (by omega)).1
  have hsz := @szD_ok 1048576 l_aX m_aX (by omega)
  generalize szD 1048576 l_aX m_aX = Z at *
  by_cases hz : Z < 0
  case pos =>
    clear H_aX HB_aX H_aFrom H_aWanted hsz
    go_enter Try.func3, Try.ntmps3
    go_wp2_with fail
    refine (HSZ.out _).mono ?_
    rintro e w0 ⟨rfl, hB0⟩
    go_wp2
    go_ret
    exact ⟨rfl, bw_trans (bw_alloc (Below.refl _ _) _) hB0⟩
  obtain ⟨hn_aX, hq_aX⟩ := hsz hz
  clear hsz
  have hS : ∀ (A_aX : Option Addr) (C_aX : Nat) (B_aX : Option Addr) (D_aX : Nat) (A_aFrom : Option Addr) (C_aFrom : Nat) (A_aWanted : Option Addr) (C_aWanted : Nat) (W : World), SlI W A_aX l_aX xs_aX → SlBr W B_aX m_aX bs_aX → SlI W A_aFrom l_aFrom xs_aFrom → SlSS W A_aWanted l_aWanted xs_aWanted → l_aWanted ≤ 1048576 → Calls Try.prog 13 #[.agg #[.slice A_aX l_aX C_aX, .slice B_aX m_aX D_aX], .slice A_aFrom l_aFrom C_aFrom, .slice A_aWanted l_aWanted C_aWanted] W (fun e w' => e = .returned (.tuple #[.int .i64 ((shV xs_aX l_aX bs_aX m_aX xs_aFrom xs_aWanted)), .int .i64 ((shC xs_aX l_aX bs_aX m_aX xs_aFrom xs_aWanted))]) ∧ Below W.heap.size W w') := fun A_aX C_aX B_aX D_aX A_aFrom C_aFrom A_aWanted C_aWanted W K_aX KB_aX K_aFrom K_aWanted hK_aWanted => sShowAll_any A_aX l_aX C_aX xs_aX B_aX m_aX D_aX bs_aX A_aFrom l_aFrom C_aFrom xs_aFrom A_aWanted l_aWanted C_aWanted xs_aWanted W K_aX KB_aX K_aFrom K_aWanted hn_aX hq_aX hn_aFrom hK_aWanted
  have hI : ∀ (A_aX : Option Addr) (C_aX : Nat) (B_aX : Option Addr) (D_aX : Nat) (A_aFrom : Option Addr) (C_aFrom : Nat) (A_aWanted : Option Addr) (C_aWanted : Nat) (W : World), SlI W A_aX l_aX xs_aX → SlBr W B_aX m_aX bs_aX → SlI W A_aFrom l_aFrom xs_aFrom → SlSS W A_aWanted l_aWanted xs_aWanted → l_aWanted ≤ 1048576 → Calls Try.prog 17 #[.agg #[.slice A_aX l_aX C_aX, .slice B_aX m_aX D_aX], .slice A_aFrom l_aFrom C_aFrom, .slice A_aWanted l_aWanted C_aWanted] W (fun e w' => e = .returned (.tuple #[.int .i64 ((shV xs_aX l_aX bs_aX m_aX xs_aFrom xs_aWanted)), .int .i64 ((shC xs_aX l_aX bs_aX m_aX xs_aFrom xs_aWanted))]) ∧ Below W.heap.size W w') := fun A_aX C_aX B_aX D_aX A_aFrom C_aFrom A_aWanted C_aWanted W K_aX KB_aX K_aFrom K_aWanted hK_aWanted => iShowAll_any A_aX l_aX C_aX xs_aX B_aX m_aX D_aX bs_aX A_aFrom l_aFrom C_aFrom xs_aFrom A_aWanted l_aWanted C_aWanted xs_aWanted W K_aX KB_aX K_aFrom K_aWanted hn_aX hq_aX hn_aFrom hK_aWanted
  generalize (shV xs_aX l_aX bs_aX m_aX xs_aFrom xs_aWanted) = K0 at *
  generalize (shC xs_aX l_aX bs_aX m_aX xs_aFrom xs_aWanted) = K1 at *
  have HS := Lib.hid hS
  have HI := Lib.hid hI
  clear hS hI
  have HT := Lib.hid (fun W (hW : Below w.heap.size w W) => toSlide_any a_aX l_aX c_aX xs_aX b_aX m_aX d_aX bs_aX W (H_aX.below hW) (HB_aX.below hW) hn_aX hq_aX)
  clear H_aX HB_aX
  go_enter Try.func3, Try.ntmps3
  go_wp2_with fail
  refine (HSZ.out _).mono ?_
  rintro e w1 ⟨rfl, hb⟩
  clear HSZ
  have hX0 : w1.cell? ⟨w.heap.size, 0, none⟩ = some (.slice a_aX l_aX c_aX) := cell_of hb (by go_simp)
  have hX1 : w1.cell? ⟨w.heap.size, 1, none⟩ = some (.slice b_aX m_aX d_aX) := cell_of hb (by go_simp)
  have hB := bw_trans (bw_alloc (Below.refl _ _) _) hb
  have ZB : w.heap.size < w1.heap.size := World.block_lt_of_cell? w1 _ hX0
  clear hb
  go_wp2_with fail
  refine (szSS_any a_aWanted l_aWanted c_aWanted xs_aWanted Z _ (H_aWanted.below hB) hm_aWanted ⟨by omega, hzl⟩).mono ?_
  rintro e w2 ⟨Z2, rfl, hz2, hzl2, hb⟩
  replace hX0 := cell_of hb hX0
  replace hX1 := cell_of hb hX1
  replace ZB := Nat.lt_of_lt_of_le ZB hb.size
  replace hB := bw_trans hB hb
  clear hb
  by_cases hz3 : Z2 < 0
  case pos =>
    clear hz2
    go_wp2
    go_ret
    exact ⟨rfl, hB⟩
  obtain ⟨hn_aWanted, hall_aWanted⟩ := hz2 hz3
  have HS_aWanted := Lib.hid (H_aWanted.small hall_aWanted)
  clear hz2 hall_aWanted H_aWanted
  go_wp2_with fail
  refine (HT.out _ hB).mono ?_
  rintro e w3 ⟨gs1, gs2, rfl, Ns1, Ns2, Ns3, Os, Xs, Fs, hb⟩
  replace hX0 := cell_of hb hX0
  replace hX1 := cell_of hb hX1
  replace ZB := Nat.lt_of_lt_of_le ZB hb.size
  replace hB := bw_trans hB hb
  clear hb
  replace Fs := Lib.hid Fs
  have Ss : SlI w3 (some ⟨gs1, 0, none⟩) l_aX xs_aX := by (have h := Os.sl; rw [← h.1] at h; exact h.2)
  go_wp2_with fail
  refine (toInts_any a_aFrom l_aFrom c_aFrom xs_aFrom _ (H_aFrom.below hB) hn_aFrom).mono ?_
  rintro e w4 ⟨rfl, he⟩
  have hb : Below w3.heap.size w3 w4 := by rw [he]; exact bw_alloc (Below.refl _ _) _
  have Os_aFrom : OwnI w4 w3.heap.size (.slice (some ⟨w3.heap.size, 0, none⟩) l_aFrom l_aFrom) xs_aFrom := by rw [he]; exact OwnI.made H_aFrom.length hn_aFrom
  have Zs_aFrom : w3.heap.size < w4.heap.size := by rw [he]; simp
  clear he
  replace Fs : Hid _ := fun j => (hb.frozen (p := ⟨gs2, j, none⟩) Ns3).trans (Fs.out j)
  replace Ss := Ss.below hb
  replace Os := Os.below hb
  replace Xs := Xs.below hb
  replace hX0 := cell_of hb hX0
  replace hX1 := cell_of hb hX1
  replace ZB := Nat.lt_of_lt_of_le ZB hb.size
  replace Ns3 := Nat.lt_of_lt_of_le Ns3 hb.size
  replace hB := bw_trans hB hb
  clear hb
  go_wp2_with fail
  refine (toSS_any a_aWanted l_aWanted c_aWanted xs_aWanted _ (HS_aWanted.out.below hB) hn_aWanted).mono ?_
  rintro e w5 ⟨gMs_aWanted, rfl, Ms_aWanted, hb⟩
  replace Fs : Hid _ := fun j => (hb.frozen (p := ⟨gs2, j, none⟩) Ns3).trans (Fs.out j)
  replace Ss := Ss.below hb
  replace Os := Os.below hb
  replace Xs := Xs.below hb
  replace Os_aFrom := Os_aFrom.below hb
  replace hX0 := cell_of hb hX0
  replace hX1 := cell_of hb hX1
  replace ZB := Nat.lt_of_lt_of_le ZB hb.size
  replace Ns3 := Nat.lt_of_lt_of_le Ns3 hb.size
  replace Zs_aFrom := Nat.lt_of_lt_of_le Zs_aFrom hb.size
  replace hB := bw_trans hB hb
  clear hb
  go_wp2_with fail
  refine (HS.out (some ⟨gs1, 0, none⟩) l_aX (some ⟨gs2, 0, none⟩) m_aX (some ⟨w3.heap.size, 0, none⟩) l_aFrom (some ⟨gMs_aWanted, 0, none⟩) l_aWanted _ Ss Xs (by have h := Os_aFrom.sl; rw [← h.1] at h; exact h.2) Ms_aWanted hn_aWanted).mono ?_
  rintro e w6 ⟨rfl, hb⟩
  replace Fs : Hid _ := fun j => (hb.frozen (p := ⟨gs2, j, none⟩) Ns3).trans (Fs.out j)
  replace Ss := Ss.below hb
  replace Os := Os.below hb
  replace Xs := Xs.below hb
  replace Os_aFrom := Os_aFrom.below hb
  replace Ms_aWanted := Ms_aWanted.below hb
  replace hX0 := cell_of hb hX0
  replace hX1 := cell_of hb hX1
  replace ZB := Nat.lt_of_lt_of_le ZB hb.size
  replace Ns3 := Nat.lt_of_lt_of_le Ns3 hb.size
  replace Zs_aFrom := Nat.lt_of_lt_of_le Zs_aFrom hb.size
  replace hB := bw_trans hB hb
  clear hb
  clear Ss Os Xs Fs Ns3
  clear Os_aFrom Zs_aFrom
  clear Ms_aWanted
  have hW := Below.refl w6.heap.size w6
  have LZB : w.heap.size < w6.heap.size := ZB
  have hBs : w.heap.size ≤ w6.heap.size := hB.size
  go_wp2_with fail
  refine (HT.out _ hB).mono ?_
  rintro e w7 ⟨gx1, gx2, rfl, Nx1, Nx2, Nx3, Ox, Xx, Fx, hb⟩
  replace hX0 := cell_of hb hX0
  replace hX1 := cell_of hb hX1
  replace ZB := Nat.lt_of_lt_of_le ZB hb.size
  replace hB := bw_trans hB hb
  replace hW := bw_trans hW hb
  clear hb
  replace Fx := Lib.hid Fx
  have Sx : SlI w7 (some ⟨gx1, 0, none⟩) l_aX xs_aX := by (have h := Ox.sl; rw [← h.1] at h; exact h.2)
  go_wp2_with fail
  have hb : Below w7.heap.size w7 (w7.alloc (.cells #[.slice (some ⟨gx1, 0, none⟩) l_aX l_aX, .slice (some ⟨gx2, 0, none⟩) m_aX m_aX] 33)) := bw_alloc (Below.refl _ _) _
  have hY0 : (w7.alloc (.cells #[.slice (some ⟨gx1, 0, none⟩) l_aX l_aX, .slice (some ⟨gx2, 0, none⟩) m_aX m_aX] 33)).cell? ⟨w7.heap.size, 0, none⟩ = some (.slice (some ⟨gx1, 0, none⟩) l_aX l_aX) := by go_simp
  have hY1 : (w7.alloc (.cells #[.slice (some ⟨gx1, 0, none⟩) l_aX l_aX, .slice (some ⟨gx2, 0, none⟩) m_aX m_aX] 33)).cell? ⟨w7.heap.size, 1, none⟩ = some (.slice (some ⟨gx2, 0, none⟩) m_aX m_aX) := by go_simp
  generalize (w7.alloc (.cells #[.slice (some ⟨gx1, 0, none⟩) l_aX l_aX, .slice (some ⟨gx2, 0, none⟩) m_aX m_aX] 33)) = w8 at hb hY0 hY1 ⊢
  replace Fx : Hid _ := fun j => (hb.frozen (p := ⟨gx2, j, none⟩) Nx3).trans (Fx.out j)
  replace Sx := Sx.below hb
  replace Ox := Ox.below hb
  replace Xx := Xx.below hb
  replace hX0 := cell_of hb hX0
  replace hX1 := cell_of hb hX1
  replace ZB := Nat.lt_of_lt_of_le ZB hb.size
  replace Nx3 := Nat.lt_of_lt_of_le Nx3 hb.size
  replace hB := bw_trans hB hb
  replace hW := bw_trans hW hb
  clear hb
  have LX : w6.heap.size ≤ gx1 := Nx1
  go_wp2_with fail
  refine (toInts_any a_aFrom l_aFrom c_aFrom xs_aFrom _ (H_aFrom.below hB) hn_aFrom).mono ?_
  rintro e w9 ⟨rfl, he⟩
  have hb : Below w8.heap.size w8 w9 := by rw [he]; exact bw_alloc (Below.refl _ _) _
  have LGX_aFrom := Lib.hid (show gx2 < w8.heap.size from Nx3)
  have Ox_aFrom : OwnI w9 w8.heap.size (.slice (some ⟨w8.heap.size, 0, none⟩) l_aFrom l_aFrom) xs_aFrom := by rw [he]; exact OwnI.made H_aFrom.length hn_aFrom
  have Zx_aFrom : w8.heap.size < w9.heap.size := by rw [he]; simp
  clear he
  replace Fx : Hid _ := fun j => (hb.frozen (p := ⟨gx2, j, none⟩) Nx3).trans (Fx.out j)
  replace Sx := Sx.below hb
  replace Ox := Ox.below hb
  replace Xx := Xx.below hb
  replace hX0 := cell_of hb hX0
  replace hX1 := cell_of hb hX1
  replace hY0 := cell_of hb hY0
  replace hY1 := cell_of hb hY1
  replace ZB := Nat.lt_of_lt_of_le ZB hb.size
  replace Nx3 := Nat.lt_of_lt_of_le Nx3 hb.size
  replace hB := bw_trans hB hb
  replace hW := bw_trans hW hb
  clear hb
  go_wp2_with fail
  refine (toSS_any a_aWanted l_aWanted c_aWanted xs_aWanted _ (HS_aWanted.out.below hB) hn_aWanted).mono ?_
  rintro e w10 ⟨gMx_aWanted, rfl, Mx_aWanted, hb⟩
  replace Fx : Hid _ := fun j => (hb.frozen (p := ⟨gx2, j, none⟩) Nx3).trans (Fx.out j)
  replace Sx := Sx.below hb
  replace Ox := Ox.below hb
  replace Xx := Xx.below hb
  replace Ox_aFrom := Ox_aFrom.below hb
  replace hX0 := cell_of hb hX0
  replace hX1 := cell_of hb hX1
  replace hY0 := cell_of hb hY0
  replace hY1 := cell_of hb hY1
  replace ZB := Nat.lt_of_lt_of_le ZB hb.size
  replace Nx3 := Nat.lt_of_lt_of_le Nx3 hb.size
  replace Zx_aFrom := Nat.lt_of_lt_of_le Zx_aFrom hb.size
  replace hB := bw_trans hB hb
  replace hW := bw_trans hW hb
  clear hb
  have BGX : gx2 < w10.heap.size := Nx3
  have BGhW := Lib.hid (show w6.heap.size ≤ w10.heap.size from hW.size)
  have BGhB := Lib.hid (show w.heap.size ≤ w10.heap.size from hB.size)
  have LE_aFrom := Lib.hid (show w8.heap.size < w10.heap.size from Zx_aFrom)
  have LG_aFrom := Lib.hid (show gx2 < w8.heap.size from LGX_aFrom.out)
  go_wp2_with fail
  refine (HI.out (some ⟨gx1, 0, none⟩) l_aX (some ⟨gx2, 0, none⟩) m_aX (some ⟨w8.heap.size, 0, none⟩) l_aFrom (some ⟨gMx_aWanted, 0, none⟩) l_aWanted _ Sx Xx (by have h := Ox_aFrom.sl; rw [← h.1] at h; exact h.2) Mx_aWanted hn_aWanted).mono ?_
  rintro e w11 ⟨rfl, hb⟩
  replace Fx : Hid _ := fun j => (hb.frozen (p := ⟨gx2, j, none⟩) Nx3).trans (Fx.out j)
  replace Sx := Sx.below hb
  replace Ox := Ox.below hb
  replace Xx := Xx.below hb
  replace Ox_aFrom := Ox_aFrom.below hb
  replace Mx_aWanted := Mx_aWanted.below hb
  replace hX0 := cell_of hb hX0
  replace hX1 := cell_of hb hX1
  replace hY0 := cell_of hb hY0
  replace hY1 := cell_of hb hY1
  replace ZB := Nat.lt_of_lt_of_le ZB hb.size
  replace Nx3 := Nat.lt_of_lt_of_le Nx3 hb.size
  replace Zx_aFrom := Nat.lt_of_lt_of_le Zx_aFrom hb.size
  replace hB := bw_trans hB hb
  replace hW := bw_trans hW hb
  clear hb
  go_wp2_with fail
  have hT2 := Lib.hid (fun W (hW2 : Below w11.heap.size w11 W) => HT.out W (bw_trans hB hW2))
  have hE2 := Lib.hid (fun (A' : Option Addr) (B' : Option Addr) W (hW2 : Below w11.heap.size w11 W) (h1 : SlI W A' l_aX xs_aX) (h2 : SlBr W B' m_aX bs_aX) => eqSlide_any (some ⟨gx1, 0, none⟩) l_aX l_aX xs_aX (some ⟨gx2, 0, none⟩) m_aX m_aX bs_aX A' l_aX B' m_aX W (Sx.below hW2) (Xx.below hW2) h1 h2 hn_aX hq_aX)
  go_region_held3 (fun w' => w'.cell? ⟨w.heap.size, 0, none⟩ = some (.slice a_aX l_aX c_aX) ∧ w'.cell? ⟨w.heap.size, 1, none⟩ = some (.slice b_aX m_aX d_aX) ∧ w'.cell? ⟨w7.heap.size, 0, none⟩ = some (.slice (some ⟨gx1, 0, none⟩) l_aX l_aX) ∧ w'.cell? ⟨w7.heap.size, 1, none⟩ = some (.slice (some ⟨gx2, 0, none⟩) m_aX m_aX))
    (((try dsimp only); (repeat' apply And.intro) <;> first | assumption | go_simp))
    (first | (go_at_call 14; refine (hT2.out _ (Below.refl _ _).drew).mono ?_; rintro e wa ⟨gq1, gq2, rfl, _, _, _, Oq, Xq, _, hba0⟩; (have hba : Below w11.heap.size w11 wa := bw_trans (Below.refl _ _).drew hba0); (have Sq : SlI wa (some ⟨gq1, 0, none⟩) l_aX xs_aX := by (have h := Oq.sl; rw [← h.1] at h; exact h.2)); (have hv0 := cell_of hba hX0); (have hv1 := cell_of hba hX1); (have hv2 := cell_of hba hY0); (have hv3 := cell_of hba hY1)) | (go_at_call 18; refine (hE2.out _ _ _ hba Sq Xq).mono ?_; rintro e w12 ⟨rfl, hbb⟩; (have hb : Below w11.heap.size w11 w12 := bw_trans hba hbb); (have hu0 := cell_of hbb hv0); (have hu1 := cell_of hbb hv1); (have hu2 := cell_of hbb hv2); (have hu3 := cell_of hbb hv3)))
  clear hT2 hE2 Oq Xq Sq hv0 hv1 hv2 hv3 hu0 hu1 hu2 hu3 hba hba0 hbb
  replace Fx : Hid _ := fun j => (hb.frozen (p := ⟨gx2, j, none⟩) Nx3).trans (Fx.out j)
  replace Sx := Sx.below hb
  replace Ox := Ox.below hb
  replace Xx := Xx.below hb
  replace Ox_aFrom := Ox_aFrom.below hb
  replace Mx_aWanted := Mx_aWanted.below hb
  replace hX0 := cell_of hb hX0
  replace hX1 := cell_of hb hX1
  replace hY0 := cell_of hb hY0
  replace hY1 := cell_of hb hY1
  replace ZB := Nat.lt_of_lt_of_le ZB hb.size
  replace Nx3 := Nat.lt_of_lt_of_le Nx3 hb.size
  replace Zx_aFrom := Nat.lt_of_lt_of_le Zx_aFrom hb.size
  replace hB := bw_trans hB hb
  replace hW := bw_trans hW hb
  clear hb
  go_wp2_with fail
  refine (toInts_any a_aFrom l_aFrom c_aFrom xs_aFrom _ (H_aFrom.below hB) hn_aFrom).mono ?_
  rintro e w13 ⟨rfl, he⟩
  have hb : Below w12.heap.size w12 w13 := by rw [he]; exact bw_alloc (Below.refl _ _) _
  have Oq_aFrom : OwnI w13 w12.heap.size (.slice (some ⟨w12.heap.size, 0, none⟩) l_aFrom l_aFrom) xs_aFrom := by rw [he]; exact OwnI.made H_aFrom.length hn_aFrom
  have Zq_aFrom : w12.heap.size < w13.heap.size := by rw [he]; simp
  clear he
  replace Fx : Hid _ := fun j => (hb.frozen (p := ⟨gx2, j, none⟩) Nx3).trans (Fx.out j)
  replace Sx := Sx.below hb
  replace Ox := Ox.below hb
  replace Xx := Xx.below hb
  replace Ox_aFrom := Ox_aFrom.below hb
  replace Mx_aWanted := Mx_aWanted.below hb
  replace hX0 := cell_of hb hX0
  replace hX1 := cell_of hb hX1
  replace hY0 := cell_of hb hY0
  replace hY1 := cell_of hb hY1
  replace ZB := Nat.lt_of_lt_of_le ZB hb.size
  replace Nx3 := Nat.lt_of_lt_of_le Nx3 hb.size
  replace Zx_aFrom := Nat.lt_of_lt_of_le Zx_aFrom hb.size
  replace hB := bw_trans hB hb
  replace hW := bw_trans hW hb
  clear hb
  go_wp2_with fail
  refine (eqInts_any _ _ l_aFrom l_aFrom l_aFrom _ _ (by have h := Ox_aFrom.sl; rw [← h.1] at h; exact h.2) (by have h := Oq_aFrom.sl; rw [← h.1] at h; exact h.2) hn_aFrom).mono ?_
  rintro e w14 ⟨rfl, hb⟩
  replace Fx : Hid _ := fun j => (hb.frozen (p := ⟨gx2, j, none⟩) Nx3).trans (Fx.out j)
  replace Sx := Sx.below hb
  replace Ox := Ox.below hb
  replace Xx := Xx.below hb
  replace Ox_aFrom := Ox_aFrom.below hb
  replace Mx_aWanted := Mx_aWanted.below hb
  replace Oq_aFrom := Oq_aFrom.below hb
  replace hX0 := cell_of hb hX0
  replace hX1 := cell_of hb hX1
  replace hY0 := cell_of hb hY0
  replace hY1 := cell_of hb hY1
  replace ZB := Nat.lt_of_lt_of_le ZB hb.size
  replace Nx3 := Nat.lt_of_lt_of_le Nx3 hb.size
  replace Zx_aFrom := Nat.lt_of_lt_of_le Zx_aFrom hb.size
  replace Zq_aFrom := Nat.lt_of_lt_of_le Zq_aFrom hb.size
  replace hB := bw_trans hB hb
  replace hW := bw_trans hW hb
  clear hb
  clear Oq_aFrom Zq_aFrom
  go_wp2_with fail
  refine (toSS_any a_aWanted l_aWanted c_aWanted xs_aWanted _ (HS_aWanted.out.below hB) hn_aWanted).mono ?_
  rintro e w15 ⟨gMq_aWanted, rfl, Mq_aWanted, hb⟩
  replace Fx : Hid _ := fun j => (hb.frozen (p := ⟨gx2, j, none⟩) Nx3).trans (Fx.out j)
  replace Sx := Sx.below hb
  replace Ox := Ox.below hb
  replace Xx := Xx.below hb
  replace Ox_aFrom := Ox_aFrom.below hb
  replace Mx_aWanted := Mx_aWanted.below hb
  replace hX0 := cell_of hb hX0
  replace hX1 := cell_of hb hX1
  replace hY0 := cell_of hb hY0
  replace hY1 := cell_of hb hY1
  replace ZB := Nat.lt_of_lt_of_le ZB hb.size
  replace Nx3 := Nat.lt_of_lt_of_le Nx3 hb.size
  replace Zx_aFrom := Nat.lt_of_lt_of_le Zx_aFrom hb.size
  replace hB := bw_trans hB hb
  replace hW := bw_trans hW hb
  clear hb
  go_wp2_with fail
  refine (eqSS_any _ _ l_aWanted l_aWanted l_aWanted xs_aWanted _ Mx_aWanted Mq_aWanted hn_aWanted).mono ?_
  rintro e w16 ⟨rfl, hb⟩
  replace Fx : Hid _ := fun j => (hb.frozen (p := ⟨gx2, j, none⟩) Nx3).trans (Fx.out j)
  replace Sx := Sx.below hb
  replace Ox := Ox.below hb
  replace Xx := Xx.below hb
  replace Ox_aFrom := Ox_aFrom.below hb
  replace Mx_aWanted := Mx_aWanted.below hb
  replace Mq_aWanted := Mq_aWanted.below hb
  replace hX0 := cell_of hb hX0
  replace hX1 := cell_of hb hX1
  replace hY0 := cell_of hb hY0
  replace hY1 := cell_of hb hY1
  replace ZB := Nat.lt_of_lt_of_le ZB hb.size
  replace Nx3 := Nat.lt_of_lt_of_le Nx3 hb.size
  replace Zx_aFrom := Nat.lt_of_lt_of_le Zx_aFrom hb.size
  replace hB := bw_trans hB hb
  replace hW := bw_trans hW hb
  clear hb
  clear Mq_aWanted
  go_wp2
  go_ret
  exact ⟨rfl, hB⟩
end Go.Proofs.Yticohpimkicphaa
