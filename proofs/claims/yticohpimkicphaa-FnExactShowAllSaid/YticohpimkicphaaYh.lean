/-
  MovesFrom and MoveGlass: in the program and in the reference.
-/
import Derived.Test.YticohpimkicphaaYg
import Derived.Test.YticohpimkicphaaMk
namespace Go.Proofs.Yticohpimkicphaa
open Go.RowKit

theorem ss_one {w : World} {P : Option Addr} {k e : Nat} {ps : List Int} (H : SlI w P k ps) (hk : k ≤ 1048576) : SlSS (w.alloc (.cells #[.slice P k e] 22)) (some ⟨w.heap.size, 0, none⟩) 1 [ps] := by
  have hl := H.length
  refine ⟨rfl, fun _ => ⟨w.heap.size, 0, rfl, by simp, fun j hj => ?_⟩⟩
  have hj0 : j = 0 := by omega
  subst hj0
  refine ⟨P, e, ?_, ?_, ?_⟩
  · rw [show ([ps].getD 0 []).length = k from hl]; go_simp
  · rw [show ([ps].getD 0 []).length = k from hl, show [ps].getD 0 [] = ps from rfl]; exact H.below (bw_alloc (Below.refl _ _) _)
  · rw [show ([ps].getD 0 []).length = k from hl]; exact hk
theorem sc_one {ss : List Int} {n : Nat} {bs : List BrE} {m : Nat} {ps : List Int} {mv : Int} (hin : inB mv 0 (2 * (n : Int) - 1) = true) : scC ss n bs m [ps] mv = (if vsB ss n bs m then (if plB ss ps n then (if myB bs ps then 0 else 9) else 2) else 1) := by
  unfold scC
  rw [hin]
  cases vsB ss n bs m <;> cases h1 : plB ss ps n <;> cases h2 : myB bs ps <;> simp [h1, h2]
theorem sc_out {ss : List Int} {n : Nat} {bs : List BrE} {m : Nat} {ps : List Int} {mv : Int} (hin : inB mv 0 (2 * (n : Int) - 1) = false) : scC ss n bs m [ps] mv = (if vsB ss n bs m then 2 else 1) := by
  unfold scC
  rw [hin]
  cases vsB ss n bs m <;> simp

def mfL (ss : List Int) (n : Nat) (bs : List BrE) (m : Nat) (ps : List Int) : List Int := if scC ss n bs m [ps] 0 = 0 then selL (mvOk ss n bs ps) (2 * n) else []
theorem mf_yes {ss : List Int} {n : Nat} {bs : List BrE} {m : Nat} {ps : List Int} (h : scC ss n bs m [ps] 0 = 0) : mfL ss n bs m ps = selL (mvOk ss n bs ps) (2 * n) := if_pos h
theorem mf_no {ss : List Int} {n : Nat} {bs : List BrE} {m : Nat} {ps : List Int} (h : ¬ scC ss n bs m [ps] 0 = 0) : mfL ss n bs m ps = [] := if_neg h
theorem mf_len {ss : List Int} {n : Nat} {bs : List BrE} {m : Nat} {ps : List Int} (hl : ss.length = n) (hb : bs.length = m) : (mfL ss n bs m ps).length ≤ 1048576 := by
  by_cases h : scC ss n bs m [ps] 0 = 0
  · have h1 := (vs_at hl hb (sc_ok h).1).2.1
    rw [mf_yes h]
    have := sel_len (mvOk ss n bs ps) (2 * n)
    omega
  · rw [mf_no h]; simp
def mgC (ss : List Int) (n : Nat) (bs : List BrE) (m : Nat) (ps : List Int) (mv : Int) : Int := if scC ss n bs m [ps] mv = 0 then (if mvOk ss n bs ps mv.toNat then 0 else 6) else scC ss n bs m [ps] mv
def mgL (ss : List Int) (n : Nat) (bs : List BrE) (m : Nat) (ps : List Int) (mv : Int) : List Int := if scC ss n bs m [ps] mv = 0 then (if mvOk ss n bs ps mv.toNat then mvL ps mv.toNat else []) else []
theorem mg_code {ss : List Int} {n : Nat} {bs : List BrE} {m : Nat} {ps : List Int} {mv : Int} (h : ¬ scC ss n bs m [ps] mv = 0) : mgC ss n bs m ps mv = scC ss n bs m [ps] mv ∧ mgL ss n bs m ps mv = [] := ⟨if_neg h, if_neg h⟩
theorem mg_no {ss : List Int} {n : Nat} {bs : List BrE} {m : Nat} {ps : List Int} {mv : Nat} (h : scC ss n bs m [ps] mv = 0) (h2 : mvOk ss n bs ps mv = false) : mgC ss n bs m ps mv = 6 ∧ mgL ss n bs m ps mv = [] := by
  unfold mgC mgL; rw [if_pos h, if_pos h, Int.toNat_natCast, h2]; exact ⟨rfl, rfl⟩
theorem mg_yes {ss : List Int} {n : Nat} {bs : List BrE} {m : Nat} {ps : List Int} {mv : Nat} (h : scC ss n bs m [ps] mv = 0) (h2 : mvOk ss n bs ps mv = true) : mgC ss n bs m ps mv = 0 ∧ mgL ss n bs m ps mv = mvL ps mv := by
  unfold mgC mgL; rw [if_pos h, if_pos h, Int.toNat_natCast, h2]; exact ⟨rfl, rfl⟩
theorem mg_len {ss : List Int} {n : Nat} {bs : List BrE} {m : Nat} {ps : List Int} {mv : Int} (hp : ps.length ≤ 1048576) : (mgL ss n bs m ps mv).length ≤ 1048576 := by
  unfold mgL; split
  · split
    · rw [mv_len]; exact hp
    · simp
  · simp
/-- What a code that is nought says. -/
theorem sc_facts {ss : List Int} {n : Nat} {bs : List BrE} {m : Nat} {ps : List Int} {mv : Int} (hl : ss.length = n) (hb : bs.length = m) (h : scC ss n bs m [ps] mv = 0) :
    1 ≤ n ∧ n ≤ 4 ∧ m ≤ 8 ∧ stBd ss n ∧ brBd bs m n ∧ plB ss ps n = true ∧ ps.length = n ∧ 0 ≤ mv ∧ mv < 2 * n := by
  obtain ⟨h1, h2, h3⟩ := sc_ok h
  obtain ⟨a, b, c, d, e⟩ := vs_at hl hb h1
  have h4 := (h2 ps (by simp)).1
  have h5 := inB_true.1 h3
  exact ⟨a, b, d, c, e, h4, (pl_at h4).1, h5.1, by omega⟩

set_option maxRecDepth 100000 in
set_option maxHeartbeats 3200000 in
theorem iMovesFrom_any (A : Option Addr) (n c : Nat) (ss : List Int) (B : Option Addr) (m d : Nat) (bs : List BrE) (P : Option Addr) (k e : Nat) (ps : List Int) (w : World) (HS : SlI w A n ss) (HB : SlBr w B m bs) (HP : SlI w P k ps) (hn : n ≤ 1048576) (hm : m ≤ 1048576) (hk : k ≤ 1048576) :
    Calls Try.prog 33 #[.agg #[.slice A n c, .slice B m d], .slice P k e] w (GivesIC (mfL ss n bs m ps) (scC ss n bs m [ps] 0) w) := by
  have hb0 : Below w.heap.size w ((w.alloc (.cells #[.slice A n c, .slice B m d] 33)).alloc (.cells #[.slice P k e] 22)) := by (repeat (first | exact Below.refl _ _ | refine bw_drew ?_ | refine bw_drewN ?_ _ | refine bw_set ?_ (by simp; try omega) _ | refine bw_alloc ?_ _ | refine bw_trans ?_ (by assumption) | assumption))
  have HK := Lib.hid (slideCode_any A n c ss B m d bs 0 (some ⟨w.heap.size + 1, 0, none⟩) 1 1 [ps] _ (HS.below hb0) (HB.below hb0) (by have h := ss_one (e := e) (HP.below (bw_alloc (Below.refl _ _) (.cells #[.slice A n c, .slice B m d] 33))) hk; simpa using h) hn hm (by omega))
  by_cases hc : scC ss n bs m [ps] 0 = 0
  case neg =>
    rw [mf_no hc]
    have hce : (scC ss n bs m [ps] 0 != 0) = true := by simpa using hc
    clear HS HB HP
    generalize scC ss n bs m [ps] 0 = C at *
    go_enter Try.func33, Try.ntmps33
    go_wp2_with fail
    refine HK.out.mono ?_
    rintro e w1 ⟨rfl, hb1⟩
    go_wp2
    go_ret2
    exact ⟨_, rfl, OwnI.nil _ _, bw_trans hb0 hb1⟩
  rw [mf_yes hc]
  obtain ⟨n1, n4, m8, hst, hbd, hpl, hpn, _, _⟩ := sc_facts HS.length HB.1 hc
  rw [hc] at HK
  rw [hc]
  have hkn : k = n := by rw [← HP.length]; exact hpn
  subst hkn
  have HMV := Lib.hid (fun mv (hmv : mv < 2 * k) W (hW : Below w.heap.size w W) => moved_any A k c ss B m d bs P e ps mv W (HS.below hW) (HB.below hW) (HP.below hW) n4 m8 hst hbd hpl hmv)
  clear HS HB HP hst hbd hpl hpn hc
  generalize mvOk ss k bs ps = q at *
  go_enter Try.func33, Try.ntmps33
  go_wp2_with fail
  refine HK.out.mono ?_
  rintro e w1 ⟨rfl, hb1⟩
  have hc0 : w1.cell? ⟨w.heap.size, 0, none⟩ = some (.slice A k c) := cell_of hb1 (by go_simp)
  have hc1 : w1.cell? ⟨w.heap.size, 1, none⟩ = some (.slice B m d) := cell_of hb1 (by go_simp)
  have hbw := bw_trans hb0 hb1
  have hsz1 := hbw.size
  have hzz : w.heap.size < w1.heap.size := World.block_lt_of_cell? w1 _ hc0
  clear HK hb1
  go_wp2_with fail
  go_loopg [7, 23] (2 * k) (fun gh v x wr => ∃ j : Nat, j ≤ 2 * k ∧ gh = 2 * k - j ∧ OwnI wr w1.heap.size v (selL q j) ∧ x = .int .i64 j ∧ Below w1.heap.size w1 wr)
  case atStart => exact ⟨0, by omega, by omega, OwnI.lit w1 (Nat.le_refl _), rfl, bw_alloc (Below.refl _ _) _⟩
  case round =>
    obtain ⟨j, hj, rfl, hown, rfl, hbr⟩ := hrel
    have HO := Lib.hid hown
    have hl := sel_len q j
    have hd0 := cell_of hbr hc0
    have hd1 := cell_of hbr hc1
    clear hown
    by_cases hlt : j < 2 * k
    · have HM := Lib.hid (HMV.out j hlt _ (bw_trans hbw hbr))
      cases hq : q j
      · have HE := Lib.hid (sel_no hq)
        rw [hq] at HM
        clear hq
        go_wp2_with fail
        refine HM.out.mono ?_
        rintro e w3 ⟨V, rfl, _, hb3⟩
        have HO3 := Lib.hid (HO.out.below hb3)
        clear HM HMV
        go_wp2_with fail
        go_roundg (2 * k - (j + 1))
        case rel => exact ⟨j + 1, by omega, rfl, by rw [HE.out]; exact HO3.out, by go_num, bw_trans hbr hb3⟩
        case measure => omega
      · have HE := Lib.hid (sel_yes hq)
        rw [hq] at HM
        clear hq
        go_wp2_with fail
        refine HM.out.mono ?_
        rintro e w3 ⟨V, rfl, _, hb3⟩
        have HO3 := Lib.hid (HO.out.below hb3)
        have hbr3 := bw_trans hbr hb3
        have hsz3 := hbr3.size
        clear HM HMV
        go_wp2_with (at_builtin; refine wpAppI rfl _ _ rfl _ _ _ rfl (HO3.out.alloc _) _ ((j : Int)) rfl (by go_simp) (by omega) (by simp; omega) ?_; intro v5 w5 hown5 hg5 hb5)
        go_roundg (2 * k - (j + 1))
        case rel => exact ⟨j + 1, by omega, rfl, by rw [HE.out]; exact hown5, by go_num, bw_from (bw_alloc hbr3 _) hb5⟩
        case measure => omega
    · have hjk : j = 2 * k := by omega
      subst hjk
      obtain ⟨A', c', rfl⟩ := HO.out.form
      clear HMV
      go_wp2
      go_ret2
      exact ⟨_, rfl, OwnI.base HO.out hsz1, bw_trans hbw hbr⟩

set_option maxRecDepth 100000 in
set_option maxHeartbeats 3200000 in
theorem l13Moves_any (g : Nat) (A : Option Addr) (n c : Nat) (ss : List Int) (B : Option Addr) (m d : Nat) (bs : List BrE) (P : Option Addr) (e : Nat) (ps : List Int) (w : World) (HD : SdP w g A n c ss B m d bs) (HP : SlI w P n ps) (hn : n ≤ 4) (hm : m ≤ 8) (hst : stBd ss n) (hbd : brBd bs m n) (hpl : plB ss ps n = true) :
    Calls Try.prog 65 #[.pointer (some ⟨g, 0, none⟩), .slice P n e] w (GivesI (selL (mvOk ss n bs ps) (2 * n)) w) := by
  have HMV := Lib.hid (fun mv (hmv : mv < 2 * n) W (hW : Below w.heap.size w W) => l13Move_any g A n c ss B m d bs P e ps mv W (HD.below hW) (HP.below hW) hn hm hst hbd hpl hmv)
  clear HD HP hst hbd hpl
  generalize mvOk ss n bs ps = q at *
  go_enter Try.func65, Try.ntmps65
  go_wp2_with fail
  go_loopg [5, 6] (2 * n) (fun gh v x wr => ∃ j : Nat, j ≤ 2 * n ∧ gh = 2 * n - j ∧ OwnI wr w.heap.size v (selL q j) ∧ x = .int .i64 j ∧ Below w.heap.size w wr)
  case atStart => exact ⟨0, by omega, by omega, OwnI.lit w (Nat.le_refl _), rfl, bw_alloc (Below.refl _ _) _⟩
  case round =>
    obtain ⟨j, hj, rfl, hown, rfl, hbr⟩ := hrel
    have HO := Lib.hid hown
    have hl := sel_len q j
    clear hown
    by_cases hlt : j < 2 * n
    · have HM := Lib.hid (HMV.out j hlt _ hbr)
      cases hq : q j
      · have HE := Lib.hid (sel_no hq)
        rw [hq] at HM
        clear hq
        go_wp2_with fail
        refine HM.out.mono ?_
        rintro e w3 ⟨A3, n3, c3, rfl, _, hb3⟩
        have HO3 := Lib.hid (HO.out.below hb3)
        clear HM HMV
        go_wp2_with fail
        go_roundg (2 * n - (j + 1))
        case rel => exact ⟨j + 1, by omega, rfl, by rw [HE.out]; exact HO3.out, by go_num, bw_trans hbr hb3⟩
        case measure => omega
      · have HE := Lib.hid (sel_yes hq)
        rw [hq] at HM
        clear hq
        go_wp2_with fail
        refine HM.out.mono ?_
        rintro e w3 ⟨A3, n3, c3, rfl, _, hb3⟩
        have HO3 := Lib.hid (HO.out.below hb3)
        have hbr3 := bw_trans hbr hb3
        have hsz3 := hbr3.size
        clear HM HMV
        go_wp2_with (at_builtin; refine wpAppI rfl _ _ rfl _ _ _ rfl (HO3.out.alloc _) _ ((j : Int)) rfl (by go_simp) (by omega) (by simp; omega) ?_; intro v5 w5 hown5 hg5 hb5)
        go_roundg (2 * n - (j + 1))
        case rel => exact ⟨j + 1, by omega, rfl, by rw [HE.out]; exact hown5, by go_num, bw_from (bw_alloc hbr3 _) hb5⟩
        case measure => omega
    · have hjk : j = 2 * n := by omega
      subst hjk
      obtain ⟨A', c', rfl⟩ := HO.out.form
      clear HMV
      go_wp2
      go_ret
      exact ⟨_, rfl, HO.out, hbr⟩

set_option maxRecDepth 100000 in
set_option maxHeartbeats 1600000 in
theorem sMovesFrom_any (A : Option Addr) (n c : Nat) (ss : List Int) (B : Option Addr) (m d : Nat) (bs : List BrE) (P : Option Addr) (k e : Nat) (ps : List Int) (w : World) (HS : SlI w A n ss) (HB : SlBr w B m bs) (HP : SlI w P k ps) (hn : n ≤ 1048576) (hm : m ≤ 1048576) (hk : k ≤ 1048576) :
    Calls Try.prog 32 #[.agg #[.slice A n c, .slice B m d], .slice P k e] w (GivesIC (mfL ss n bs m ps) (scC ss n bs m [ps] 0) w) := by
  have hb0 : Below w.heap.size w (w.alloc (.cells #[.slice A n c, .slice B m d] 33)) := bw_alloc (Below.refl _ _) _
  have HD := Lib.hid (show SdP (w.alloc (.cells #[.slice A n c, .slice B m d] 33)) w.heap.size A n c ss B m d bs from ⟨by go_simp, by go_simp, HS.below hb0, HB.below hb0, by simp⟩)
  have HK := Lib.hid (l13Code_any w.heap.size A n c ss B m d bs P k e ps _ HD.out (HP.below hb0) hn hm hk)
  have HLS := HS.length
  have HLB := HB.1
  have hcode : scC ss n bs m [ps] 0 = (if vsB ss n bs m then (if plB ss ps n then (if myB bs ps then 0 else 9) else 2) else 1) := by
    cases hin : inB 0 0 (2 * (n : Int) - 1)
    · have hn0 : n = 0 := by
        rcases Nat.eq_zero_or_pos n with h | h
        · exact h
        · rw [inB_of (by omega) (by omega)] at hin; cases hin
      have hv : vsB ss n bs m = false := by unfold vsB stOk; rw [inB_lo (by omega)]; rfl
      rw [sc_out hin, hv]; rfl
    · exact sc_one hin
  rw [← hcode] at HK
  by_cases hc : scC ss n bs m [ps] 0 = 0
  case neg =>
    rw [mf_no hc]
    have hce : (scC ss n bs m [ps] 0 != 0) = true := by simpa using hc
    clear HS HB HP hcode
    generalize scC ss n bs m [ps] 0 = C at *
    go_enter Try.func32, Try.ntmps32
    go_wp2_with fail
    refine HK.out.mono ?_
    rintro e w1 ⟨rfl, hb1⟩
    go_wp2
    go_ret2
    exact ⟨_, rfl, OwnI.nil _ _, bw_trans hb0 hb1⟩
  rw [mf_yes hc]
  obtain ⟨n1, n4, m8, hst, hbd, hpl, hpn, _, _⟩ := sc_facts HLS HLB hc
  rw [hc] at HK
  rw [hc]
  have hkn : k = n := by rw [← HP.length]; exact hpn
  subst hkn
  have HM := Lib.hid (fun W hW => l13Moves_any w.heap.size A k c ss B m d bs P e ps W (HD.out.below hW) ((HP.below hb0).below hW) n4 m8 hst hbd hpl)
  clear HS HB HP hst hbd hpl hpn hc hcode
  generalize selL (mvOk ss k bs ps) (2 * k) = ys at *
  go_enter Try.func32, Try.ntmps32
  go_wp2_with fail
  refine HK.out.mono ?_
  rintro e w1 ⟨rfl, hb1⟩
  go_wp2_with fail
  refine (HM.out _ hb1).mono ?_
  rintro e w2 ⟨V, rfl, G, hb2⟩
  have hs := (bw_trans hb0 hb1).size
  obtain ⟨A', c', rfl⟩ := G.form
  go_wp2
  go_ret2
  exact ⟨_, rfl, G.base hs, bw_trans (bw_trans hb0 hb1) hb2⟩

set_option maxRecDepth 100000 in
set_option maxHeartbeats 1600000 in
theorem iMoveGlass_any (A : Option Addr) (n c : Nat) (ss : List Int) (B : Option Addr) (m d : Nat) (bs : List BrE) (P : Option Addr) (k e : Nat) (ps : List Int) (mv : Int) (w : World) (HS : SlI w A n ss) (HB : SlBr w B m bs) (HP : SlI w P k ps) (hn : n ≤ 1048576) (hm : m ≤ 1048576) (hk : k ≤ 1048576) :
    Calls Try.prog 31 #[.agg #[.slice A n c, .slice B m d], .slice P k e, .int .i64 mv] w (GivesIC (mgL ss n bs m ps mv) (mgC ss n bs m ps mv) w) := by
  have hb0 : Below w.heap.size w ((w.alloc (.cells #[.slice A n c, .slice B m d] 33)).alloc (.cells #[.slice P k e] 22)) := by (repeat (first | exact Below.refl _ _ | refine bw_drew ?_ | refine bw_drewN ?_ _ | refine bw_set ?_ (by simp; try omega) _ | refine bw_alloc ?_ _ | refine bw_trans ?_ (by assumption) | assumption))
  have HK := Lib.hid (slideCode_any A n c ss B m d bs mv (some ⟨w.heap.size + 1, 0, none⟩) 1 1 [ps] _ (HS.below hb0) (HB.below hb0) (by have h := ss_one (e := e) (HP.below (bw_alloc (Below.refl _ _) (.cells #[.slice A n c, .slice B m d] 33))) hk; simpa using h) hn hm (by omega))
  by_cases hc : scC ss n bs m [ps] mv = 0
  case neg =>
    rw [(mg_code hc).1, (mg_code hc).2]
    have hce : (scC ss n bs m [ps] mv != 0) = true := by simpa using hc
    clear HS HB HP
    generalize scC ss n bs m [ps] mv = C at *
    go_enter Try.func31, Try.ntmps31
    go_wp2_with fail
    refine HK.out.mono ?_
    rintro e w1 ⟨rfl, hb1⟩
    go_wp2
    go_ret2
    exact ⟨_, rfl, OwnI.nil _ _, bw_trans hb0 hb1⟩
  obtain ⟨n1, n4, m8, hst, hbd, hpl, hpn, v0, v1⟩ := sc_facts HS.length HB.1 hc
  obtain ⟨v, rfl⟩ : ∃ v : Nat, mv = (v : Int) := ⟨mv.toNat, by omega⟩
  have hv2 : v < 2 * n := by omega
  rw [hc] at HK
  have hkn : k = n := by rw [← HP.length]; exact hpn
  subst hkn
  have HMV := Lib.hid (fun W (hW : Below w.heap.size w W) => moved_any A k c ss B m d bs P e ps v W (HS.below hW) (HB.below hW) (HP.below hW) n4 m8 hst hbd hpl hv2)
  have HGN := Lib.hid (mg_no hc)
  have HGY := Lib.hid (mg_yes hc)
  clear HS HB HP hst hbd hpl hpn hc
  generalize mgC ss k bs m ps (v : Int) = C at *
  generalize mgL ss k bs m ps (v : Int) = L at *
  generalize mvOk ss k bs ps v = R at *
  generalize mvL ps v = qs at *
  go_enter Try.func31, Try.ntmps31
  go_wp2_with fail
  refine HK.out.mono ?_
  rintro e w1 ⟨rfl, hb1⟩
  have hc0 : w1.cell? ⟨w.heap.size, 0, none⟩ = some (.slice A k c) := cell_of hb1 (by go_simp)
  have hc1 : w1.cell? ⟨w.heap.size, 1, none⟩ = some (.slice B m d) := cell_of hb1 (by go_simp)
  have hbw := bw_trans hb0 hb1
  have hs := hbw.size
  go_wp2_with fail
  refine (HMV.out _ hbw).mono ?_
  rintro e w2 ⟨V, rfl, G, hb2⟩
  obtain ⟨A', c', rfl⟩ := G.form
  have HG := Lib.hid G
  clear G HMV
  cases R
  · obtain ⟨h1, h2⟩ := HGN.out rfl
    subst h1; subst h2
    clear HGN HGY
    go_wp2
    go_ret2
    exact ⟨.slice none 0 0, rfl, OwnI.nil _ _, bw_trans hbw hb2⟩
  · obtain ⟨h1, h2⟩ := HGY.out rfl
    subst h1; subst h2
    clear HGN HGY
    go_wp2
    go_ret2
    exact ⟨_, rfl, HG.out.base hs, bw_trans hbw hb2⟩

set_option maxRecDepth 100000 in
set_option maxHeartbeats 1600000 in
theorem sMoveGlass_any (A : Option Addr) (n c : Nat) (ss : List Int) (B : Option Addr) (m d : Nat) (bs : List BrE) (P : Option Addr) (k e : Nat) (ps : List Int) (mv : Int) (w : World) (HS : SlI w A n ss) (HB : SlBr w B m bs) (HP : SlI w P k ps) (hn : n ≤ 1048576) (hm : m ≤ 1048576) (hk : k ≤ 1048576) :
    Calls Try.prog 30 #[.agg #[.slice A n c, .slice B m d], .slice P k e, .int .i64 mv] w (GivesIC (mgL ss n bs m ps mv) (mgC ss n bs m ps mv) w) := by
  have hb0 : Below w.heap.size w (w.alloc (.cells #[.slice A n c, .slice B m d] 33)) := bw_alloc (Below.refl _ _) _
  have HD := Lib.hid (show SdP (w.alloc (.cells #[.slice A n c, .slice B m d] 33)) w.heap.size A n c ss B m d bs from ⟨by go_simp, by go_simp, HS.below hb0, HB.below hb0, by simp⟩)
  have HO := Lib.hid (l13Ok_any w.heap.size A n c ss B m d bs _ HD.out hn hm)
  have HK := Lib.hid (fun W hW => l13Code_any w.heap.size A n c ss B m d bs P k e ps W (HD.out.below hW) ((HP.below hb0).below hW) hn hm hk)
  have HLS := HS.length
  have HLB := HB.1
  cases hin : inB mv 0 (2 * (n : Int) - 1)
  · have hso := sc_out (ss := ss) (bs := bs) (m := m) (ps := ps) hin
    cases hv : vsB ss n bs m
    · rw [hv] at HO HK hso
      simp only [Bool.false_eq_true, if_false] at HK hso
      obtain ⟨e1, e2⟩ := mg_code (ss := ss) (n := n) (bs := bs) (m := m) (ps := ps) (mv := mv) (by rw [hso]; decide)
      rw [e1, e2, hso]
      clear HS HB HP hso hv e1 e2 HLS HLB HD
      go_enter Try.func30, Try.ntmps30
      go_wp2_with fail
      refine HO.out.mono ?_
      rintro e w1 ⟨rfl, hb1⟩
      go_wp2_with fail
      refine (HK.out _ hb1).mono ?_
      rintro e w2 ⟨rfl, hb2⟩
      go_wp2
      go_ret2
      exact ⟨_, rfl, OwnI.nil _ _, bw_trans (bw_trans hb0 hb1) hb2⟩
    · rw [hv] at HO hso
      simp only [if_true] at hso
      obtain ⟨e1, e2⟩ := mg_code (ss := ss) (n := n) (bs := bs) (m := m) (ps := ps) (mv := mv) (by rw [hso]; decide)
      rw [e1, e2, hso]
      have hc1 := HD.out.1
      clear HS HB HP hso hv e1 e2 HLS HLB HK
      go_enter Try.func30, Try.ntmps30
      go_wp2_with fail
      refine HO.out.mono ?_
      rintro e w1 ⟨rfl, hb1⟩
      have hd1 := cell_of hb1 hc1
      go_wp2_with (go_at_call 62; refine (l00In_is hin _).mono ?_; rintro e w1 ⟨rfl, rfl⟩)
      go_ret2
      exact ⟨_, rfl, OwnI.nil _ _, bw_trans hb0 hb1⟩
  have hso := sc_one (ss := ss) (bs := bs) (m := m) (ps := ps) hin
  rw [← hso] at HK
  have hvv : vsB ss n bs m = false → scC ss n bs m [ps] mv = 1 := fun h => by rw [hso, h]; rfl
  by_cases hc : scC ss n bs m [ps] mv = 0
  case neg =>
    rw [(mg_code hc).1, (mg_code hc).2]
    have hce : (scC ss n bs m [ps] mv != 0) = true := by simpa using hc
    have hc1 := HD.out.1
    clear HS HB HP hso hvv HD
    generalize scC ss n bs m [ps] mv = C at *
    cases hv : vsB ss n bs m
    · rw [hv] at HO
      go_enter Try.func30, Try.ntmps30
      go_wp2_with fail
      refine HO.out.mono ?_
      rintro e w1 ⟨rfl, hb1⟩
      go_wp2_with fail
      refine (HK.out _ hb1).mono ?_
      rintro e w2 ⟨rfl, hb2⟩
      go_wp2
      go_ret2
      exact ⟨_, rfl, OwnI.nil _ _, bw_trans (bw_trans hb0 hb1) hb2⟩
    · rw [hv] at HO
      go_enter Try.func30, Try.ntmps30
      go_wp2_with fail
      refine HO.out.mono ?_
      rintro e w1 ⟨rfl, hb1⟩
      have hd1 := cell_of hb1 hc1
      go_wp2_with (go_at_call 62; refine (l00In_is hin _).mono ?_; rintro e w1 ⟨rfl, rfl⟩)
      refine (HK.out _ hb1).mono ?_
      rintro e w2 ⟨rfl, hb2⟩
      go_wp2
      go_ret2
      exact ⟨_, rfl, OwnI.nil _ _, bw_trans (bw_trans hb0 hb1) hb2⟩
  obtain ⟨n1, n4, m8, hst, hbd, hpl, hpn, v0, v1⟩ := sc_facts HLS HLB hc
  have hv := (sc_ok hc).1
  obtain ⟨v, rfl⟩ : ∃ v : Nat, mv = (v : Int) := ⟨mv.toNat, by omega⟩
  have hv2 : v < 2 * n := by omega
  rw [hc] at HK
  rw [hv] at HO
  have hkn : k = n := by rw [← HP.length]; exact hpn
  subst hkn
  have HMV := Lib.hid (fun W hW => l13Move_any w.heap.size A k c ss B m d bs P e ps v W (HD.out.below hW) ((HP.below hb0).below hW) n4 m8 hst hbd hpl hv2)
  have HGN := Lib.hid (mg_no hc)
  have HGY := Lib.hid (mg_yes hc)
  have hc1 := HD.out.1
  clear HS HB HP hst hbd hpl hpn hc hso hvv hv HD HLS HLB
  generalize mgC ss k bs m ps (v : Int) = C at *
  generalize mgL ss k bs m ps (v : Int) = L at *
  generalize mvOk ss k bs ps v = R at *
  generalize mvL ps v = qs at *
  go_enter Try.func30, Try.ntmps30
  go_wp2_with fail
  refine HO.out.mono ?_
  rintro e w1 ⟨rfl, hb1⟩
  have hd1 := cell_of hb1 hc1
  go_wp2_with (go_at_call 62; refine (l00In_is hin _).mono ?_; rintro e w1 ⟨rfl, rfl⟩)
  refine (HK.out _ hb1).mono ?_
  rintro e w2 ⟨rfl, hb2⟩
  have hbw := bw_trans hb1 hb2
  have hbz := bw_trans hb0 hbw
  have hs := hbz.size
  go_wp2_with fail
  refine (HMV.out _ hbw).mono ?_
  rintro e w3 ⟨A', n', c', rfl, G, hb3⟩
  have HG := Lib.hid G
  clear G HMV
  cases R
  · obtain ⟨h1, h2⟩ := HGN.out rfl
    subst h1; subst h2
    clear HGN HGY
    go_wp2
    go_ret2
    exact ⟨.slice none 0 0, rfl, OwnI.nil _ _, bw_trans hbz hb3⟩
  · obtain ⟨h1, h2⟩ := HGY.out rfl
    subst h1; subst h2
    clear HGN HGY
    go_wp2
    go_ret2
    exact ⟨_, rfl, (HG.out (by first | trivial | rfl)).base hs, bw_trans hbz hb3⟩
end Go.Proofs.Yticohpimkicphaa
