/-
  MovesTo: in the program, in the reference, the law.
-/
import Derived.Test.YticohpimkicphaaYs
namespace Go.Proofs.Yticohpimkicphaa
open Go.RowKit
open Go.Maps (Keyed)

theorem ss_two {w : World} {P Q : Option Addr} {k e l f : Nat} {ps qs : List Int} (H : SlI w P k ps) (hk : k ≤ 1048576) (H2 : SlI w Q l qs) (hl : l ≤ 1048576) : SlSS (w.alloc (.cells #[.slice P k e, .slice Q l f] 22)) (some ⟨w.heap.size, 0, none⟩) 2 [ps, qs] := by
  have hp := H.length
  have hq := H2.length
  refine ⟨rfl, fun _ => ⟨w.heap.size, 0, rfl, by simp, fun j hj => ?_⟩⟩
  have hj0 : j = 0 ∨ j = 1 := by omega
  rcases hj0 with rfl | rfl
  · refine ⟨P, e, ?_, ?_, ?_⟩
    · rw [show ([ps, qs].getD 0 []).length = k from hp]; go_simp
    · rw [show ([ps, qs].getD 0 []).length = k from hp, show [ps, qs].getD 0 [] = ps from rfl]; exact H.below (bw_alloc (Below.refl _ _) _)
    · rw [show ([ps, qs].getD 0 []).length = k from hp]; exact hk
  · refine ⟨Q, f, ?_, ?_, ?_⟩
    · rw [show ([ps, qs].getD 1 []).length = l from hq]; go_simp
    · rw [show ([ps, qs].getD 1 []).length = l from hq, show [ps, qs].getD 1 [] = qs from rfl]; exact H2.below (bw_alloc (Below.refl _ _) _)
    · rw [show ([ps, qs].getD 1 []).length = l from hq]; exact hl
/-- The code of MovesTo ahead of all that is reached; its code; its moves. -/
def sc2 (ss : List Int) (n : Nat) (bs : List BrE) (m : Nat) (ps qs : List Int) : Int := scC ss n bs m [ps, qs] 0
theorem sc2_nest {ss : List Int} {n : Nat} {bs : List BrE} {m : Nat} {ps qs : List Int} : sc2 ss n bs m ps qs = (if vsB ss n bs m then (if plB ss ps n then (if plB ss qs n then (if myB bs ps then (if myB bs qs then 0 else 9) else 9) else 2) else 2) else 1) := by
  unfold sc2 scC
  cases hv : vsB ss n bs m
  · rfl
  · have hin : inB 0 0 (2 * (n : Int) - 1) = true := by
      have h1 : 1 ≤ n := by
        unfold vsB stOk at hv
        rw [Bool.and_eq_true, Bool.and_eq_true] at hv
        have := inB_true.1 hv.1.1
        omega
      exact inB_of (by omega) (by omega)
    rw [hin]
    cases h1 : plB ss ps n <;> cases h2 : plB ss qs n <;> cases h3 : myB bs ps <;> cases h4 : myB bs qs <;> simp [h1, h2, h3, h4]
theorem sc2_facts {ss : List Int} {n : Nat} {bs : List BrE} {m : Nat} {ps qs : List Int} (hl : ss.length = n) (hb : bs.length = m) (h : sc2 ss n bs m ps qs = 0) :
    1 ≤ n ∧ n ≤ 4 ∧ m ≤ 8 ∧ stBd ss n ∧ brBd bs m n ∧ plB ss ps n = true ∧ plB ss qs n = true ∧ ps.length = n ∧ qs.length = n := by
  obtain ⟨h1, h2, h3⟩ := sc_ok h
  obtain ⟨a, b, c, d, e⟩ := vs_at hl hb h1
  have h4 := (h2 ps (by simp)).1
  have h5 := (h2 qs (by simp)).1
  exact ⟨a, b, d, c, e, h4, h5, (pl_at h4).1, (pl_at h5).1⟩
def toR (ss : List Int) (n : Nat) (bs : List BrE) (ps : List Int) : List Nd := allN (mvOk ss n bs) n ps
def toC (ss : List Int) (n : Nat) (bs : List BrE) (m : Nat) (ps qs : List Int) : Int := if sc2 ss n bs m ps qs = 0 then (if hasN (toR ss n bs ps) qs then 0 else 3) else sc2 ss n bs m ps qs
def toL (ss : List Int) (n : Nat) (bs : List BrE) (m : Nat) (ps qs : List Int) : List Int := if sc2 ss n bs m ps qs = 0 then (if hasN (toR ss n bs ps) qs then ((toR ss n bs ps).getD (fdI (toR ss n bs ps) qs).toNat Nd.zero).pt else []) else []
theorem to_code {ss : List Int} {n : Nat} {bs : List BrE} {m : Nat} {ps qs : List Int} (h : ¬ sc2 ss n bs m ps qs = 0) : toC ss n bs m ps qs = sc2 ss n bs m ps qs ∧ toL ss n bs m ps qs = [] := ⟨if_neg h, if_neg h⟩
theorem to_no {ss : List Int} {n : Nat} {bs : List BrE} {m : Nat} {ps qs : List Int} (h : sc2 ss n bs m ps qs = 0) (h2 : hasN (toR ss n bs ps) qs = false) : toC ss n bs m ps qs = 3 ∧ toL ss n bs m ps qs = [] := by
  unfold toC toL; rw [if_pos h, if_pos h, h2]; exact ⟨rfl, rfl⟩
theorem to_yes {ss : List Int} {n : Nat} {bs : List BrE} {m : Nat} {ps qs : List Int} (h : sc2 ss n bs m ps qs = 0) (h2 : hasN (toR ss n bs ps) qs = true) : toC ss n bs m ps qs = 0 ∧ toL ss n bs m ps qs = ((toR ss n bs ps).getD (fdI (toR ss n bs ps) qs).toNat Nd.zero).pt := by
  unfold toC toL; rw [if_pos h, if_pos h, h2]; exact ⟨rfl, rfl⟩
theorem to_len {ss : List Int} {n : Nat} {bs : List BrE} {m : Nat} {ps qs : List Int} (hl : ss.length = n) (hb : bs.length = m) : (toL ss n bs m ps qs).length ≤ 1048576 := by
  by_cases h : sc2 ss n bs m ps qs = 0
  · cases h2 : hasN (toR ss n bs ps) qs
    · rw [(to_no h h2).2]; simp
    · obtain ⟨n1, n4, m8, hst, hbd, hpl, _, _, _⟩ := sc2_facts hl hb h
      obtain ⟨g1, g2, _⟩ := all_gd (bs := bs) hst n4 hpl
      obtain ⟨J, e, hJ, _⟩ := fd_yes h2
      rw [(to_yes h h2).2, e, Int.toNat_natCast]
      have h3 : ((toR ss n bs ps).getD J Nd.zero).pt.length ≤ J := GdN.pt_len g1 J hJ
      have g2' : (toR ss n bs ps).length ≤ 256 := g2
      omega
  · rw [(to_code h).2]; simp

set_option maxRecDepth 100000 in
set_option maxHeartbeats 3200000 in
theorem sMovesTo_any (A : Option Addr) (n c : Nat) (ss : List Int) (B : Option Addr) (m d : Nat) (bs : List BrE) (P : Option Addr) (k e : Nat) (ps : List Int) (Q : Option Addr) (l f : Nat) (qs : List Int) (w : World) (HS : SlI w A n ss) (HB : SlBr w B m bs) (HP : SlI w P k ps) (HQ : SlI w Q l qs) (hn : n ≤ 1048576) (hm : m ≤ 1048576) (hk : k ≤ 1048576) (hq : l ≤ 1048576) :
    Calls Try.prog 36 #[.agg #[.slice A n c, .slice B m d], .slice P k e, .slice Q l f] w (GivesIC (toL ss n bs m ps qs) (toC ss n bs m ps qs) w) := by
  have hb0 : Below w.heap.size w (w.alloc (.cells #[.slice A n c, .slice B m d] 33)) := bw_alloc (Below.refl _ _) _
  have HD := Lib.hid (show SdP (w.alloc (.cells #[.slice A n c, .slice B m d] 33)) w.heap.size A n c ss B m d bs from ⟨by go_simp, by go_simp, HS.below hb0, HB.below hb0, by simp⟩)
  have HO := Lib.hid (l13Ok_any w.heap.size A n c ss B m d bs _ HD.out hn hm)
  have HLS := HS.length
  have HLB := HB.1
  have HLP := HP.length
  have HLQ := HQ.length
  have hnest := sc2_nest (ss := ss) (n := n) (bs := bs) (m := m) (ps := ps) (qs := qs)
  cases hv : vsB ss n bs m
  case false =>
    rw [hv] at HO hnest
    simp only [Bool.false_eq_true, if_false] at hnest
    obtain ⟨e1, e2⟩ := to_code (ss := ss) (n := n) (bs := bs) (m := m) (ps := ps) (qs := qs) (by rw [hnest]; decide)
    rw [e1, e2, hnest]
    clear HS HB HP HQ hv HLS HLB HLP HLQ HD hnest e1 e2
    go_enter Try.func36, Try.ntmps36
    go_wp2_with fail
    refine HO.out.mono ?_
    rintro e w1 ⟨rfl, hb1⟩
    go_wp2
    go_ret2
    exact ⟨_, rfl, OwnI.nil _ _, bw_trans hb0 hb1⟩
  obtain ⟨n1, n4, hst, m8, hbd⟩ := vs_at HLS HLB hv
  rw [hv] at HO hnest
  simp only [if_true] at hnest
  have HPP := Lib.hid (fun W hW => l13Places_any w.heap.size A n c ss B m d bs P k e ps W (HD.out.below hW) ((HP.below hb0).below hW) hn hk hst)
  have HPQ := Lib.hid (fun W hW => l13Places_any w.heap.size A n c ss B m d bs Q l f qs W (HD.out.below hW) ((HQ.below hb0).below hW) hn hq hst)
  cases hp : plB ss ps n
  case false =>
    rw [hp] at HPP hnest
    simp only [Bool.false_eq_true, if_false] at hnest
    obtain ⟨e1, e2⟩ := to_code (ss := ss) (n := n) (bs := bs) (m := m) (ps := ps) (qs := qs) (by rw [hnest]; decide)
    rw [e1, e2, hnest]
    clear HS HB HP HQ hv HLS HLB HLP HLQ HD hnest e1 e2 hp hst hbd HPQ
    go_enter Try.func36, Try.ntmps36
    go_wp2_with fail
    refine HO.out.mono ?_
    rintro e w1 ⟨rfl, hb1⟩
    go_wp2_with fail
    refine (HPP.out _ hb1).mono ?_
    rintro e w2 ⟨rfl, hb2⟩
    go_wp2
    go_ret2
    exact ⟨_, rfl, OwnI.nil _ _, bw_trans (bw_trans hb0 hb1) hb2⟩
  cases hpq : plB ss qs n
  case false =>
    rw [hp] at HPP hnest
    rw [hpq] at HPQ hnest
    simp only [Bool.false_eq_true, if_false, if_true] at hnest
    obtain ⟨e1, e2⟩ := to_code (ss := ss) (n := n) (bs := bs) (m := m) (ps := ps) (qs := qs) (by rw [hnest]; decide)
    rw [e1, e2, hnest]
    clear HS HB HP HQ hv HLS HLB HLP HLQ HD hnest e1 e2 hp hpq hst hbd
    go_enter Try.func36, Try.ntmps36
    go_wp2_with fail
    refine HO.out.mono ?_
    rintro e w1 ⟨rfl, hb1⟩
    go_wp2_with fail
    refine (HPP.out _ hb1).mono ?_
    rintro e w2 ⟨rfl, hb2⟩
    go_wp2_with fail
    refine (HPQ.out _ (bw_trans hb1 hb2)).mono ?_
    rintro e w3 ⟨rfl, hb3⟩
    go_wp2
    go_ret2
    exact ⟨_, rfl, OwnI.nil _ _, bw_trans (bw_trans (bw_trans hb0 hb1) hb2) hb3⟩
  rw [hp] at HPP hnest
  rw [hpq] at HPQ hnest
  have hkn : k = n := by rw [← HLP]; exact (pl_at hp).1
  subst hkn
  have hln : l = k := by rw [← HLQ]; exact (pl_at hpq).1
  subst hln
  simp only [if_true] at hnest
  have HMP := Lib.hid (fun W hW => l13May_any w.heap.size A l c ss B m d bs P l e ps W (HD.out.below hW) ((HP.below hb0).below hW) hm hk hbd)
  have HMQ := Lib.hid (fun W hW => l13May_any w.heap.size A l c ss B m d bs Q l f qs W (HD.out.below hW) ((HQ.below hb0).below hW) hm hk hbd)
  cases hmp : myB bs ps
  case false =>
    rw [hmp] at HMP hnest
    simp only [Bool.false_eq_true, if_false] at hnest
    obtain ⟨e1, e2⟩ := to_code (ss := ss) (n := l) (bs := bs) (m := m) (ps := ps) (qs := qs) (by rw [hnest]; decide)
    rw [e1, e2, hnest]
    clear HS HB HP HQ hv HLS HLB HLP HLQ HD hnest e1 e2 hp hpq hst hbd hmp HMQ
    go_enter Try.func36, Try.ntmps36
    go_wp2_with fail
    refine HO.out.mono ?_
    rintro e w1 ⟨rfl, hb1⟩
    go_wp2_with fail
    refine (HPP.out _ hb1).mono ?_
    rintro e w2 ⟨rfl, hb2⟩
    go_wp2_with fail
    refine (HPQ.out _ (bw_trans hb1 hb2)).mono ?_
    rintro e w3 ⟨rfl, hb3⟩
    go_wp2_with fail
    refine (HMP.out _ (bw_trans (bw_trans hb1 hb2) hb3)).mono ?_
    rintro e w4 ⟨rfl, hb4⟩
    go_wp2
    go_ret2
    exact ⟨_, rfl, OwnI.nil _ _, bw_trans (bw_trans (bw_trans (bw_trans hb0 hb1) hb2) hb3) hb4⟩
  rw [hmp] at HMP hnest
  simp only [if_true] at hnest
  cases hmq : myB bs qs
  case false =>
    rw [hmq] at HMQ hnest
    simp only [Bool.false_eq_true, if_false] at hnest
    obtain ⟨e1, e2⟩ := to_code (ss := ss) (n := l) (bs := bs) (m := m) (ps := ps) (qs := qs) (by rw [hnest]; decide)
    rw [e1, e2, hnest]
    clear HS HB HP HQ hv HLS HLB HLP HLQ HD hnest e1 e2 hp hpq hst hbd hmp hmq
    go_enter Try.func36, Try.ntmps36
    go_wp2_with fail
    refine HO.out.mono ?_
    rintro e w1 ⟨rfl, hb1⟩
    go_wp2_with fail
    refine (HPP.out _ hb1).mono ?_
    rintro e w2 ⟨rfl, hb2⟩
    go_wp2_with fail
    refine (HPQ.out _ (bw_trans hb1 hb2)).mono ?_
    rintro e w3 ⟨rfl, hb3⟩
    go_wp2_with fail
    refine (HMP.out _ (bw_trans (bw_trans hb1 hb2) hb3)).mono ?_
    rintro e w4 ⟨rfl, hb4⟩
    go_wp2_with fail
    refine (HMQ.out _ (bw_trans (bw_trans (bw_trans hb1 hb2) hb3) hb4)).mono ?_
    rintro e w5 ⟨rfl, hb5⟩
    go_wp2
    go_ret2
    exact ⟨_, rfl, OwnI.nil _ _, bw_trans (bw_trans (bw_trans (bw_trans (bw_trans hb0 hb1) hb2) hb3) hb4) hb5⟩
  rw [hmq] at HMQ hnest
  simp only [if_true] at hnest
  have HTN := Lib.hid (fun h2 => to_no (ss := ss) (n := l) (bs := bs) (m := m) (ps := ps) (qs := qs) hnest h2)
  have HTY := Lib.hid (fun h2 => to_yes (ss := ss) (n := l) (bs := bs) (m := m) (ps := ps) (qs := qs) hnest h2)
  have HM := Lib.hid (fun W hW => l13All_any w.heap.size A l c ss B m d bs P e ps W (HD.out.below hW) ((HP.below hb0).below hW) n1 n4 m8 hst hbd hp)
  obtain ⟨g1, g2, g3⟩ := all_gd (bs := bs) hst n4 hp
  have HG := Lib.hid (And.intro g1 (fun y hy => (g3 y hy).1))
  have HF := Lib.hid (fun (A' : Option Addr) c' W (hW : Below w.heap.size w W) (h : SlW W A' (toR ss l bs ps)) => l13Find_any A' c' (toR ss l bs ps) Q l f qs W h (HQ.below hW) HG.out.2 n4 g2)
  clear HS HB HP HQ hv HLS HLB HLP HLQ HD hnest hp hpq hst hbd hmp hmq g1 g3
  change Hid (∀ W, Below _ _ W → Calls Try.prog 43 _ W (GivesS (toR ss l bs ps) W)) at HM
  change Hid (GdN _ ps (toR ss l bs ps) ∧ ∀ y, y ∈ toR ss l bs ps → _) at HG
  replace g2 : (toR ss l bs ps).length ≤ 256 := g2
  generalize toR ss l bs ps = all at *
  generalize toC ss l bs m ps qs = C at *
  generalize toL ss l bs m ps qs = L0 at *
  go_enter Try.func36, Try.ntmps36
  go_wp2_with fail
  refine HO.out.mono ?_
  rintro e w1 ⟨rfl, hb1⟩
  go_wp2_with fail
  refine (HPP.out _ hb1).mono ?_
  rintro e w2 ⟨rfl, hb2⟩
  replace hb2 := bw_trans hb1 hb2
  go_wp2_with fail
  refine (HPQ.out _ hb2).mono ?_
  rintro e w3 ⟨rfl, hb3⟩
  replace hb3 := bw_trans hb2 hb3
  go_wp2_with fail
  refine (HMP.out _ hb3).mono ?_
  rintro e w4 ⟨rfl, hb4⟩
  replace hb4 := bw_trans hb3 hb4
  go_wp2_with fail
  refine (HMQ.out _ hb4).mono ?_
  rintro e w5 ⟨rfl, hb5⟩
  replace hb5 := bw_trans hb4 hb5
  go_wp2_with fail
  refine (HM.out _ hb5).mono ?_
  rintro e w6 ⟨A', c', rfl, hsl, hb6⟩
  replace hb6 := bw_trans hb0 (bw_trans hb5 hb6)
  have HSL := Lib.hid hsl
  clear hb1 hb2 hb3 hb4 hb5 hsl HO HPP HPQ HMP HMQ HM hb0
  go_wp2_with fail
  refine (HF.out A' c' _ hb6 HSL.out).mono ?_
  rintro e w7 ⟨rfl, hb7⟩
  have HSW := Lib.hid (HSL.out.below hb7)
  have hbw := bw_trans hb6 hb7
  have hbs := hbw.size
  clear HF HSL hb6 hb7
  cases hX : hasN all qs
  · obtain ⟨rfl, rfl⟩ := HTN.out hX
    have hfd := fd_no hX
    rw [hfd]
    clear HTN HTY hX hfd
    go_wp2
    go_ret2
    exact ⟨_, rfl, OwnI.nil _ _, hbw⟩
  obtain ⟨e1, e2⟩ := HTY.out hX
  obtain ⟨J, hfd, hJ, _⟩ := fd_yes hX
  rw [hfd, Int.toNat_natCast] at e2
  subst e1
  have HL0 := Lib.hid e2
  rw [hfd]
  have hJ0 : ¬ ((J : Int) < 0) := by omega
  clear HTN HTY hX hfd e2
  go_wp2_with fail
  go_loopg [9, 10] J (fun gh x v wr => ∃ (j : Nat) (L : List Int) (b cc : Nat), j = gh ∧ x = .int .i64 (j : Int) ∧ v = .slice (some ⟨b, 0, none⟩) L.length cc ∧ j < all.length ∧ Hid ((all.getD J Nd.zero).pt = (all.getD j Nd.zero).pt ++ L) ∧ OwnI wr w7.heap.size v L ∧ Below w7.heap.size w7 wr)
  case atStart => exact ⟨J, [], _, _, rfl, rfl, rfl, hJ, Lib.hid (by simp), OwnI.lit _ (Nat.le_refl _), bw_alloc (Below.refl _ _) _⟩
  case round =>
    obtain ⟨j, L, b, cc, rfl, rfl, rfl, hj, HPT, hown, hbr⟩ := hrel
    have HOW := Lib.hid hown
    have hL : L.length ≤ 256 := by
      have h1 := GdN.pt_len HG.out.1 J hJ
      rw [HPT.out, List.length_append] at h1
      omega
    clear hown
    by_cases hj0 : 0 < j
    · obtain ⟨i, hi, hbf, hpt⟩ := HG.out.1.2.2.2.2 j hj0 hj
      obtain ⟨bb, off, rfl, hbl, hcs⟩ := HSW.out.below hbr
      obtain ⟨-, hc1, hc2, -⟩ := hcs j hj
      rw [hbf] at hc1
      have HP2 := Lib.hid hpt
      have hj1 : (0 : Int) < (j : Int) := by omega
      have hj2 : (j : Int) < (all.length : Int) := by omega
      have hs7 := hbr.size
      clear hcs hbf hpt
      obtain ⟨mv, hmv⟩ : ∃ mv, (all.getD j Nd.zero).mv = mv := ⟨_, rfl⟩
      rw [hmv] at hc2
      have HMV := Lib.hid hmv
      clear hmv
      go_wp2_with (at_builtin; refine wpAppL rfl _ _ rfl wr.heap.size _ [mv] rfl (OwnI.made (by simp) (by omega)) b 0 L.length cc L rfl (SlI.below (HOW.out.sl.2) (bw_alloc (Below.refl _ _) _)) (by simp; omega) (by simp) ?_; intro v5 w5 hown5 _ hb5; (have hbb := bw_from (bw_alloc (Below.refl wr.heap.size wr) (.cells #[.int .i64 mv] 2)) hb5); (have hd1 := cell_of hbb hc1))
      obtain ⟨A5, c5, rfl⟩ := hown5.form
      obtain ⟨g5, rfl, -, -, -⟩ := hown5.put (k := 0) (by simp)
      go_roundg i
      case rel => exact ⟨i, [mv] ++ L, g5, c5, rfl, rfl, rfl, by omega, by rw [HPT.out, HP2.out, HMV.out, List.append_assoc]; exact Lib.hid rfl, hown5.base hs7, bw_trans hbr hbb⟩
      case measure => omega
    · obtain rfl : j = 0 := by omega
      have HEQ := Lib.hid (show L = L0 by rw [HL0.out, HPT.out, HG.out.1.2.1]; rfl)
      go_wp2
      go_ret2
      exact ⟨_, rfl, by rw [← HEQ.out]; exact HOW.out.base hbs, bw_trans hbw hbr⟩

theorem held_eq {v u : Value} {pz : List MemPlace} (h : heldR v = some (.held u, pz)) : v = u := by
  unfold heldR at h
  simp only [Option.some.injEq, Prod.mk.injEq, DataW.held.injEq] at h
  exact h.1
set_option maxRecDepth 100000 in
set_option maxHeartbeats 3200000 in
theorem iMovesTo_any (A : Option Addr) (n c : Nat) (ss : List Int) (B : Option Addr) (m d : Nat) (bs : List BrE) (P : Option Addr) (k e : Nat) (ps : List Int) (Q : Option Addr) (l f : Nat) (qs : List Int) (w : World) (HS : SlI w A n ss) (HB : SlBr w B m bs) (HP : SlI w P k ps) (HQ : SlI w Q l qs) (hn : n ≤ 1048576) (hm : m ≤ 1048576) (hk : k ≤ 1048576) (hq : l ≤ 1048576) :
    Calls Try.prog 37 #[.agg #[.slice A n c, .slice B m d], .slice P k e, .slice Q l f] w (GivesIC (toL ss n bs m ps qs) (toC ss n bs m ps qs) w) := by
  have hb0 : Below w.heap.size w ((w.alloc (.cells #[.slice A n c, .slice B m d] 33)).alloc (.cells #[.slice P k e, .slice Q l f] 22)) := by (repeat (first | exact Below.refl _ _ | refine bw_drew ?_ | refine bw_drewN ?_ _ | refine bw_set ?_ (by simp; try omega) _ | refine bw_alloc ?_ _ | refine bw_trans ?_ (by assumption) | assumption))
  have HK := Lib.hid (slideCode_any A n c ss B m d bs 0 (some ⟨w.heap.size + 1, 0, none⟩) 2 2 [ps, qs] _ (HS.below hb0) (HB.below hb0) (by have h := ss_two (e := e) (f := f) (HP.below (bw_alloc (Below.refl _ _) (.cells #[.slice A n c, .slice B m d] 33))) hk (HQ.below (bw_alloc (Below.refl _ _) (.cells #[.slice A n c, .slice B m d] 33))) hq; simpa using h) hn hm (by omega))
  change Hid (Calls _ _ _ _ fun e w' => e = .returned (.int .i64 (sc2 ss n bs m ps qs)) ∧ _) at HK
  by_cases hc : sc2 ss n bs m ps qs = 0
  case neg =>
    rw [(to_code hc).1, (to_code hc).2]
    have hce : (sc2 ss n bs m ps qs != 0) = true := by simpa using hc
    clear HS HB HP HQ
    generalize sc2 ss n bs m ps qs = C at *
    go_enter Try.func37, Try.ntmps37
    go_wp2_with fail
    refine HK.out.mono ?_
    rintro e w1 ⟨rfl, hb1⟩
    go_wp2
    go_ret2
    exact ⟨_, rfl, OwnI.nil _ _, bw_trans hb0 hb1⟩
  obtain ⟨n1, n4, m8, hst, hbd, hpl, hpq, hpn, hqn⟩ := sc2_facts HS.length HB.1 hc
  rw [hc] at HK
  have hkn : k = n := by rw [← HP.length]; exact hpn
  subst hkn
  have hln : l = k := by rw [← HQ.length]; exact hqn
  subst hln
  have HM := Lib.hid (fun W (hW : Below w.heap.size w W) => reach_any A l c ss B m d bs P e ps W (HS.below hW) (HB.below hW) (HP.below hW) n1 n4 m8 hst hbd hpl)
  have HKY := Lib.hid (fun W (hW : Below w.heap.size w W) => key_any Q l f qs W (HQ.below hW) ⟨n1, n4⟩)
  have hkw := kw_of (vn_of hst hpq)
  obtain ⟨g1, g2, g3⟩ := all_gd (bs := bs) hst n4 hpl
  have HHA := Lib.hid (fun vs => mp_hasN (out := toR ss l bs ps) (vs := vs) n4 (fun y hy => kw_of (g3 y hy)) hkw)
  have HAT := Lib.hid (fun vs j (hj : j < (toR ss l bs ps).length) z => mp_at (out := toR ss l bs ps) (vs := vs) n4 (fun y hy => kw_of (g3 y hy)) g1.2.2.2.1 (Nat.le_refl _) hj z)
  have HTN := Lib.hid (fun h2 => to_no (ss := ss) (n := l) (bs := bs) (m := m) (ps := ps) (qs := qs) hc h2)
  have HTY := Lib.hid (fun h2 => to_yes (ss := ss) (n := l) (bs := bs) (m := m) (ps := ps) (qs := qs) hc h2)
  clear HS HB HP HQ hst hbd hpl hpq hpn hqn hc g1 g3
  change Hid (∀ W, Below w.heap.size w W → Calls Try.prog 50 _ W (GivesR (toR ss l bs ps) W)) at HM
  replace g2 : (toR ss l bs ps).length ≤ 256 := g2
  generalize toR ss l bs ps = all at *
  generalize toC ss l bs m ps qs = C at *
  generalize toL ss l bs m ps qs = L0 at *
  go_enter Try.func37, Try.ntmps37
  go_wp2_with fail
  refine HK.out.mono ?_
  rintro e w1 ⟨rfl, hb1⟩
  have hc0 : w1.cell? ⟨w.heap.size, 0, none⟩ = some (.slice A l c) := cell_of hb1 (by go_simp)
  have hc1 : w1.cell? ⟨w.heap.size, 1, none⟩ = some (.slice B m d) := cell_of hb1 (by go_simp)
  have hbw := bw_trans hb0 hb1
  clear HK hb1 hb0
  go_wp2_with fail
  refine (HM.out _ hbw).mono ?_
  rintro e w2 ⟨vs, rfl, hvl, hmap, hown, hb2⟩
  have hbw2 := bw_trans hbw hb2
  have HVO := Lib.hid hown
  have HMP := Lib.hid hmap
  have hss := hbw.size
  clear hmap hown HM hvl
  go_wp2_with fail
  refine (HKY.out _ hbw2).mono ?_
  rintro e w3 ⟨rfl, hb3⟩
  have hbw3 := bw_trans hbw2 hb3
  have HMQ := Lib.hid (HMP.out.kept (grown_of_below hb3 none) (show some (w1.heap.size + 1) ≠ none by simp))
  have HVO3 := Lib.hid (fun j hj => (HVO.out j hj).below hb3)
  have HH2 := Lib.hid (HHA.out vs)
  have HA2 := Lib.hid (HAT.out vs)
  clear HMP HVO HHA HAT HKY hb2 hb3 hbw hbw2 hc0 hc1
  cases hX : hasN all qs
  · obtain ⟨rfl, rfl⟩ := HTN.out hX
    rw [hX] at HH2
    clear HTN HTY hX HA2 HVO3
    go_wp2_with (at_lookup; refine wpList_lookup_own_ok _ rfl _ _ 68 rfl 71 22 keyLaw Try.underlying68 heldR (zeroI _) (.held (.slice none 0 0)) [] rfl (w1.heap.size + 1) _ _ rfl HMQ.out _ _ rfl (key_of hkw) ?_; intro v pz hv; rw [HH2.out])
    go_ret2
    exact ⟨_, rfl, OwnI.nil _ _, hbw3⟩
  · obtain ⟨rfl, e2⟩ := HTY.out hX
    obtain ⟨J, hfd, hJ, hJq⟩ := fd_yes hX
    rw [hX] at HH2
    rw [hfd, Int.toNat_natCast] at e2
    have hat := HA2.out J hJ
    rw [hJq] at hat
    have HAJ := Lib.hid hat
    have HVJ := Lib.hid (HVO3.out J hJ)
    have HL := Lib.hid e2
    clear HTN HTY hX HA2 HVO3 hat hfd hJq e2
    go_wp2_with (at_lookup; refine wpList_lookup_own_ok _ rfl _ _ 68 rfl 71 22 keyLaw Try.underlying68 heldR (zeroI _) (.held (.slice none 0 0)) [] rfl (w1.heap.size + 1) _ _ rfl HMQ.out _ _ rfl (key_of hkw) ?_; intro v pz hv; rw [HH2.out]; rw [HAJ.out] at hv; (have HVV := Lib.hid (held_eq hv)); clear hv)
    go_ret2
    refine ⟨_, rfl, ?_, hbw3⟩
    rw [HVV.out, HL.out]
    exact OwnI.base HVJ.out (by omega)

set_option maxRecDepth 100000 in
set_option maxHeartbeats 6400000 in
theorem law_MovesTo (a_aX : Option Addr) (l_aX c_aX : Nat) (xs_aX : List Int) (b_aX : Option Addr) (m_aX d_aX : Nat) (bs_aX : List BrE) (a_aFrom : Option Addr) (l_aFrom c_aFrom : Nat) (xs_aFrom : List Int) (a_aTo : Option Addr) (l_aTo c_aTo : Nat) (xs_aTo : List Int) (w : World) (hl_aX : l_aX ≤ 9223372036854775807) (hm_aX : m_aX ≤ 9223372036854775807) (H_aX : SlI w a_aX l_aX xs_aX) (HB_aX : SlBr w b_aX m_aX bs_aX) (hm_aFrom : l_aFrom ≤ 9223372036854775807) (H_aFrom : SlI w a_aFrom l_aFrom xs_aFrom) (hm_aTo : l_aTo ≤ 9223372036854775807) (H_aTo : SlI w a_aTo l_aTo xs_aTo) :
    Calls Try.prog 10 #[.agg #[.slice a_aX l_aX c_aX, .slice b_aX m_aX d_aX], .slice a_aFrom l_aFrom c_aFrom, .slice a_aTo l_aTo c_aTo] w fun e w' => e = .returned (.bool true) ∧ Below w.heap.size w w' := by
  by_cases hn_aFrom : l_aFrom ≤ 1048576
  case neg =>
    clear H_aX HB_aX H_aFrom H_aTo
    go_enter Try.func10, Try.ntmps10
    go_wp2
    go_ret
    exact ⟨rfl, bw_alloc (Below.refl _ _) _⟩
  by_cases hn_aTo : l_aTo ≤ 1048576
  case neg =>
    clear H_aX HB_aX H_aFrom H_aTo
    go_enter Try.func10, Try.ntmps10
    go_wp2
    go_ret
    exact ⟨rfl, bw_alloc (Below.refl _ _) _⟩
  have HSZ := Lib.hid (fun W => szSlide_any a_aX l_aX c_aX b_aX m_aX d_aX 1048576 W hl_aX hm_aX ⟨by omega, by omega⟩)
  have hsz := @szD_ok 1048576 l_aX m_aX (by omega)
  generalize szD 1048576 l_aX m_aX = Z at *
  by_cases hz : Z < 0
  case pos =>
    clear H_aX HB_aX H_aFrom H_aTo hsz
    go_enter Try.func10, Try.ntmps10
    go_wp2_with fail
    refine (HSZ.out _).mono ?_
    rintro e w0 ⟨rfl, hB0⟩
    go_wp2
    go_ret
    exact ⟨rfl, bw_trans (bw_alloc (Below.refl _ _) _) hB0⟩
  obtain ⟨hn_aX, hq_aX⟩ := hsz hz
  clear hsz
  have hS : ∀ (A_aX : Option Addr) (C_aX : Nat) (B_aX : Option Addr) (D_aX : Nat) (A_aFrom : Option Addr) (C_aFrom : Nat) (A_aTo : Option Addr) (C_aTo : Nat) (W : World), SlI W A_aX l_aX xs_aX → SlBr W B_aX m_aX bs_aX → SlI W A_aFrom l_aFrom xs_aFrom → SlI W A_aTo l_aTo xs_aTo → Calls Try.prog 36 #[.agg #[.slice A_aX l_aX C_aX, .slice B_aX m_aX D_aX], .slice A_aFrom l_aFrom C_aFrom, .slice A_aTo l_aTo C_aTo] W (GivesIC (toL xs_aX l_aX bs_aX m_aX xs_aFrom xs_aTo) (toC xs_aX l_aX bs_aX m_aX xs_aFrom xs_aTo) W) := fun A_aX C_aX B_aX D_aX A_aFrom C_aFrom A_aTo C_aTo W K_aX KB_aX K_aFrom K_aTo => sMovesTo_any A_aX l_aX C_aX xs_aX B_aX m_aX D_aX bs_aX A_aFrom l_aFrom C_aFrom xs_aFrom A_aTo l_aTo C_aTo xs_aTo W K_aX KB_aX K_aFrom K_aTo hn_aX hq_aX hn_aFrom hn_aTo
  have hI : ∀ (A_aX : Option Addr) (C_aX : Nat) (B_aX : Option Addr) (D_aX : Nat) (A_aFrom : Option Addr) (C_aFrom : Nat) (A_aTo : Option Addr) (C_aTo : Nat) (W : World), SlI W A_aX l_aX xs_aX → SlBr W B_aX m_aX bs_aX → SlI W A_aFrom l_aFrom xs_aFrom → SlI W A_aTo l_aTo xs_aTo → Calls Try.prog 37 #[.agg #[.slice A_aX l_aX C_aX, .slice B_aX m_aX D_aX], .slice A_aFrom l_aFrom C_aFrom, .slice A_aTo l_aTo C_aTo] W (GivesIC (toL xs_aX l_aX bs_aX m_aX xs_aFrom xs_aTo) (toC xs_aX l_aX bs_aX m_aX xs_aFrom xs_aTo) W) := fun A_aX C_aX B_aX D_aX A_aFrom C_aFrom A_aTo C_aTo W K_aX KB_aX K_aFrom K_aTo => iMovesTo_any A_aX l_aX C_aX xs_aX B_aX m_aX D_aX bs_aX A_aFrom l_aFrom C_aFrom xs_aFrom A_aTo l_aTo C_aTo xs_aTo W K_aX KB_aX K_aFrom K_aTo hn_aX hq_aX hn_aFrom hn_aTo
  have hy : (toL xs_aX l_aX bs_aX m_aX xs_aFrom xs_aTo).length ≤ 1048576 := to_len H_aX.length HB_aX.1
  generalize toL xs_aX l_aX bs_aX m_aX xs_aFrom xs_aTo = ys at *
  generalize toC xs_aX l_aX bs_aX m_aX xs_aFrom xs_aTo = K0 at *
  have HS := Lib.hid hS
  have HI := Lib.hid hI
  clear hS hI
  have HT := Lib.hid (fun W (hW : Below w.heap.size w W) => toSlide_any a_aX l_aX c_aX xs_aX b_aX m_aX d_aX bs_aX W (H_aX.below hW) (HB_aX.below hW) hn_aX hq_aX)
  clear H_aX HB_aX
  go_enter Try.func10, Try.ntmps10
  go_wp2_with fail
  refine (HSZ.out _).mono ?_
  rintro e w1 ⟨rfl, hb⟩
  clear HSZ
  have hX0 : w1.cell? ⟨w.heap.size, 0, none⟩ = some (.slice a_aX l_aX c_aX) := cell_of hb (by go_simp)
  have hX1 : w1.cell? ⟨w.heap.size, 1, none⟩ = some (.slice b_aX m_aX d_aX) := cell_of hb (by go_simp)
  have hB := bw_trans (bw_alloc (Below.refl _ _) _) hb
  have ZB : w.heap.size < w1.heap.size := World.block_lt_of_cell? w1 _ hX0
  clear hb
  go_wp2_with fail
  refine (HT.out _ hB).mono ?_
  rintro e w2 ⟨gs1, gs2, rfl, Ns1, Ns2, Ns3, Os, Xs, Fs, hb⟩
  replace hX0 := cell_of hb hX0
  replace hX1 := cell_of hb hX1
  replace ZB := Nat.lt_of_lt_of_le ZB hb.size
  replace hB := bw_trans hB hb
  clear hb
  replace Fs := Lib.hid Fs
  have Ss : SlI w2 (some ⟨gs1, 0, none⟩) l_aX xs_aX := by (have h := Os.sl; rw [← h.1] at h; exact h.2)
  go_wp2_with fail
  refine (toInts_any a_aFrom l_aFrom c_aFrom xs_aFrom _ (H_aFrom.below hB) hn_aFrom).mono ?_
  rintro e w3 ⟨rfl, he⟩
  have hb : Below w2.heap.size w2 w3 := by rw [he]; exact bw_alloc (Below.refl _ _) _
  have Os_aFrom : OwnI w3 w2.heap.size (.slice (some ⟨w2.heap.size, 0, none⟩) l_aFrom l_aFrom) xs_aFrom := by rw [he]; exact OwnI.made H_aFrom.length hn_aFrom
  have Zs_aFrom : w2.heap.size < w3.heap.size := by rw [he]; simp
  clear he
  replace Fs : Hid _ := fun j => (hb.frozen (p := ⟨gs2, j, none⟩) Ns3).trans (Fs.out j)
  replace Ss := Ss.below hb
  replace Os := Os.below hb
  replace Xs := Xs.below hb
  replace hX0 := cell_of hb hX0
  replace hX1 := cell_of hb hX1
  replace ZB := Nat.lt_of_lt_of_le ZB hb.size
  replace Ns3 := Nat.lt_of_lt_of_le Ns3 hb.size
  replace hB := bw_trans hB hb
  clear hb
  go_wp2_with fail
  refine (toInts_any a_aTo l_aTo c_aTo xs_aTo _ (H_aTo.below hB) hn_aTo).mono ?_
  rintro e w4 ⟨rfl, he⟩
  have hb : Below w3.heap.size w3 w4 := by rw [he]; exact bw_alloc (Below.refl _ _) _
  have Os_aTo : OwnI w4 w3.heap.size (.slice (some ⟨w3.heap.size, 0, none⟩) l_aTo l_aTo) xs_aTo := by rw [he]; exact OwnI.made H_aTo.length hn_aTo
  have Zs_aTo : w3.heap.size < w4.heap.size := by rw [he]; simp
  clear he
  replace Fs : Hid _ := fun j => (hb.frozen (p := ⟨gs2, j, none⟩) Ns3).trans (Fs.out j)
  replace Ss := Ss.below hb
  replace Os := Os.below hb
  replace Xs := Xs.below hb
  replace Os_aFrom := Os_aFrom.below hb
  replace hX0 := cell_of hb hX0
  replace hX1 := cell_of hb hX1
  replace ZB := Nat.lt_of_lt_of_le ZB hb.size
  replace Ns3 := Nat.lt_of_lt_of_le Ns3 hb.size
  replace Zs_aFrom := Nat.lt_of_lt_of_le Zs_aFrom hb.size
  replace hB := bw_trans hB hb
  clear hb
  go_wp2_with fail
  refine (HS.out (some ⟨gs1, 0, none⟩) l_aX (some ⟨gs2, 0, none⟩) m_aX (some ⟨w2.heap.size, 0, none⟩) l_aFrom (some ⟨w3.heap.size, 0, none⟩) l_aTo _ Ss Xs (by have h := Os_aFrom.sl; rw [← h.1] at h; exact h.2) (by have h := Os_aTo.sl; rw [← h.1] at h; exact h.2)).mono ?_
  rintro e w5 ⟨Vw, rfl, Gw, hb⟩
  replace Fs : Hid _ := fun j => (hb.frozen (p := ⟨gs2, j, none⟩) Ns3).trans (Fs.out j)
  replace Ss := Ss.below hb
  replace Os := Os.below hb
  replace Xs := Xs.below hb
  replace Os_aFrom := Os_aFrom.below hb
  replace Os_aTo := Os_aTo.below hb
  replace hX0 := cell_of hb hX0
  replace hX1 := cell_of hb hX1
  replace ZB := Nat.lt_of_lt_of_le ZB hb.size
  replace Ns3 := Nat.lt_of_lt_of_le Ns3 hb.size
  replace Zs_aFrom := Nat.lt_of_lt_of_le Zs_aFrom hb.size
  replace Zs_aTo := Nat.lt_of_lt_of_le Zs_aTo hb.size
  replace hB := bw_trans hB hb
  obtain ⟨Aw, cw, rfl⟩ := Gw.form
  clear hb
  clear Ss Os Xs Fs Ns3
  clear Os_aFrom Zs_aFrom
  clear Os_aTo Zs_aTo
  have hW := Below.refl w5.heap.size w5
  have LZB : w.heap.size < w5.heap.size := ZB
  have hBs : w.heap.size ≤ w5.heap.size := hB.size
  have GW := Gw.sl.2
  clear Gw
  go_wp2_with fail
  refine (HT.out _ hB).mono ?_
  rintro e w6 ⟨gx1, gx2, rfl, Nx1, Nx2, Nx3, Ox, Xx, Fx, hb⟩
  replace hX0 := cell_of hb hX0
  replace hX1 := cell_of hb hX1
  replace ZB := Nat.lt_of_lt_of_le ZB hb.size
  replace hB := bw_trans hB hb
  replace hW := bw_trans hW hb
  clear hb
  replace Fx := Lib.hid Fx
  have Sx : SlI w6 (some ⟨gx1, 0, none⟩) l_aX xs_aX := by (have h := Ox.sl; rw [← h.1] at h; exact h.2)
  go_wp2_with fail
  have hb : Below w6.heap.size w6 (w6.alloc (.cells #[.slice (some ⟨gx1, 0, none⟩) l_aX l_aX, .slice (some ⟨gx2, 0, none⟩) m_aX m_aX] 33)) := bw_alloc (Below.refl _ _) _
  have hY0 : (w6.alloc (.cells #[.slice (some ⟨gx1, 0, none⟩) l_aX l_aX, .slice (some ⟨gx2, 0, none⟩) m_aX m_aX] 33)).cell? ⟨w6.heap.size, 0, none⟩ = some (.slice (some ⟨gx1, 0, none⟩) l_aX l_aX) := by go_simp
  have hY1 : (w6.alloc (.cells #[.slice (some ⟨gx1, 0, none⟩) l_aX l_aX, .slice (some ⟨gx2, 0, none⟩) m_aX m_aX] 33)).cell? ⟨w6.heap.size, 1, none⟩ = some (.slice (some ⟨gx2, 0, none⟩) m_aX m_aX) := by go_simp
  generalize (w6.alloc (.cells #[.slice (some ⟨gx1, 0, none⟩) l_aX l_aX, .slice (some ⟨gx2, 0, none⟩) m_aX m_aX] 33)) = w7 at hb hY0 hY1 ⊢
  replace Fx : Hid _ := fun j => (hb.frozen (p := ⟨gx2, j, none⟩) Nx3).trans (Fx.out j)
  replace Sx := Sx.below hb
  replace Ox := Ox.below hb
  replace Xx := Xx.below hb
  replace hX0 := cell_of hb hX0
  replace hX1 := cell_of hb hX1
  replace ZB := Nat.lt_of_lt_of_le ZB hb.size
  replace Nx3 := Nat.lt_of_lt_of_le Nx3 hb.size
  replace hB := bw_trans hB hb
  replace hW := bw_trans hW hb
  clear hb
  have LX : w5.heap.size ≤ gx1 := Nx1
  go_wp2_with fail
  refine (toInts_any a_aFrom l_aFrom c_aFrom xs_aFrom _ (H_aFrom.below hB) hn_aFrom).mono ?_
  rintro e w8 ⟨rfl, he⟩
  have hb : Below w7.heap.size w7 w8 := by rw [he]; exact bw_alloc (Below.refl _ _) _
  have LGX_aFrom := Lib.hid (show gx2 < w7.heap.size from Nx3)
  have Ox_aFrom : OwnI w8 w7.heap.size (.slice (some ⟨w7.heap.size, 0, none⟩) l_aFrom l_aFrom) xs_aFrom := by rw [he]; exact OwnI.made H_aFrom.length hn_aFrom
  have Zx_aFrom : w7.heap.size < w8.heap.size := by rw [he]; simp
  clear he
  replace Fx : Hid _ := fun j => (hb.frozen (p := ⟨gx2, j, none⟩) Nx3).trans (Fx.out j)
  replace Sx := Sx.below hb
  replace Ox := Ox.below hb
  replace Xx := Xx.below hb
  replace hX0 := cell_of hb hX0
  replace hX1 := cell_of hb hX1
  replace hY0 := cell_of hb hY0
  replace hY1 := cell_of hb hY1
  replace ZB := Nat.lt_of_lt_of_le ZB hb.size
  replace Nx3 := Nat.lt_of_lt_of_le Nx3 hb.size
  replace hB := bw_trans hB hb
  replace hW := bw_trans hW hb
  clear hb
  go_wp2_with fail
  refine (toInts_any a_aTo l_aTo c_aTo xs_aTo _ (H_aTo.below hB) hn_aTo).mono ?_
  rintro e w9 ⟨rfl, he⟩
  have hb : Below w8.heap.size w8 w9 := by rw [he]; exact bw_alloc (Below.refl _ _) _
  have LGX_aTo := Lib.hid (show gx2 < w8.heap.size from Nx3)
  have LTX_aFrom_aTo := Lib.hid (show w7.heap.size < w8.heap.size from Zx_aFrom)
  have Ox_aTo : OwnI w9 w8.heap.size (.slice (some ⟨w8.heap.size, 0, none⟩) l_aTo l_aTo) xs_aTo := by rw [he]; exact OwnI.made H_aTo.length hn_aTo
  have Zx_aTo : w8.heap.size < w9.heap.size := by rw [he]; simp
  clear he
  replace Fx : Hid _ := fun j => (hb.frozen (p := ⟨gx2, j, none⟩) Nx3).trans (Fx.out j)
  replace Sx := Sx.below hb
  replace Ox := Ox.below hb
  replace Xx := Xx.below hb
  replace Ox_aFrom := Ox_aFrom.below hb
  replace hX0 := cell_of hb hX0
  replace hX1 := cell_of hb hX1
  replace hY0 := cell_of hb hY0
  replace hY1 := cell_of hb hY1
  replace ZB := Nat.lt_of_lt_of_le ZB hb.size
  replace Nx3 := Nat.lt_of_lt_of_le Nx3 hb.size
  replace Zx_aFrom := Nat.lt_of_lt_of_le Zx_aFrom hb.size
  replace hB := bw_trans hB hb
  replace hW := bw_trans hW hb
  clear hb
  have BGX : gx2 < w9.heap.size := Nx3
  have BGhW := Lib.hid (show w5.heap.size ≤ w9.heap.size from hW.size)
  have BGhB := Lib.hid (show w.heap.size ≤ w9.heap.size from hB.size)
  have LE_aFrom := Lib.hid (show w7.heap.size < w9.heap.size from Zx_aFrom)
  have LG_aFrom := Lib.hid (show gx2 < w7.heap.size from LGX_aFrom.out)
  have LT_aFrom_aTo := Lib.hid (show w7.heap.size < w8.heap.size from LTX_aFrom_aTo.out)
  have LE_aTo := Lib.hid (show w8.heap.size < w9.heap.size from Zx_aTo)
  have LG_aTo := Lib.hid (show gx2 < w8.heap.size from LGX_aTo.out)
  go_wp2_with fail
  refine (HI.out (some ⟨gx1, 0, none⟩) l_aX (some ⟨gx2, 0, none⟩) m_aX (some ⟨w7.heap.size, 0, none⟩) l_aFrom (some ⟨w8.heap.size, 0, none⟩) l_aTo _ Sx Xx (by have h := Ox_aFrom.sl; rw [← h.1] at h; exact h.2) (by have h := Ox_aTo.sl; rw [← h.1] at h; exact h.2)).mono ?_
  rintro e w10 ⟨Vg, rfl, Gg, hb⟩
  replace Fx : Hid _ := fun j => (hb.frozen (p := ⟨gx2, j, none⟩) Nx3).trans (Fx.out j)
  replace Sx := Sx.below hb
  replace Ox := Ox.below hb
  replace Xx := Xx.below hb
  replace Ox_aFrom := Ox_aFrom.below hb
  replace Ox_aTo := Ox_aTo.below hb
  replace hX0 := cell_of hb hX0
  replace hX1 := cell_of hb hX1
  replace hY0 := cell_of hb hY0
  replace hY1 := cell_of hb hY1
  replace ZB := Nat.lt_of_lt_of_le ZB hb.size
  replace Nx3 := Nat.lt_of_lt_of_le Nx3 hb.size
  replace Zx_aFrom := Nat.lt_of_lt_of_le Zx_aFrom hb.size
  replace Zx_aTo := Nat.lt_of_lt_of_le Zx_aTo hb.size
  replace hB := bw_trans hB hb
  replace hW := bw_trans hW hb
  obtain ⟨Ag, cg, rfl⟩ := Gg.form
  clear hb
  go_wp2_with fail
  refine (eqInts_any Ag Aw ys.length cg cw _ _ Gg.sl.2 (GW.below hW) hy).mono ?_
  rintro e w11 ⟨rfl, hb⟩
  replace Fx : Hid _ := fun j => (hb.frozen (p := ⟨gx2, j, none⟩) Nx3).trans (Fx.out j)
  replace Sx := Sx.below hb
  replace Ox := Ox.below hb
  replace Xx := Xx.below hb
  replace Ox_aFrom := Ox_aFrom.below hb
  replace Ox_aTo := Ox_aTo.below hb
  replace Gg := Gg.below hb
  replace hX0 := cell_of hb hX0
  replace hX1 := cell_of hb hX1
  replace hY0 := cell_of hb hY0
  replace hY1 := cell_of hb hY1
  replace ZB := Nat.lt_of_lt_of_le ZB hb.size
  replace Nx3 := Nat.lt_of_lt_of_le Nx3 hb.size
  replace Zx_aFrom := Nat.lt_of_lt_of_le Zx_aFrom hb.size
  replace Zx_aTo := Nat.lt_of_lt_of_le Zx_aTo hb.size
  replace hB := bw_trans hB hb
  replace hW := bw_trans hW hb
  clear hb
  go_wp2_with fail
  have hT2 := Lib.hid (fun W (hW2 : Below w11.heap.size w11 W) => HT.out W (bw_trans hB hW2))
  have hE2 := Lib.hid (fun (A' : Option Addr) (B' : Option Addr) W (hW2 : Below w11.heap.size w11 W) (h1 : SlI W A' l_aX xs_aX) (h2 : SlBr W B' m_aX bs_aX) => eqSlide_any (some ⟨gx1, 0, none⟩) l_aX l_aX xs_aX (some ⟨gx2, 0, none⟩) m_aX m_aX bs_aX A' l_aX B' m_aX W (Sx.below hW2) (Xx.below hW2) h1 h2 hn_aX hq_aX)
  go_region_held3 (fun w' => w'.cell? ⟨w.heap.size, 0, none⟩ = some (.slice a_aX l_aX c_aX) ∧ w'.cell? ⟨w.heap.size, 1, none⟩ = some (.slice b_aX m_aX d_aX) ∧ w'.cell? ⟨w6.heap.size, 0, none⟩ = some (.slice (some ⟨gx1, 0, none⟩) l_aX l_aX) ∧ w'.cell? ⟨w6.heap.size, 1, none⟩ = some (.slice (some ⟨gx2, 0, none⟩) m_aX m_aX))
    (((try dsimp only); (repeat' apply And.intro) <;> first | assumption | go_simp))
    (first | (go_at_call 14; refine (hT2.out _ (Below.refl _ _).drew).mono ?_; rintro e wa ⟨gq1, gq2, rfl, _, _, _, Oq, Xq, _, hba0⟩; (have hba : Below w11.heap.size w11 wa := bw_trans (Below.refl _ _).drew hba0); (have Sq : SlI wa (some ⟨gq1, 0, none⟩) l_aX xs_aX := by (have h := Oq.sl; rw [← h.1] at h; exact h.2)); (have hv0 := cell_of hba hX0); (have hv1 := cell_of hba hX1); (have hv2 := cell_of hba hY0); (have hv3 := cell_of hba hY1)) | (go_at_call 18; refine (hE2.out _ _ _ hba Sq Xq).mono ?_; rintro e w12 ⟨rfl, hbb⟩; (have hb : Below w11.heap.size w11 w12 := bw_trans hba hbb); (have hu0 := cell_of hbb hv0); (have hu1 := cell_of hbb hv1); (have hu2 := cell_of hbb hv2); (have hu3 := cell_of hbb hv3)))
  clear hT2 hE2 Oq Xq Sq hv0 hv1 hv2 hv3 hu0 hu1 hu2 hu3 hba hba0 hbb
  replace Fx : Hid _ := fun j => (hb.frozen (p := ⟨gx2, j, none⟩) Nx3).trans (Fx.out j)
  replace Sx := Sx.below hb
  replace Ox := Ox.below hb
  replace Xx := Xx.below hb
  replace Ox_aFrom := Ox_aFrom.below hb
  replace Ox_aTo := Ox_aTo.below hb
  replace Gg := Gg.below hb
  replace hX0 := cell_of hb hX0
  replace hX1 := cell_of hb hX1
  replace hY0 := cell_of hb hY0
  replace hY1 := cell_of hb hY1
  replace ZB := Nat.lt_of_lt_of_le ZB hb.size
  replace Nx3 := Nat.lt_of_lt_of_le Nx3 hb.size
  replace Zx_aFrom := Nat.lt_of_lt_of_le Zx_aFrom hb.size
  replace Zx_aTo := Nat.lt_of_lt_of_le Zx_aTo hb.size
  replace hB := bw_trans hB hb
  replace hW := bw_trans hW hb
  clear hb
  go_wp2_with fail
  refine (toInts_any a_aFrom l_aFrom c_aFrom xs_aFrom _ (H_aFrom.below hB) hn_aFrom).mono ?_
  rintro e w13 ⟨rfl, he⟩
  have hb : Below w12.heap.size w12 w13 := by rw [he]; exact bw_alloc (Below.refl _ _) _
  have Oq_aFrom : OwnI w13 w12.heap.size (.slice (some ⟨w12.heap.size, 0, none⟩) l_aFrom l_aFrom) xs_aFrom := by rw [he]; exact OwnI.made H_aFrom.length hn_aFrom
  have Zq_aFrom : w12.heap.size < w13.heap.size := by rw [he]; simp
  clear he
  replace Fx : Hid _ := fun j => (hb.frozen (p := ⟨gx2, j, none⟩) Nx3).trans (Fx.out j)
  replace Sx := Sx.below hb
  replace Ox := Ox.below hb
  replace Xx := Xx.below hb
  replace Ox_aFrom := Ox_aFrom.below hb
  replace Ox_aTo := Ox_aTo.below hb
  replace Gg := Gg.below hb
  replace hX0 := cell_of hb hX0
  replace hX1 := cell_of hb hX1
  replace hY0 := cell_of hb hY0
  replace hY1 := cell_of hb hY1
  replace ZB := Nat.lt_of_lt_of_le ZB hb.size
  replace Nx3 := Nat.lt_of_lt_of_le Nx3 hb.size
  replace Zx_aFrom := Nat.lt_of_lt_of_le Zx_aFrom hb.size
  replace Zx_aTo := Nat.lt_of_lt_of_le Zx_aTo hb.size
  replace hB := bw_trans hB hb
  replace hW := bw_trans hW hb
  clear hb
  go_wp2_with fail
  refine (eqInts_any _ _ l_aFrom l_aFrom l_aFrom _ _ (by have h := Ox_aFrom.sl; rw [← h.1] at h; exact h.2) (by have h := Oq_aFrom.sl; rw [← h.1] at h; exact h.2) hn_aFrom).mono ?_
  rintro e w14 ⟨rfl, hb⟩
  replace Fx : Hid _ := fun j => (hb.frozen (p := ⟨gx2, j, none⟩) Nx3).trans (Fx.out j)
  replace Sx := Sx.below hb
  replace Ox := Ox.below hb
  replace Xx := Xx.below hb
  replace Ox_aFrom := Ox_aFrom.below hb
  replace Ox_aTo := Ox_aTo.below hb
  replace Gg := Gg.below hb
  replace Oq_aFrom := Oq_aFrom.below hb
  replace hX0 := cell_of hb hX0
  replace hX1 := cell_of hb hX1
  replace hY0 := cell_of hb hY0
  replace hY1 := cell_of hb hY1
  replace ZB := Nat.lt_of_lt_of_le ZB hb.size
  replace Nx3 := Nat.lt_of_lt_of_le Nx3 hb.size
  replace Zx_aFrom := Nat.lt_of_lt_of_le Zx_aFrom hb.size
  replace Zx_aTo := Nat.lt_of_lt_of_le Zx_aTo hb.size
  replace Zq_aFrom := Nat.lt_of_lt_of_le Zq_aFrom hb.size
  replace hB := bw_trans hB hb
  replace hW := bw_trans hW hb
  clear hb
  clear Oq_aFrom Zq_aFrom
  go_wp2_with fail
  refine (toInts_any a_aTo l_aTo c_aTo xs_aTo _ (H_aTo.below hB) hn_aTo).mono ?_
  rintro e w15 ⟨rfl, he⟩
  have hb : Below w14.heap.size w14 w15 := by rw [he]; exact bw_alloc (Below.refl _ _) _
  have Oq_aTo : OwnI w15 w14.heap.size (.slice (some ⟨w14.heap.size, 0, none⟩) l_aTo l_aTo) xs_aTo := by rw [he]; exact OwnI.made H_aTo.length hn_aTo
  have Zq_aTo : w14.heap.size < w15.heap.size := by rw [he]; simp
  clear he
  replace Fx : Hid _ := fun j => (hb.frozen (p := ⟨gx2, j, none⟩) Nx3).trans (Fx.out j)
  replace Sx := Sx.below hb
  replace Ox := Ox.below hb
  replace Xx := Xx.below hb
  replace Ox_aFrom := Ox_aFrom.below hb
  replace Ox_aTo := Ox_aTo.below hb
  replace Gg := Gg.below hb
  replace hX0 := cell_of hb hX0
  replace hX1 := cell_of hb hX1
  replace hY0 := cell_of hb hY0
  replace hY1 := cell_of hb hY1
  replace ZB := Nat.lt_of_lt_of_le ZB hb.size
  replace Nx3 := Nat.lt_of_lt_of_le Nx3 hb.size
  replace Zx_aFrom := Nat.lt_of_lt_of_le Zx_aFrom hb.size
  replace Zx_aTo := Nat.lt_of_lt_of_le Zx_aTo hb.size
  replace hB := bw_trans hB hb
  replace hW := bw_trans hW hb
  clear hb
  go_wp2_with fail
  refine (eqInts_any _ _ l_aTo l_aTo l_aTo _ _ (by have h := Ox_aTo.sl; rw [← h.1] at h; exact h.2) (by have h := Oq_aTo.sl; rw [← h.1] at h; exact h.2) hn_aTo).mono ?_
  rintro e w16 ⟨rfl, hb⟩
  replace Fx : Hid _ := fun j => (hb.frozen (p := ⟨gx2, j, none⟩) Nx3).trans (Fx.out j)
  replace Sx := Sx.below hb
  replace Ox := Ox.below hb
  replace Xx := Xx.below hb
  replace Ox_aFrom := Ox_aFrom.below hb
  replace Ox_aTo := Ox_aTo.below hb
  replace Gg := Gg.below hb
  replace Oq_aTo := Oq_aTo.below hb
  replace hX0 := cell_of hb hX0
  replace hX1 := cell_of hb hX1
  replace hY0 := cell_of hb hY0
  replace hY1 := cell_of hb hY1
  replace ZB := Nat.lt_of_lt_of_le ZB hb.size
  replace Nx3 := Nat.lt_of_lt_of_le Nx3 hb.size
  replace Zx_aFrom := Nat.lt_of_lt_of_le Zx_aFrom hb.size
  replace Zx_aTo := Nat.lt_of_lt_of_le Zx_aTo hb.size
  replace Zq_aTo := Nat.lt_of_lt_of_le Zq_aTo hb.size
  replace hB := bw_trans hB hb
  replace hW := bw_trans hW hb
  clear hb
  clear Oq_aTo Zq_aTo
  go_wp2_with fail
  refine (markSlide_any gx1 gx2 l_aX m_aX xs_aX bs_aX 1 _ Ox Xx Fx.out Nx2 Nx3 hn_aX hq_aX ⟨by omega, by omega⟩).mono ?_
  rintro e w17 ⟨rfl, hg, hr⟩
  replace hB := bw_from hB (hg.mono (Nat.le_trans hBs LX))
  replace hW := bw_from hW (hg.mono LX)
  have hlX : w.heap.size < gx1 := Nat.lt_of_lt_of_le LZB LX
  replace hX0 := (hg.cell (p := ⟨w.heap.size, 0, none⟩) hlX).trans hX0
  replace hX1 := (hg.cell (p := ⟨w.heap.size, 1, none⟩) hlX).trans hX1
  clear hY0 hY1 hlX
  replace ZB := Nat.lt_of_lt_of_le ZB hg.size
  replace Zx_aFrom := Nat.lt_of_lt_of_le Zx_aFrom hg.size
  replace Zx_aTo := Nat.lt_of_lt_of_le Zx_aTo hg.size
  replace Ox_aFrom := hr _ _ _ LG_aFrom.out Ox_aFrom
  replace Ox_aTo := hr _ _ _ LG_aTo.out Ox_aTo
  replace Gg := hr _ _ _ BGX Gg
  clear hg hr Sx Ox Xx Fx Nx3
  go_wp2_with fail
  refine (markI_any _ l_aFrom _ w7.heap.size (1 + (l_aX : Int) + 4 * (m_aX : Int)) xs_aFrom _ Ox_aFrom hn_aFrom ⟨by omega, by omega⟩).mono ?_
  rintro e w18 ⟨rfl, _, hg, _⟩
  replace hg : w17.grownBy w18 (some w7.heap.size) := hg
  have hlg : w7.heap.size < w9.heap.size := LE_aFrom.out
  have hlx : gx2 < w7.heap.size := LG_aFrom.out
  have hww : w5.heap.size < gx2 := Nat.lt_of_le_of_lt LX Nx2
  replace hB := bw_from hB (below_grown hg (fun j hj => by injection hj with hj; omega) hB.size)
  replace hW := bw_from hW (below_grown hg (fun j hj => by injection hj with hj; omega) hW.size)
  replace hX0 := (hg.cell_far ⟨w.heap.size, 0, none⟩ ZB (fun e => absurd (Option.some.inj e) (by dsimp only; omega))).trans hX0
  replace hX1 := (hg.cell_far ⟨w.heap.size, 1, none⟩ ZB (fun e => absurd (Option.some.inj e) (by dsimp only; omega))).trans hX1
  replace ZB := Nat.lt_of_lt_of_le ZB hg.size
  replace Zx_aTo := Nat.lt_of_lt_of_le Zx_aTo hg.size
  replace Ox_aTo := Ox_aTo.keptRow hg LT_aFrom_aTo.out
  replace Gg := Gg.keptRow hg hlg
  clear hg hlg hlx hww Ox_aFrom Zx_aFrom
  go_wp2_with fail
  refine (markI_any _ l_aTo _ w8.heap.size (1 + (l_aX : Int) + 4 * (m_aX : Int) + (l_aFrom : Int)) xs_aTo _ Ox_aTo hn_aTo ⟨by omega, by omega⟩).mono ?_
  rintro e w19 ⟨rfl, _, hg, _⟩
  replace hg : w18.grownBy w19 (some w8.heap.size) := hg
  have hlg : w8.heap.size < w9.heap.size := LE_aTo.out
  have hlx : gx2 < w8.heap.size := LG_aTo.out
  have hww : w5.heap.size < gx2 := Nat.lt_of_le_of_lt LX Nx2
  replace hB := bw_from hB (below_grown hg (fun j hj => by injection hj with hj; omega) hB.size)
  replace hW := bw_from hW (below_grown hg (fun j hj => by injection hj with hj; omega) hW.size)
  replace hX0 := (hg.cell_far ⟨w.heap.size, 0, none⟩ ZB (fun e => absurd (Option.some.inj e) (by dsimp only; omega))).trans hX0
  replace hX1 := (hg.cell_far ⟨w.heap.size, 1, none⟩ ZB (fun e => absurd (Option.some.inj e) (by dsimp only; omega))).trans hX1
  replace ZB := Nat.lt_of_lt_of_le ZB hg.size
  replace Gg := Gg.keptRow hg hlg
  clear hg hlg hlx hww Ox_aTo Zx_aTo
  have hkn : ¬ (1 + (l_aX : Int) + 4 * (m_aX : Int) + (l_aFrom : Int) + (l_aTo : Int) < 0) := by omega
  go_wp2_with fail
  refine (eqInts_any Ag Aw ys.length cg cw _ _ Gg.sl.2 (GW.below hW) hy).mono ?_
  rintro e w20 ⟨rfl, hb⟩
  replace Gg := Gg.below hb
  replace hX0 := cell_of hb hX0
  replace hX1 := cell_of hb hX1
  replace ZB := Nat.lt_of_lt_of_le ZB hb.size
  replace hB := bw_trans hB hb
  replace hW := bw_trans hW hb
  clear hb
  clear hkn
  go_wp2_with fail
  refine (markI_any Ag ys.length cg w9.heap.size 1 ys _ Gg hy ⟨by omega, by omega⟩).mono ?_
  rintro e w21 ⟨rfl, GM, _, hb⟩
  replace hX0 := (hb.cell (p := ⟨w.heap.size, 0, none⟩) (Nat.lt_of_lt_of_le LZB BGhW.out)).trans hX0
  replace hX1 := (hb.cell (p := ⟨w.heap.size, 1, none⟩) (Nat.lt_of_lt_of_le LZB BGhW.out)).trans hX1
  replace hB := bw_from hB (hb.mono BGhB.out)
  replace hW := bw_from hW (hb.mono BGhW.out)
  replace ZB := Nat.lt_of_lt_of_le ZB hb.size
  clear hb Gg
  have hml := mks_len 1 ys.length
  have HM := Lib.hid hml
  clear hml
  have hqn : ¬ (1 + (ys.length : Int) < 0) := by omega
  go_wp2_with fail
  refine (heldI_any Ag ys.length cg 1 _ (by have h := GM.sl.2; rw [HM.out] at h; exact h) hy ⟨by omega, by omega⟩).mono ?_
  rintro e w22 ⟨rfl, hb⟩
  replace GM := GM.below hb
  replace hX0 := cell_of hb hX0
  replace hX1 := cell_of hb hX1
  replace ZB := Nat.lt_of_lt_of_le ZB hb.size
  replace hB := bw_trans hB hb
  replace hW := bw_trans hW hb
  clear hb
  go_wp2_with fail
  refine (HT.out _ hB).mono ?_
  rintro e w23 ⟨gh1, gh2, rfl, Nh1, Nh2, Nh3, Oh, Xh, Fh, hb⟩
  replace GM := GM.below hb
  replace hX0 := cell_of hb hX0
  replace hX1 := cell_of hb hX1
  replace ZB := Nat.lt_of_lt_of_le ZB hb.size
  replace hB := bw_trans hB hb
  replace hW := bw_trans hW hb
  clear hb
  replace Fh := Lib.hid Fh
  have Sh : SlI w23 (some ⟨gh1, 0, none⟩) l_aX xs_aX := by (have h := Oh.sl; rw [← h.1] at h; exact h.2)
  go_wp2_with fail
  refine (toInts_any a_aFrom l_aFrom c_aFrom xs_aFrom _ (H_aFrom.below hB) hn_aFrom).mono ?_
  rintro e w24 ⟨rfl, he⟩
  have hb : Below w23.heap.size w23 w24 := by rw [he]; exact bw_alloc (Below.refl _ _) _
  have Oh_aFrom : OwnI w24 w23.heap.size (.slice (some ⟨w23.heap.size, 0, none⟩) l_aFrom l_aFrom) xs_aFrom := by rw [he]; exact OwnI.made H_aFrom.length hn_aFrom
  have Zh_aFrom : w23.heap.size < w24.heap.size := by rw [he]; simp
  clear he
  replace Fh : Hid _ := fun j => (hb.frozen (p := ⟨gh2, j, none⟩) Nh3).trans (Fh.out j)
  replace GM := GM.below hb
  replace Sh := Sh.below hb
  replace Oh := Oh.below hb
  replace Xh := Xh.below hb
  replace hX0 := cell_of hb hX0
  replace hX1 := cell_of hb hX1
  replace ZB := Nat.lt_of_lt_of_le ZB hb.size
  replace Nh3 := Nat.lt_of_lt_of_le Nh3 hb.size
  replace hB := bw_trans hB hb
  replace hW := bw_trans hW hb
  clear hb
  go_wp2_with fail
  refine (toInts_any a_aTo l_aTo c_aTo xs_aTo _ (H_aTo.below hB) hn_aTo).mono ?_
  rintro e w25 ⟨rfl, he⟩
  have hb : Below w24.heap.size w24 w25 := by rw [he]; exact bw_alloc (Below.refl _ _) _
  have Oh_aTo : OwnI w25 w24.heap.size (.slice (some ⟨w24.heap.size, 0, none⟩) l_aTo l_aTo) xs_aTo := by rw [he]; exact OwnI.made H_aTo.length hn_aTo
  have Zh_aTo : w24.heap.size < w25.heap.size := by rw [he]; simp
  clear he
  replace Fh : Hid _ := fun j => (hb.frozen (p := ⟨gh2, j, none⟩) Nh3).trans (Fh.out j)
  replace GM := GM.below hb
  replace Sh := Sh.below hb
  replace Oh := Oh.below hb
  replace Xh := Xh.below hb
  replace Oh_aFrom := Oh_aFrom.below hb
  replace hX0 := cell_of hb hX0
  replace hX1 := cell_of hb hX1
  replace ZB := Nat.lt_of_lt_of_le ZB hb.size
  replace Nh3 := Nat.lt_of_lt_of_le Nh3 hb.size
  replace Zh_aFrom := Nat.lt_of_lt_of_le Zh_aFrom hb.size
  replace hB := bw_trans hB hb
  replace hW := bw_trans hW hb
  clear hb
  go_wp2_with fail
  refine (HI.out (some ⟨gh1, 0, none⟩) l_aX (some ⟨gh2, 0, none⟩) m_aX (some ⟨w23.heap.size, 0, none⟩) l_aFrom (some ⟨w24.heap.size, 0, none⟩) l_aTo _ Sh Xh (by have h := Oh_aFrom.sl; rw [← h.1] at h; exact h.2) (by have h := Oh_aTo.sl; rw [← h.1] at h; exact h.2)).mono ?_
  rintro e w26 ⟨Vh, rfl, Gh, hb⟩
  replace Fh : Hid _ := fun j => (hb.frozen (p := ⟨gh2, j, none⟩) Nh3).trans (Fh.out j)
  replace GM := GM.below hb
  replace Sh := Sh.below hb
  replace Oh := Oh.below hb
  replace Xh := Xh.below hb
  replace Oh_aFrom := Oh_aFrom.below hb
  replace Oh_aTo := Oh_aTo.below hb
  replace hX0 := cell_of hb hX0
  replace hX1 := cell_of hb hX1
  replace ZB := Nat.lt_of_lt_of_le ZB hb.size
  replace Nh3 := Nat.lt_of_lt_of_le Nh3 hb.size
  replace Zh_aFrom := Nat.lt_of_lt_of_le Zh_aFrom hb.size
  replace Zh_aTo := Nat.lt_of_lt_of_le Zh_aTo hb.size
  replace hB := bw_trans hB hb
  replace hW := bw_trans hW hb
  obtain ⟨Ah, ch, rfl⟩ := Gh.form
  clear hb
  clear Sh Oh Xh Fh Nh3
  clear Oh_aFrom Zh_aFrom
  clear Oh_aTo Zh_aTo
  go_wp2_with fail
  refine (eqInts_any Ah Aw ys.length ch cw _ _ Gh.sl.2 (GW.below hW) hy).mono ?_
  rintro e w27 ⟨rfl, hb⟩
  replace GM := GM.below hb
  replace Gh := Gh.below hb
  replace hX0 := cell_of hb hX0
  replace hX1 := cell_of hb hX1
  replace ZB := Nat.lt_of_lt_of_le ZB hb.size
  replace hB := bw_trans hB hb
  replace hW := bw_trans hW hb
  clear hb
  clear Gh
  go_wp2_with fail
  refine (heldI_any Ag ys.length cg 1 _ (by have h := GM.sl.2; rw [HM.out] at h; exact h) hy ⟨by omega, by omega⟩).mono ?_
  rintro e w28 ⟨rfl, hb⟩
  replace GM := GM.below hb
  replace hX0 := cell_of hb hX0
  replace hX1 := cell_of hb hX1
  replace ZB := Nat.lt_of_lt_of_le ZB hb.size
  replace hB := bw_trans hB hb
  replace hW := bw_trans hW hb
  clear hb
  clear GW GM HM
  go_wp2
  go_ret
  exact ⟨rfl, hB⟩
end Go.Proofs.Yticohpimkicphaa
