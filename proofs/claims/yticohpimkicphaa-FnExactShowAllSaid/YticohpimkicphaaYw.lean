/-
  UselessBars: in the program.
-/
import Derived.Test.YticohpimkicphaaYv
namespace Go.Proofs.Yticohpimkicphaa
open Go.RowKit
open Go.Maps (Keyed)

def cntN (ss : List Int) (n : Nat) (bs : List BrE) (ps : List Int) : Nat := (allN (mvOk ss n bs) n ps).length
def ubQ (ss : List Int) (n : Nat) (bs : List BrE) (ps : List Int) (i : Nat) : Bool := cntN ss n (wo bs i) ps == cntN ss n bs ps
def ubL (ss : List Int) (n : Nat) (bs : List BrE) (m : Nat) (ps : List Int) : List Int := if scC ss n bs m [ps] 0 = 0 then selL (ubQ ss n bs ps) m else []
theorem ub_yes {ss : List Int} {n : Nat} {bs : List BrE} {m : Nat} {ps : List Int} (h : scC ss n bs m [ps] 0 = 0) : ubL ss n bs m ps = selL (ubQ ss n bs ps) m := if_pos h
theorem ub_no {ss : List Int} {n : Nat} {bs : List BrE} {m : Nat} {ps : List Int} (h : ¬ scC ss n bs m [ps] 0 = 0) : ubL ss n bs m ps = [] := if_neg h
theorem ub_len {ss : List Int} {n : Nat} {bs : List BrE} {m : Nat} {ps : List Int} (hm : m ≤ 1048576) : (ubL ss n bs m ps).length ≤ 1048576 := by
  by_cases h : scC ss n bs m [ps] 0 = 0
  · rw [ub_yes h]
    have := sel_len (ubQ ss n bs ps) m
    omega
  · rw [ub_no h]; simp
theorem cnt_size {ss : List Int} {n : Nat} {bs : List BrE} {ps : List Int} {vs : List Value} (hst : stBd ss n) (hn : n ≤ 4) (hpl : plB ss ps n = true) : Maps.size (mpK (allN (mvOk ss n bs) n ps) vs (allN (mvOk ss n bs) n ps).length) = cntN ss n bs ps := all_size hst hn hpl

set_option maxRecDepth 100000 in
set_option maxHeartbeats 6400000 in
theorem iUselessBars_any (A : Option Addr) (n c : Nat) (ss : List Int) (B : Option Addr) (m : Nat) (bs : List BrE) (P : Option Addr) (k e : Nat) (ps : List Int) (w : World) (HS : SlI w A n ss) (HB : SlBr w B m bs) (HP : SlI w P k ps) (hn : n ≤ 1048576) (hm : m ≤ 1048576) (hk : k ≤ 1048576) :
    Calls Try.prog 22 #[.agg #[.slice A n c, .slice B m m], .slice P k e] w (GivesIC (ubL ss n bs m ps) (scC ss n bs m [ps] 0) w) := by
  have hb0 : Below w.heap.size w ((w.alloc (.cells #[.slice A n c, .slice B m m] 33)).alloc (.cells #[.slice P k e] 22)) := by (repeat (first | exact Below.refl _ _ | refine bw_drew ?_ | refine bw_drewN ?_ _ | refine bw_set ?_ (by simp; try omega) _ | refine bw_alloc ?_ _ | refine bw_trans ?_ (by assumption) | assumption))
  have HK := Lib.hid (slideCode_any A n c ss B m m bs 0 (some ⟨w.heap.size + 1, 0, none⟩) 1 1 [ps] _ (HS.below hb0) (HB.below hb0) (by have h := ss_one (e := e) (HP.below (bw_alloc (Below.refl _ _) (.cells #[.slice A n c, .slice B m m] 33))) hk; simpa using h) hn hm (by omega))
  by_cases hc : scC ss n bs m [ps] 0 = 0
  case neg =>
    rw [ub_no hc]
    have hce : (scC ss n bs m [ps] 0 != 0) = true := by simpa using hc
    clear HS HB HP
    generalize scC ss n bs m [ps] 0 = C at *
    go_enter Try.func22, Try.ntmps22
    go_wp2_with fail
    refine HK.out.mono ?_
    rintro e w1 ⟨rfl, hb1⟩
    go_wp2
    go_ret2
    exact ⟨_, rfl, OwnI.nil _ _, bw_trans hb0 hb1⟩
  rw [ub_yes hc]
  obtain ⟨n1, n4, m8, hst, hbd, hpl, hpn, _, _⟩ := sc_facts HS.length HB.1 hc
  rw [hc] at HK
  rw [hc]
  have hkn : n = k := by rw [← HP.length]; exact hpn.symm
  subst hkn
  have HM := Lib.hid (fun W (hW : Below w.heap.size w W) => reach_any A n c ss B m m bs P e ps W (HS.below hW) (HB.below hW) (HP.below hW) n1 n4 m8 hst hbd hpl)
  have HML := Lib.hid (fun i (hi : i < m) W (hW : Below w.heap.size w W) (B' : Option Addr) (d' : Nat) (h : SlBr W B' (m - 1) (wo bs i)) => reach_any A n c ss B' (m - 1) d' (wo bs i) P e ps W (HS.below hW) h (HP.below hW) n1 n4 (by omega) hst (wo_bd HB.1 hi hbd) hpl)
  have HSZ := Lib.hid (fun vs => cnt_size (bs := bs) (vs := vs) hst n4 hpl)
  have HSJ := Lib.hid (fun i vs => cnt_size (bs := wo bs i) (vs := vs) hst n4 hpl)
  have HWO := Lib.hid (fun i (hi : i < m) => wo_len HB.1 hi)
  have HQ := Lib.hid (show ∀ i, ubQ ss n bs ps i = (cntN ss n (wo bs i) ps == cntN ss n bs ps) from fun i => rfl)
  have HBB := Lib.hid HB
  have h256 : cntN ss n bs ps ≤ 256 := (all_gd (bs := bs) hst n4 hpl).2.1
  have H256 := Lib.hid (fun i => show cntN ss n (wo bs i) ps ≤ 256 from (all_gd (bs := wo bs i) hst n4 hpl).2.1)
  have hql := sel_len (ubQ ss n bs ps) m
  clear HS HB HP hst hbd hpl hpn hc
  generalize ubQ ss n bs ps = q at *
  obtain ⟨many, hmany⟩ : ∃ x, cntN ss n bs ps = x := ⟨_, rfl⟩
  rw [hmany] at HSZ h256 HQ
  clear hmany
  go_enter Try.func22, Try.ntmps22
  go_wp2_with fail
  refine HK.out.mono ?_
  rintro e w1 ⟨rfl, hb1⟩
  have hc0 : w1.cell? ⟨w.heap.size, 0, none⟩ = some (.slice A n c) := cell_of hb1 (by go_simp)
  have hc1 : w1.cell? ⟨w.heap.size, 1, none⟩ = some (.slice B m m) := cell_of hb1 (by go_simp)
  have hbw := bw_trans hb0 hb1
  clear HK hb1 hb0
  go_wp2_with fail
  refine (HM.out _ hbw).mono ?_
  rintro e w2 ⟨vs, rfl, -, hmap, -, hb2⟩
  have HMP := Lib.hid hmap
  have HS2 := Lib.hid (HSZ.out vs)
  have hbw2 := bw_trans hbw hb2
  have hd0 := cell_of hb2 hc0
  have hd1 := cell_of hb2 hc1
  have hzz : w.heap.size < w2.heap.size := World.block_lt_of_cell? w2 _ hd0
  have hbs2 := hbw2.size
  clear hmap HM HSZ hbw hb2 hc0 hc1
  go_wp2_with (at_len; refine wpList_len_own _ rfl _ _ rfl 71 22 Try.underlying68 heldR (w1.heap.size + 1) _ _ rfl HMP.out ?_; rw [HS2.out])
  go_loopg [8, 26] m (fun gh v x wr => ∃ i : Nat, i ≤ m ∧ gh = m - i ∧ x = .int .i64 (i : Int) ∧ OwnI wr w2.heap.size v (selL q i) ∧ Below w2.heap.size w2 wr)
  case atStart => exact ⟨0, by omega, by omega, rfl, OwnI.lit w2 (Nat.le_refl _), bw_alloc (Below.refl _ _) _⟩
  case round =>
    obtain ⟨i, hi, rfl, rfl, hown, hbr⟩ := hrel
    have HO := Lib.hid hown
    have hl := sel_len q i
    clear hown HMP HS2
    by_cases hlt : i < m
    · obtain ⟨b, off, rfl, -, -⟩ := HBB.out.get hlt
      have hx0 := cell_of hbr hd0
      have hx1 := cell_of hbr hd1
      obtain ⟨ot, hot, hs2⟩ := slice_tail (b := b) (off := off) hlt
      have HS2 := Lib.hid hs2
      have HS1 := Lib.hid (fun W => slice_head (b := b) (off := off) hlt W)
      have HCC := Lib.hid (fun W (hW : Below wr.heap.size wr W) g hg0 hg1 => concatB_any g b off i m b ot (m - (i + 1)) (m - (i + 1)) (bs.take i) (bs.drop (i + 1)) W hg0 hg1 (SlBr.take (HBB.out.below (bw_trans (bw_trans hbw2 hbr) hW)) (by omega)) (SlBr.drop (HBB.out.below (bw_trans (bw_trans hbw2 hbr) hW)) hlt hot) (by omega))
      change Hid (∀ W, _ → ∀ g, _ → _ → Calls Try.prog _ _ W fun e w' => ∃ V, e = .returned V ∧ OwnB w' W.heap.size V (wo bs i) ∧ _) at HCC
      have HMI := Lib.hid (HML.out i hlt)
      have HSI := Lib.hid (fun vs => HSJ.out i vs)
      have HWL := Lib.hid (HWO.out i hlt)
      have hci := H256.out i
      obtain ⟨CI, hCI⟩ : ∃ x, cntN ss n (wo bs i) ps = x := ⟨_, rfl⟩
      have hQI := HQ.out i
      rw [hCI] at HSI hci hQI
      replace HQ : Hid (∀ j, j = i → q j = (CI == many)) := fun j hj => by rw [hj]; exact hQI
      have hil : (i : Int) < (m : Int) := by omega
      clear hs2 hd0 hd1 HML HSJ HWO H256 hot hCI hQI
      go_wp2_with fail
      refine wp_region_inv' (by kernel_rfl) (by kernel_rfl) (JUi wr w.heap.size b off ot m i n c A (wo bs i)) ?_ ?_ ?_
      · exact ⟨u29, u30, u31, u32, u33, u34, u35, u36, u37, u38, u39, u40, u41, u42, u10, by simp only [Act.put, List.setIfInBounds_toArray, List.set_cons_zero, List.set_cons_succ], .inl ⟨rfl, (Below.refl _ _).drew, fun h => absurd h (by simp), fun h => absurd h (by simp), fun h => absurd h (by simp), fun h => absurd h (by simp), fun h => absurd h (by simp), fun h => absurd h (by simp), fun h => absurd h (by simp), fun h => absurd h (by simp), fun h => absurd h (by simp), fun h => absurd h (by simp), fun h => absurd h (by simp), fun h => absurd h (by simp), fun h => absurd h (by simp), fun h => absurd h (by simp), fun h => absurd h (by simp)⟩⟩
      · refine ⟨?_, ?_, ?_, ?_, ?_, ?_, ?_, ?_, ?_, ?_, ?_, ?_, ?_, ?_, ?_, ?_, trivial⟩
        all_goals
          intro d a W hd hpre hcl hJ K hK
        · obtain ⟨t29, t30, t31, t32, t33, t34, t35, t36, t37, t38, t39, t40, t41, t42, t10, hA, hJ⟩ := hJ
          have hJ1 : d 15 = false ∧ _ := hJ.resolve_right (fun h => by have h2 := h.2.1 0 (by omega); rw [hd] at h2; cases h2)
          obtain ⟨h14, hB, f0, f1, f2, f3, f4, f5, f6, f7, f8, f9, f10, f11, f12, f13, f14⟩ := hJ1
          clear hJ
          have HF := Lib.hid (And.intro f0 (And.intro f1 (And.intro f2 (And.intro f3 (And.intro f4 (And.intro f5 (And.intro f6 (And.intro f7 (And.intro f8 (And.intro f9 (And.intro f10 (And.intro f11 (And.intro f12 (And.intro f13 (f14)))))))))))))))
          have HK := Lib.hid hK
          have HD2 := Lib.hid (And.intro hd h14)
          clear hpre hcl hK hd h14 f0 f1 f2 f3 f4 f5 f6 f7 f8 f9 f10 f11 f12 f13 f14
          try clear hp
          simp only [Act.put, List.setIfInBounds_toArray, List.set_cons_zero, List.set_cons_succ] at hA
          subst hA
          go_simp
          obtain ⟨f0, f1, f2, f3, f4, f5, f6, f7, f8, f9, f10, f11, f12, f13, f14⟩ := HF.out
          obtain ⟨hd, h14⟩ := HD2.out
          exact HK.out _ _ ⟨(.pointer (some ⟨w.heap.size, 0, none⟩)), t30, t31, t32, t33, t34, t35, t36, t37, t38, t39, t40, t41, t42, t10, by simp only [Act.put, List.setIfInBounds_toArray, List.set_cons_zero, List.set_cons_succ], .inl ⟨h14, hB, fun _ => rfl, f1, f2, f3, f4, f5, f6, f7, f8, f9, f10, f11, f12, f13, f14⟩⟩
        · obtain ⟨t29, t30, t31, t32, t33, t34, t35, t36, t37, t38, t39, t40, t41, t42, t10, hA, hJ⟩ := hJ
          have hJ1 : d 15 = false ∧ _ := hJ.resolve_right (fun h => by have h2 := h.2.1 1 (by omega); rw [hd] at h2; cases h2)
          obtain ⟨h14, hB, f0, f1, f2, f3, f4, f5, f6, f7, f8, f9, f10, f11, f12, f13, f14⟩ := hJ1
          clear hJ
          have hp := hpre; simp [Region.binds] at hp
          obtain rfl := f0 (by simp [hp])
          have hcq := cell_of hB hx0
          have HF := Lib.hid (And.intro f0 (And.intro f1 (And.intro f2 (And.intro f3 (And.intro f4 (And.intro f5 (And.intro f6 (And.intro f7 (And.intro f8 (And.intro f9 (And.intro f10 (And.intro f11 (And.intro f12 (And.intro f13 (f14)))))))))))))))
          have HK := Lib.hid hK
          have HD2 := Lib.hid (And.intro hd h14)
          clear hpre hcl hK hd h14 f0 f1 f2 f3 f4 f5 f6 f7 f8 f9 f10 f11 f12 f13 f14
          try clear hp
          simp only [Act.put, List.setIfInBounds_toArray, List.set_cons_zero, List.set_cons_succ] at hA
          subst hA
          go_simp
          obtain ⟨f0, f1, f2, f3, f4, f5, f6, f7, f8, f9, f10, f11, f12, f13, f14⟩ := HF.out
          obtain ⟨hd, h14⟩ := HD2.out
          exact HK.out _ _ ⟨(.pointer (some ⟨w.heap.size, 0, none⟩)), (.slice A n c), t31, t32, t33, t34, t35, t36, t37, t38, t39, t40, t41, t42, t10, by simp only [Act.put, List.setIfInBounds_toArray, List.set_cons_zero, List.set_cons_succ], .inl ⟨h14, hB, f0, fun _ => rfl, f2, f3, f4, f5, f6, f7, f8, f9, f10, f11, f12, f13, f14⟩⟩
        · obtain ⟨t29, t30, t31, t32, t33, t34, t35, t36, t37, t38, t39, t40, t41, t42, t10, hA, hJ⟩ := hJ
          have hJ1 : d 15 = false ∧ _ := hJ.resolve_right (fun h => by have h2 := h.2.1 2 (by omega); rw [hd] at h2; cases h2)
          obtain ⟨h14, hB, f0, f1, f2, f3, f4, f5, f6, f7, f8, f9, f10, f11, f12, f13, f14⟩ := hJ1
          clear hJ
          have HF := Lib.hid (And.intro f0 (And.intro f1 (And.intro f2 (And.intro f3 (And.intro f4 (And.intro f5 (And.intro f6 (And.intro f7 (And.intro f8 (And.intro f9 (And.intro f10 (And.intro f11 (And.intro f12 (And.intro f13 (f14)))))))))))))))
          have HK := Lib.hid hK
          have HD2 := Lib.hid (And.intro hd h14)
          clear hpre hcl hK hd h14 f0 f1 f2 f3 f4 f5 f6 f7 f8 f9 f10 f11 f12 f13 f14
          try clear hp
          simp only [Act.put, List.setIfInBounds_toArray, List.set_cons_zero, List.set_cons_succ] at hA
          subst hA
          go_simp
          obtain ⟨f0, f1, f2, f3, f4, f5, f6, f7, f8, f9, f10, f11, f12, f13, f14⟩ := HF.out
          obtain ⟨hd, h14⟩ := HD2.out
          exact HK.out _ _ ⟨t29, t30, (.pointer (some ⟨w.heap.size, 1, none⟩)), t32, t33, t34, t35, t36, t37, t38, t39, t40, t41, t42, t10, by simp only [Act.put, List.setIfInBounds_toArray, List.set_cons_zero, List.set_cons_succ], .inl ⟨h14, hB, f0, f1, fun _ => rfl, f3, f4, f5, f6, f7, f8, f9, f10, f11, f12, f13, f14⟩⟩
        · obtain ⟨t29, t30, t31, t32, t33, t34, t35, t36, t37, t38, t39, t40, t41, t42, t10, hA, hJ⟩ := hJ
          have hJ1 : d 15 = false ∧ _ := hJ.resolve_right (fun h => by have h2 := h.2.1 3 (by omega); rw [hd] at h2; cases h2)
          obtain ⟨h14, hB, f0, f1, f2, f3, f4, f5, f6, f7, f8, f9, f10, f11, f12, f13, f14⟩ := hJ1
          clear hJ
          have hp := hpre; simp [Region.binds] at hp
          obtain rfl := f2 (by simp [hp])
          have hcq := cell_of hB hx1
          have HF := Lib.hid (And.intro f0 (And.intro f1 (And.intro f2 (And.intro f3 (And.intro f4 (And.intro f5 (And.intro f6 (And.intro f7 (And.intro f8 (And.intro f9 (And.intro f10 (And.intro f11 (And.intro f12 (And.intro f13 (f14)))))))))))))))
          have HK := Lib.hid hK
          have HD2 := Lib.hid (And.intro hd h14)
          clear hpre hcl hK hd h14 f0 f1 f2 f3 f4 f5 f6 f7 f8 f9 f10 f11 f12 f13 f14
          try clear hp
          simp only [Act.put, List.setIfInBounds_toArray, List.set_cons_zero, List.set_cons_succ] at hA
          subst hA
          go_simp
          obtain ⟨f0, f1, f2, f3, f4, f5, f6, f7, f8, f9, f10, f11, f12, f13, f14⟩ := HF.out
          obtain ⟨hd, h14⟩ := HD2.out
          exact HK.out _ _ ⟨t29, t30, (.pointer (some ⟨w.heap.size, 1, none⟩)), ((.slice (some ⟨b, off, none⟩) m m)), t33, t34, t35, t36, t37, t38, t39, t40, t41, t42, t10, by simp only [Act.put, List.setIfInBounds_toArray, List.set_cons_zero, List.set_cons_succ], .inl ⟨h14, hB, f0, f1, f2, fun _ => rfl, f4, f5, f6, f7, f8, f9, f10, f11, f12, f13, f14⟩⟩
        · obtain ⟨t29, t30, t31, t32, t33, t34, t35, t36, t37, t38, t39, t40, t41, t42, t10, hA, hJ⟩ := hJ
          have hJ1 : d 15 = false ∧ _ := hJ.resolve_right (fun h => by have h2 := h.2.1 4 (by omega); rw [hd] at h2; cases h2)
          obtain ⟨h14, hB, f0, f1, f2, f3, f4, f5, f6, f7, f8, f9, f10, f11, f12, f13, f14⟩ := hJ1
          clear hJ
          have HF := Lib.hid (And.intro f0 (And.intro f1 (And.intro f2 (And.intro f3 (And.intro f4 (And.intro f5 (And.intro f6 (And.intro f7 (And.intro f8 (And.intro f9 (And.intro f10 (And.intro f11 (And.intro f12 (And.intro f13 (f14)))))))))))))))
          have HK := Lib.hid hK
          have HD2 := Lib.hid (And.intro hd h14)
          clear hpre hcl hK hd h14 f0 f1 f2 f3 f4 f5 f6 f7 f8 f9 f10 f11 f12 f13 f14
          try clear hp
          simp only [Act.put, List.setIfInBounds_toArray, List.set_cons_zero, List.set_cons_succ] at hA
          subst hA
          go_simp
          obtain ⟨f0, f1, f2, f3, f4, f5, f6, f7, f8, f9, f10, f11, f12, f13, f14⟩ := HF.out
          obtain ⟨hd, h14⟩ := HD2.out
          exact HK.out _ _ ⟨t29, t30, t31, t32, (.int .i64 (i : Int)), t34, t35, t36, t37, t38, t39, t40, t41, t42, t10, by simp only [Act.put, List.setIfInBounds_toArray, List.set_cons_zero, List.set_cons_succ], .inl ⟨h14, hB, f0, f1, f2, f3, fun _ => rfl, f5, f6, f7, f8, f9, f10, f11, f12, f13, f14⟩⟩
        · obtain ⟨t29, t30, t31, t32, t33, t34, t35, t36, t37, t38, t39, t40, t41, t42, t10, hA, hJ⟩ := hJ
          have hJ1 : d 15 = false ∧ _ := hJ.resolve_right (fun h => by have h2 := h.2.1 5 (by omega); rw [hd] at h2; cases h2)
          obtain ⟨h14, hB, f0, f1, f2, f3, f4, f5, f6, f7, f8, f9, f10, f11, f12, f13, f14⟩ := hJ1
          clear hJ
          have hp := hpre; simp [Region.binds] at hp
          obtain rfl := f3 (by simp [hp])
          obtain rfl := f4 (by simp [hp])
          have HF := Lib.hid (And.intro f0 (And.intro f1 (And.intro f2 (And.intro f3 (And.intro f4 (And.intro f5 (And.intro f6 (And.intro f7 (And.intro f8 (And.intro f9 (And.intro f10 (And.intro f11 (And.intro f12 (And.intro f13 (f14)))))))))))))))
          have HK := Lib.hid hK
          have HD2 := Lib.hid (And.intro hd h14)
          clear hpre hcl hK hd h14 f0 f1 f2 f3 f4 f5 f6 f7 f8 f9 f10 f11 f12 f13 f14
          try clear hp
          simp only [Act.put, List.setIfInBounds_toArray, List.set_cons_zero, List.set_cons_succ] at hA
          subst hA
          refine stepSlice (by rfl) _ _ _ (by rfl) (.slice (some ⟨b, off, none⟩) i m) (HS1.out W) ?_
          obtain ⟨f0, f1, f2, f3, f4, f5, f6, f7, f8, f9, f10, f11, f12, f13, f14⟩ := HF.out
          obtain ⟨hd, h14⟩ := HD2.out
          exact HK.out _ _ ⟨t29, t30, t31, ((.slice (some ⟨b, off, none⟩) m m)), (.int .i64 (i : Int)), ((.slice (some ⟨b, off, none⟩) i m)), t35, t36, t37, t38, t39, t40, t41, t42, t10, by simp only [Act.put, List.setIfInBounds_toArray, List.set_cons_zero, List.set_cons_succ], .inl ⟨h14, hB, f0, f1, f2, f3, f4, fun _ => rfl, f6, f7, f8, f9, f10, f11, f12, f13, f14⟩⟩
        · obtain ⟨t29, t30, t31, t32, t33, t34, t35, t36, t37, t38, t39, t40, t41, t42, t10, hA, hJ⟩ := hJ
          have hJ1 : d 15 = false ∧ _ := hJ.resolve_right (fun h => by have h2 := h.2.1 6 (by omega); rw [hd] at h2; cases h2)
          obtain ⟨h14, hB, f0, f1, f2, f3, f4, f5, f6, f7, f8, f9, f10, f11, f12, f13, f14⟩ := hJ1
          clear hJ
          have HF := Lib.hid (And.intro f0 (And.intro f1 (And.intro f2 (And.intro f3 (And.intro f4 (And.intro f5 (And.intro f6 (And.intro f7 (And.intro f8 (And.intro f9 (And.intro f10 (And.intro f11 (And.intro f12 (And.intro f13 (f14)))))))))))))))
          have HK := Lib.hid hK
          have HD2 := Lib.hid (And.intro hd h14)
          clear hpre hcl hK hd h14 f0 f1 f2 f3 f4 f5 f6 f7 f8 f9 f10 f11 f12 f13 f14
          try clear hp
          simp only [Act.put, List.setIfInBounds_toArray, List.set_cons_zero, List.set_cons_succ] at hA
          subst hA
          go_simp
          obtain ⟨f0, f1, f2, f3, f4, f5, f6, f7, f8, f9, f10, f11, f12, f13, f14⟩ := HF.out
          obtain ⟨hd, h14⟩ := HD2.out
          exact HK.out _ _ ⟨t29, t30, t31, t32, t33, t34, (.pointer (some ⟨w.heap.size, 1, none⟩)), t36, t37, t38, t39, t40, t41, t42, t10, by simp only [Act.put, List.setIfInBounds_toArray, List.set_cons_zero, List.set_cons_succ], .inl ⟨h14, hB, f0, f1, f2, f3, f4, f5, fun _ => rfl, f7, f8, f9, f10, f11, f12, f13, f14⟩⟩
        · obtain ⟨t29, t30, t31, t32, t33, t34, t35, t36, t37, t38, t39, t40, t41, t42, t10, hA, hJ⟩ := hJ
          have hJ1 : d 15 = false ∧ _ := hJ.resolve_right (fun h => by have h2 := h.2.1 7 (by omega); rw [hd] at h2; cases h2)
          obtain ⟨h14, hB, f0, f1, f2, f3, f4, f5, f6, f7, f8, f9, f10, f11, f12, f13, f14⟩ := hJ1
          clear hJ
          have hp := hpre; simp [Region.binds] at hp
          obtain rfl := f6 (by simp [hp])
          have hcq := cell_of hB hx1
          have HF := Lib.hid (And.intro f0 (And.intro f1 (And.intro f2 (And.intro f3 (And.intro f4 (And.intro f5 (And.intro f6 (And.intro f7 (And.intro f8 (And.intro f9 (And.intro f10 (And.intro f11 (And.intro f12 (And.intro f13 (f14)))))))))))))))
          have HK := Lib.hid hK
          have HD2 := Lib.hid (And.intro hd h14)
          clear hpre hcl hK hd h14 f0 f1 f2 f3 f4 f5 f6 f7 f8 f9 f10 f11 f12 f13 f14
          try clear hp
          simp only [Act.put, List.setIfInBounds_toArray, List.set_cons_zero, List.set_cons_succ] at hA
          subst hA
          go_simp
          obtain ⟨f0, f1, f2, f3, f4, f5, f6, f7, f8, f9, f10, f11, f12, f13, f14⟩ := HF.out
          obtain ⟨hd, h14⟩ := HD2.out
          exact HK.out _ _ ⟨t29, t30, t31, t32, t33, t34, (.pointer (some ⟨w.heap.size, 1, none⟩)), ((.slice (some ⟨b, off, none⟩) m m)), t37, t38, t39, t40, t41, t42, t10, by simp only [Act.put, List.setIfInBounds_toArray, List.set_cons_zero, List.set_cons_succ], .inl ⟨h14, hB, f0, f1, f2, f3, f4, f5, f6, fun _ => rfl, f8, f9, f10, f11, f12, f13, f14⟩⟩
        · obtain ⟨t29, t30, t31, t32, t33, t34, t35, t36, t37, t38, t39, t40, t41, t42, t10, hA, hJ⟩ := hJ
          have hJ1 : d 15 = false ∧ _ := hJ.resolve_right (fun h => by have h2 := h.2.1 8 (by omega); rw [hd] at h2; cases h2)
          obtain ⟨h14, hB, f0, f1, f2, f3, f4, f5, f6, f7, f8, f9, f10, f11, f12, f13, f14⟩ := hJ1
          clear hJ
          have HF := Lib.hid (And.intro f0 (And.intro f1 (And.intro f2 (And.intro f3 (And.intro f4 (And.intro f5 (And.intro f6 (And.intro f7 (And.intro f8 (And.intro f9 (And.intro f10 (And.intro f11 (And.intro f12 (And.intro f13 (f14)))))))))))))))
          have HK := Lib.hid hK
          have HD2 := Lib.hid (And.intro hd h14)
          clear hpre hcl hK hd h14 f0 f1 f2 f3 f4 f5 f6 f7 f8 f9 f10 f11 f12 f13 f14
          try clear hp
          simp only [Act.put, List.setIfInBounds_toArray, List.set_cons_zero, List.set_cons_succ] at hA
          subst hA
          go_simp
          obtain ⟨f0, f1, f2, f3, f4, f5, f6, f7, f8, f9, f10, f11, f12, f13, f14⟩ := HF.out
          obtain ⟨hd, h14⟩ := HD2.out
          exact HK.out _ _ ⟨t29, t30, t31, t32, t33, t34, t35, t36, (.int .i64 (i : Int)), t38, t39, t40, t41, t42, t10, by simp only [Act.put, List.setIfInBounds_toArray, List.set_cons_zero, List.set_cons_succ], .inl ⟨h14, hB, f0, f1, f2, f3, f4, f5, f6, f7, fun _ => rfl, f9, f10, f11, f12, f13, f14⟩⟩
        · obtain ⟨t29, t30, t31, t32, t33, t34, t35, t36, t37, t38, t39, t40, t41, t42, t10, hA, hJ⟩ := hJ
          have hJ1 : d 15 = false ∧ _ := hJ.resolve_right (fun h => by have h2 := h.2.1 9 (by omega); rw [hd] at h2; cases h2)
          obtain ⟨h14, hB, f0, f1, f2, f3, f4, f5, f6, f7, f8, f9, f10, f11, f12, f13, f14⟩ := hJ1
          clear hJ
          have hp := hpre; simp [Region.binds] at hp
          obtain rfl := f8 (by simp [hp])
          have hwr : IntKind.i64.wrap ((i : Int) + 1) = (i : Int) + 1 := IntWalk.i64_in _ (by omega)
          have HF := Lib.hid (And.intro f0 (And.intro f1 (And.intro f2 (And.intro f3 (And.intro f4 (And.intro f5 (And.intro f6 (And.intro f7 (And.intro f8 (And.intro f9 (And.intro f10 (And.intro f11 (And.intro f12 (And.intro f13 (f14)))))))))))))))
          have HK := Lib.hid hK
          have HD2 := Lib.hid (And.intro hd h14)
          clear hpre hcl hK hd h14 f0 f1 f2 f3 f4 f5 f6 f7 f8 f9 f10 f11 f12 f13 f14
          try clear hp
          simp only [Act.put, List.setIfInBounds_toArray, List.set_cons_zero, List.set_cons_succ] at hA
          subst hA
          go_simp
          obtain ⟨f0, f1, f2, f3, f4, f5, f6, f7, f8, f9, f10, f11, f12, f13, f14⟩ := HF.out
          obtain ⟨hd, h14⟩ := HD2.out
          exact HK.out _ _ ⟨t29, t30, t31, t32, t33, t34, t35, t36, (.int .i64 (i : Int)), (.int .i64 ((i : Int) + 1)), t39, t40, t41, t42, t10, by simp only [Act.put, List.setIfInBounds_toArray, List.set_cons_zero, List.set_cons_succ], .inl ⟨h14, hB, f0, f1, f2, f3, f4, f5, f6, f7, f8, fun _ => rfl, f10, f11, f12, f13, f14⟩⟩
        · obtain ⟨t29, t30, t31, t32, t33, t34, t35, t36, t37, t38, t39, t40, t41, t42, t10, hA, hJ⟩ := hJ
          have hJ1 : d 15 = false ∧ _ := hJ.resolve_right (fun h => by have h2 := h.2.1 10 (by omega); rw [hd] at h2; cases h2)
          obtain ⟨h14, hB, f0, f1, f2, f3, f4, f5, f6, f7, f8, f9, f10, f11, f12, f13, f14⟩ := hJ1
          clear hJ
          have hp := hpre; simp [Region.binds] at hp
          obtain rfl := f7 (by simp [hp])
          obtain rfl := f9 (by simp [hp])
          have HF := Lib.hid (And.intro f0 (And.intro f1 (And.intro f2 (And.intro f3 (And.intro f4 (And.intro f5 (And.intro f6 (And.intro f7 (And.intro f8 (And.intro f9 (And.intro f10 (And.intro f11 (And.intro f12 (And.intro f13 (f14)))))))))))))))
          have HK := Lib.hid hK
          have HD2 := Lib.hid (And.intro hd h14)
          clear hpre hcl hK hd h14 f0 f1 f2 f3 f4 f5 f6 f7 f8 f9 f10 f11 f12 f13 f14
          try clear hp
          simp only [Act.put, List.setIfInBounds_toArray, List.set_cons_zero, List.set_cons_succ] at hA
          subst hA
          refine stepSlice (by rfl) _ _ _ (by rfl) (.slice (some ⟨b, ot, none⟩) (m - (i + 1)) (m - (i + 1))) (HS2.out W) ?_
          obtain ⟨f0, f1, f2, f3, f4, f5, f6, f7, f8, f9, f10, f11, f12, f13, f14⟩ := HF.out
          obtain ⟨hd, h14⟩ := HD2.out
          exact HK.out _ _ ⟨t29, t30, t31, t32, t33, t34, t35, ((.slice (some ⟨b, off, none⟩) m m)), t37, (.int .i64 ((i : Int) + 1)), ((.slice (some ⟨b, ot, none⟩) (m - (i + 1)) (m - (i + 1)))), t40, t41, t42, t10, by simp only [Act.put, List.setIfInBounds_toArray, List.set_cons_zero, List.set_cons_succ], .inl ⟨h14, hB, f0, f1, f2, f3, f4, f5, f6, f7, f8, f9, fun _ => rfl, f11, f12, f13, f14⟩⟩
        · obtain ⟨t29, t30, t31, t32, t33, t34, t35, t36, t37, t38, t39, t40, t41, t42, t10, hA, hJ⟩ := hJ
          have hJ1 : d 15 = false ∧ _ := hJ.resolve_right (fun h => by have h2 := h.2.1 11 (by omega); rw [hd] at h2; cases h2)
          obtain ⟨h14, hB, f0, f1, f2, f3, f4, f5, f6, f7, f8, f9, f10, f11, f12, f13, f14⟩ := hJ1
          clear hJ
          have hp := hpre; simp [Region.binds] at hp
          obtain rfl := f5 (by simp [hp])
          obtain rfl := f10 (by simp [hp])
          have HF := Lib.hid (And.intro f0 (And.intro f1 (And.intro f2 (And.intro f3 (And.intro f4 (And.intro f5 (And.intro f6 (And.intro f7 (And.intro f8 (And.intro f9 (And.intro f10 (And.intro f11 (And.intro f12 (And.intro f13 (f14)))))))))))))))
          have HK := Lib.hid hK
          have HD2 := Lib.hid (And.intro hd h14)
          clear hpre hcl hK hd h14 f0 f1 f2 f3 f4 f5 f6 f7 f8 f9 f10 f11 f12 f13 f14
          try clear hp
          simp only [Act.put, List.setIfInBounds_toArray, List.set_cons_zero, List.set_cons_succ] at hA
          subst hA
          go_simp
          obtain ⟨f0, f1, f2, f3, f4, f5, f6, f7, f8, f9, f10, f11, f12, f13, f14⟩ := HF.out
          obtain ⟨hd, h14⟩ := HD2.out
          have hb := bw_alloc (Below.refl W.heap.size W) (.cells #[(.slice (some ⟨b, off, none⟩) i m), (.slice (some ⟨b, ot, none⟩) (m - (i + 1)) (m - (i + 1)))] 31)
          exact HK.out _ _ ⟨t29, t30, t31, t32, t33, ((.slice (some ⟨b, off, none⟩) i m)), t35, t36, t37, t38, ((.slice (some ⟨b, ot, none⟩) (m - (i + 1)) (m - (i + 1)))), (.slice (some ⟨W.heap.size, 0, none⟩) 2 2), t41, t42, t10, by simp only [Act.put, List.setIfInBounds_toArray, List.set_cons_zero, List.set_cons_succ], .inl ⟨h14, bw_trans hB hb, f0, f1, f2, f3, f4, f5, f6, f7, f8, f9, f10, fun _ => ⟨W.heap.size, rfl, by go_simp, by go_simp⟩, fun h1 => (f12 h1).below hb, f13, fun h1 => (by obtain ⟨p, e, a1, a2, a3, a4, a5, a6, a7⟩ := f14 h1; exact ⟨p, e, a1, Nat.lt_of_lt_of_le a2 hb.size, cell_of hb a3, cell_of hb a4, (hb.frozen (p := ⟨p, 0, none⟩) a2).trans a5, (hb.frozen (p := ⟨p, 1, none⟩) a2).trans a6, a7⟩)⟩⟩
        · obtain ⟨t29, t30, t31, t32, t33, t34, t35, t36, t37, t38, t39, t40, t41, t42, t10, hA, hJ⟩ := hJ
          have hJ1 : d 15 = false ∧ _ := hJ.resolve_right (fun h => by have h2 := h.2.1 12 (by omega); rw [hd] at h2; cases h2)
          obtain ⟨h14, hB, f0, f1, f2, f3, f4, f5, f6, f7, f8, f9, f10, f11, f12, f13, f14⟩ := hJ1
          clear hJ
          have hp := hpre; simp [Region.binds] at hp
          obtain ⟨g, rfl, hg0, hg1⟩ := f11 (by simp [hp])
          have h13 : d 13 = false := by
            cases h : d 13
            · rfl
            · have h2 := hcl 13 _ rfl h
              simp [Region.binds] at h2
              rw [hd] at h2; simp at h2
          have H13 := Lib.hid h13
          clear h13
          have HF := Lib.hid (And.intro f0 (And.intro f1 (And.intro f2 (And.intro f3 (And.intro f4 (And.intro f5 (And.intro f6 (And.intro f7 (And.intro f8 (And.intro f9 (And.intro f10 (And.intro f11 (And.intro f12 (And.intro f13 (f14)))))))))))))))
          have HK := Lib.hid hK
          have HD2 := Lib.hid (And.intro hd h14)
          clear hpre hcl hK hd h14 f0 f1 f2 f3 f4 f5 f6 f7 f8 f9 f10 f11 f12 f13 f14
          try clear hp
          simp only [Act.put, List.setIfInBounds_toArray, List.set_cons_zero, List.set_cons_succ] at hA
          subst hA
          go_simp
          refine (HCC.out _ hB _ hg0 hg1).mono ?_
          rintro e w2 ⟨V1, rfl, hO1, hb⟩
          go_simp
          obtain ⟨f0, f1, f2, f3, f4, f5, f6, f7, f8, f9, f10, f11, f12, f13, f14⟩ := HF.out
          obtain ⟨hd, h14⟩ := HD2.out
          exact HK.out _ _ ⟨t29, t30, t31, t32, t33, t34, t35, t36, t37, t38, t39, (.slice (some ⟨g, 0, none⟩) 2 2), V1, t42, t10, by simp only [Act.put, List.setIfInBounds_toArray, List.set_cons_zero, List.set_cons_succ], .inl ⟨h14, bw_trans hB hb, f0, f1, f2, f3, f4, f5, f6, f7, f8, f9, f10, fun h1 => (by obtain ⟨g, e, a1, a2⟩ := f11 h1; exact ⟨g, e, cell_of hb a1, cell_of hb a2⟩), fun _ => hO1.base hB.size, fun h => absurd (show d 13 = true from h) (by simp [H13.out]), fun h1 => (by obtain ⟨p, e, a1, a2, a3, a4, a5, a6, a7⟩ := f14 h1; exact ⟨p, e, a1, Nat.lt_of_lt_of_le a2 hb.size, cell_of hb a3, cell_of hb a4, (hb.frozen (p := ⟨p, 0, none⟩) a2).trans a5, (hb.frozen (p := ⟨p, 1, none⟩) a2).trans a6, fun _ e2 => by have := (World.ownsRow.lt hO1 p e2).1; omega⟩)⟩⟩
        · obtain ⟨t29, t30, t31, t32, t33, t34, t35, t36, t37, t38, t39, t40, t41, t42, t10, hA, hJ⟩ := hJ
          have hJ1 : d 15 = false ∧ _ := hJ.resolve_right (fun h => by have h2 := h.2.1 13 (by omega); rw [hd] at h2; cases h2)
          obtain ⟨h14, hB, f0, f1, f2, f3, f4, f5, f6, f7, f8, f9, f10, f11, f12, f13, f14⟩ := hJ1
          clear hJ
          have hp := hpre; simp [Region.binds] at hp
          obtain rfl := f1 (by simp [hp])
          have hO := f12 (by simp [hp])
          obtain ⟨A4, c4, e4, -⟩ := hO.sl
          clear hO
          subst e4
          have HF := Lib.hid (And.intro f0 (And.intro f1 (And.intro f2 (And.intro f3 (And.intro f4 (And.intro f5 (And.intro f6 (And.intro f7 (And.intro f8 (And.intro f9 (And.intro f10 (And.intro f11 (And.intro f12 (And.intro f13 (f14)))))))))))))))
          have HK := Lib.hid hK
          have HD2 := Lib.hid (And.intro hd h14)
          clear hpre hcl hK hd h14 f0 f1 f2 f3 f4 f5 f6 f7 f8 f9 f10 f11 f12 f13 f14
          try clear hp
          simp only [Act.put, List.setIfInBounds_toArray, List.set_cons_zero, List.set_cons_succ] at hA
          subst hA
          go_simp
          obtain ⟨f0, f1, f2, f3, f4, f5, f6, f7, f8, f9, f10, f11, f12, f13, f14⟩ := HF.out
          obtain ⟨hd, h14⟩ := HD2.out
          exact HK.out _ _ ⟨t29, (.slice A n c), t31, t32, t33, t34, t35, t36, t37, t38, t39, t40, (.slice A4 (wo bs i).length c4), (.agg #[.slice A n c, .slice A4 (wo bs i).length c4]), t10, by simp only [Act.put, List.setIfInBounds_toArray, List.set_cons_zero, List.set_cons_succ], .inl ⟨h14, hB, f0, f1, f2, f3, f4, f5, f6, f7, f8, f9, f10, f11, f12, fun _ => rfl, f14⟩⟩
        · obtain ⟨t29, t30, t31, t32, t33, t34, t35, t36, t37, t38, t39, t40, t41, t42, t10, hA, hJ⟩ := hJ
          have hJ1 : d 15 = false ∧ _ := hJ.resolve_right (fun h => by have h2 := h.2.1 14 (by omega); rw [hd] at h2; cases h2)
          obtain ⟨h14, hB, f0, f1, f2, f3, f4, f5, f6, f7, f8, f9, f10, f11, f12, f13, f14⟩ := hJ1
          clear hJ
          have HF := Lib.hid (And.intro f0 (And.intro f1 (And.intro f2 (And.intro f3 (And.intro f4 (And.intro f5 (And.intro f6 (And.intro f7 (And.intro f8 (And.intro f9 (And.intro f10 (And.intro f11 (And.intro f12 (And.intro f13 (f14)))))))))))))))
          have HK := Lib.hid hK
          have HD2 := Lib.hid (And.intro hd h14)
          clear hpre hcl hK hd h14 f0 f1 f2 f3 f4 f5 f6 f7 f8 f9 f10 f11 f12 f13 f14
          try clear hp
          simp only [Act.put, List.setIfInBounds_toArray, List.set_cons_zero, List.set_cons_succ] at hA
          subst hA
          go_simp
          obtain ⟨f0, f1, f2, f3, f4, f5, f6, f7, f8, f9, f10, f11, f12, f13, f14⟩ := HF.out
          obtain ⟨hd, h14⟩ := HD2.out
          have hb := bw_alloc (Below.refl W.heap.size W) (.cells #[.slice none 0 0, .slice none 0 0] 33)
          exact HK.out _ _ ⟨t29, t30, t31, t32, t33, t34, t35, t36, t37, t38, t39, t40, t41, t42, (.pointer (some ⟨W.heap.size, 0, none⟩)), by simp only [Act.put, List.setIfInBounds_toArray, List.set_cons_zero, List.set_cons_succ], .inl ⟨h14, bw_trans hB hb, f0, f1, f2, f3, f4, f5, f6, f7, f8, f9, f10, fun h1 => (by obtain ⟨g, e, a1, a2⟩ := f11 h1; exact ⟨g, e, cell_of hb a1, cell_of hb a2⟩), fun h1 => (f12 h1).below hb, f13, fun _ => ⟨W.heap.size, rfl, hB.size, by simp, by go_simp, by go_simp, by go_simp, by go_simp, fun h2 e2 => by have := (World.ownsRow.lt (f12 h2) _ e2).2; omega⟩⟩⟩
        · obtain ⟨t29, t30, t31, t32, t33, t34, t35, t36, t37, t38, t39, t40, t41, t42, t10, hA, hJ⟩ := hJ
          have hJ1 : d 15 = false ∧ _ := hJ.resolve_right (fun h => by have h2 := h.1; rw [hd] at h2; cases h2)
          obtain ⟨h14, hB, f0, f1, f2, f3, f4, f5, f6, f7, f8, f9, f10, f11, f12, f13, f14⟩ := hJ1
          clear hJ
          have hp := hpre; simp [Region.binds] at hp
          obtain rfl := f13 (by simp [hp])
          obtain ⟨p, rfl, a1, a2, a3, a4, a5, a6, a7⟩ := f14 (by simp [hp])
          have hO := f12 (by simp [hp])
          obtain ⟨A4, c4, e4, -⟩ := hO.sl
          subst e4
          have hno := a7 (by simp [hp])
          have HOV := Lib.hid (show OwnB ((W.setCell ⟨p, 0, none⟩ (.slice A n c)).setCell ⟨p, 1, none⟩ (.slice A4 (wo bs i).length c4)) wr.heap.size (.slice A4 (wo bs i).length c4) (wo bs i) from (World.ownsRow.kept hO (grown_set W ⟨p, 0, none⟩ (.slice A n c)) (.inr hno)).kept (grown_set _ ⟨p, 1, none⟩ (.slice A4 (wo bs i).length c4)) (.inr hno))
          have HNO := Lib.hid hno
          have HBW := Lib.hid (show Below wr.heap.size wr ((W.setCell ⟨p, 0, none⟩ (.slice A n c)).setCell ⟨p, 1, none⟩ (.slice A4 (wo bs i).length c4)) from Below.setCell (Below.setCell hB a1 _) a1 _)
          have HC0 := Lib.hid (show ((W.setCell ⟨p, 0, none⟩ (.slice A n c)).setCell ⟨p, 1, none⟩ (.slice A4 (wo bs i).length c4)).cell? ⟨p, 0, none⟩ = some (.slice A n c) by (rw [Brother (Brne_off (by decide))]; exact World.cell?_setCell_same' _ _ _ (by rw [a3]; rfl)))
          have HC1 := Lib.hid (show ((W.setCell ⟨p, 0, none⟩ (.slice A n c)).setCell ⟨p, 1, none⟩ (.slice A4 (wo bs i).length c4)).cell? ⟨p, 1, none⟩ = some (.slice A4 (wo bs i).length c4) by exact World.cell?_setCell_same' _ _ _ (by rw [Brother (Brne_off (by decide)), a4]; rfl))
          have HF1 := Lib.hid (show ((W.setCell ⟨p, 0, none⟩ (.slice A n c)).setCell ⟨p, 1, none⟩ (.slice A4 (wo bs i).length c4)).frozen? ⟨p, 1, none⟩ = false by rw [World.frozen?_setCell, World.frozen?_setCell]; exact a6)
          have HA := Lib.hid (And.intro a1 a2)
          have hall : ∀ j, j < 15 → d j = true := by
            intro j hj
            have hj2 : j = 0 ∨ j = 1 ∨ j = 2 ∨ j = 3 ∨ j = 4 ∨ j = 5 ∨ j = 6 ∨ j = 7 ∨ j = 8 ∨ j = 9 ∨ j = 10 ∨ j = 11 ∨ j = 12 ∨ j = 13 ∨ j = 14 := by omega
            rcases hj2 with rfl | rfl | rfl | rfl | rfl | rfl | rfl | rfl | rfl | rfl | rfl | rfl | rfl | rfl | rfl <;> simp only [hp]
          have HAL := Lib.hid hall
          clear hall hO hno a1 a2 a7
          have HF := Lib.hid (And.intro f0 (And.intro f1 (And.intro f2 (And.intro f3 (And.intro f4 (And.intro f5 (And.intro f6 (And.intro f7 (And.intro f8 (And.intro f9 (And.intro f10 (And.intro f11 (And.intro f12 (And.intro f13 (f14)))))))))))))))
          have HK := Lib.hid hK
          have HD2 := Lib.hid (And.intro hd h14)
          have HP2 := Lib.hid hp
          clear hpre hcl hK hd h14 f0 f1 f2 f3 f4 f5 f6 f7 f8 f9 f10 f11 f12 f13 f14
          try clear hp
          simp only [Act.put, List.setIfInBounds_toArray, List.set_cons_zero, List.set_cons_succ] at hA
          subst hA
          go_simp
          obtain ⟨f0, f1, f2, f3, f4, f5, f6, f7, f8, f9, f10, f11, f12, f13, f14⟩ := HF.out
          obtain ⟨hd, h14⟩ := HD2.out
          exact HK.out _ _ ⟨t29, t30, t31, t32, t33, t34, t35, t36, t37, t38, t39, t40, (.slice A4 (wo bs i).length c4), (.agg #[.slice A n c, .slice A4 (wo bs i).length c4]), (.pointer (some ⟨p, 0, none⟩)), by simp only [Act.put, List.setIfInBounds_toArray, List.set_cons_zero, List.set_cons_succ], .inr ⟨upD_same _ _, fun j hj => upD_true (HAL.out j hj), p, rfl, HBW.out, HA.out.1, by simp only [World.size_setCell]; exact HA.out.2, HC0.out, HC1.out, HF1.out, HOV.out, HNO.out⟩⟩
      · rintro d a' W hall ⟨t29, t30, t31, t32, t33, t34, t35, t36, t37, t38, t39, t40, t41, t42, t10, hA, hJ⟩
        obtain ⟨h15, _, p, rfl, hB4, hp1, hp2, hc4, hc5, -, hO4, -⟩ := hJ.resolve_left (fun h => by have h2 := h.1; rw [hall 15 (by decide)] at h2; cases h2)
        clear hall hJ h15
        simp only [Act.put, List.setIfInBounds_toArray, List.set_cons_zero, List.set_cons_succ] at hA
        subst hA
        have hbw4 := bw_trans (bw_trans hbw2 hbr) hB4
        obtain ⟨A4, c4, e4, hs4⟩ := hO4.sl
        rw [HWL.out] at e4 hs4
        subst e4
        have HR4 := Lib.hid (HMI.out W hbw4 A4 c4 hs4)
        have HO4 := Lib.hid (HO.out.below hB4)
        have hbr4 := bw_trans hbr hB4
        clear hs4 hO4 hp1 hp2 HMI hB4 hx0 hx1 HCC HS1 HS2
        go_wp2_with fail
        refine HR4.out.mono ?_
        rintro e w5 ⟨vs5, rfl, -, hmap5, -, hb5⟩
        have HM5 := Lib.hid hmap5
        have HS5 := Lib.hid (HSI.out vs5)
        have HO5 := Lib.hid (HO4.out.below hb5)
        have hbr5 := bw_trans hbr4 hb5
        have hsz5 := hbr5.size
        clear hmap5 HR4 HSI HO4
        cases hq : q i
        · have HE := Lib.hid (sel_no hq)
          have hne := HQ.out i rfl
          rw [hq] at hne
          have hne2 : ((CI : Int) == (many : Int)) = false := by simp at hne ⊢; omega
          clear hq hne
          go_wp2_with (at_len; refine wpList_len_own _ rfl _ _ rfl 71 22 Try.underlying68 heldR _ _ _ rfl HM5.out ?_; rw [HS5.out])
          go_roundg (m - (i + 1))
          case rel => exact ⟨i + 1, by omega, rfl, by go_num, by rw [HE.out]; exact HO5.out, hbr5⟩
          case measure => omega
        · have HE := Lib.hid (sel_yes hq)
          have hne := HQ.out i rfl
          rw [hq] at hne
          have hne2 : CI = many := by simpa using hne.symm
          clear hq hne
          rw [hne2] at HS5
          clear hne2
          go_wp2_with (first | (at_len; refine wpList_len_own _ rfl _ _ rfl 71 22 Try.underlying68 heldR _ _ _ rfl HM5.out ?_; rw [HS5.out]) | (at_builtin; refine wpAppI rfl _ _ rfl _ _ _ rfl (HO5.out.alloc _) _ ((i : Int)) rfl (by go_simp) (by omega) (by simp; omega) ?_; intro v6 w6 hown6 hg6 hb6))
          go_roundg (m - (i + 1))
          case rel => exact ⟨i + 1, by omega, rfl, by go_num, by rw [HE.out]; exact hown6, bw_from (bw_alloc hbr5 _) hb6⟩
          case measure => omega
    · have hjm : i = m := by omega
      subst hjm
      obtain ⟨A', c', rfl⟩ := HO.out.form
      clear HML HSJ HWO H256 HQ HBB
      go_wp2
      go_ret2
      exact ⟨_, rfl, OwnI.base HO.out hbs2, bw_trans hbw2 hbr⟩
end Go.Proofs.Yticohpimkicphaa
