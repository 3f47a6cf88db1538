/-
  FewestLamps and CheapestLamps in the program; the laws.
-/
import Derived.Test.YthhilkahfgpncaaHlc
import Derived.Test.YthhilkahfgpncaaHld
import Derived.Test.YthhilkahfgpncaaMk
namespace Go.Proofs.Ythhilkahfgpncaa
open Go.RowKit

theorem rep_fill (m : Nat) : fillI (List.replicate m 0) m 0 = ((List.replicate m (0 : Int)).map (Value.int .i64)).toArray := by
  rw [← fillI_full (xs := List.replicate m (0 : Int)) (n := m) (by simp)]
  apply Array.ext_getElem?
  intro j
  rw [fillI_at, fillI_at, rep_at]
  by_cases h : j < m <;> simp [h]
theorem rep_sl {m : Nat} (hm : m ≤ 1048576) (w : World) : SlI (w.alloc (.cells (fillI (List.replicate m 0) m 0) 2)) (some ⟨w.heap.size, 0, none⟩) m (List.replicate m 0) := by
  rw [rep_fill]
  have h := (OwnI.made (w := w) (n := m) (xs := List.replicate m (0 : Int)) (by simp) hm).sl
  rw [← h.1] at h
  exact h.2

set_option maxRecDepth 100000 in
set_option maxHeartbeats 1600000 in
theorem iFewestLamps_any (A : Option Addr) (m c : Nat) (ys : List Int) (need : Int) (w : World) (H : SlI w A m ys) (hm : m ≤ 1048576) :
    Calls Try.prog 43 #[.slice A m c, .int .i64 need] w (GivesIC (fmL ys need m) (fmC ys need m) w) := by
  have HK := Lib.hid (lampsCode_any A m c ys need w H hm)
  rcases la_code need ys m with ⟨hc, _⟩ | ⟨hc, hneed, m8, hall⟩
  · obtain ⟨r1, r2⟩ := fm_no hc
    rw [r1, r2]
    rw [hc] at HK
    clear H r1 r2 hc
    go_enter Try.func43, Try.ntmps43
    go_wp2_with fail
    refine HK.out.mono ?_
    rintro e w1 ⟨rfl, hb1⟩
    go_wp2
    go_ret2
    exact ⟨_, rfl, OwnI.nil _ _, hb1⟩
  obtain ⟨r1, r2⟩ := fm_yes hc
  rw [r1, r2]
  rw [hc] at HK
  have hsm : smallI ys m := fun k hk => by (have h := lu_at hall (k := k) (by rw [H.length]; exact hk); omega)
  have hmk := make_ints (List.replicate m 0) m hm
  have HR := Lib.hid (fun W => rep_sl hm W)
  have HCH := Lib.hid (fun B d W HA HB => chosenLamps_any A m c ys B d (List.replicate m 0) need W HA HB m8 hsm (rep_small m))
  have HS := Lib.hid (fun W hW => H.below (w' := W) hW)
  have FN := Lib.hid (@cl_none ys (List.replicate m 0) need m)
  have FV := Lib.hid (fun l => @cl_some ys (List.replicate m 0) need m l)
  clear hc hneed hall hsm r1 r2 H
  generalize clC ys (List.replicate m 0) need m = C at *
  generalize chS ys (List.replicate m 0) need m (2 ^ m) = S at *
  generalize clL ys (List.replicate m 0) need m = ls at *
  generalize clP ys (List.replicate m 0) need m = P at *
  go_enter Try.func43, Try.ntmps43
  go_wp2_with fail
  refine HK.out.mono ?_
  rintro e w1 ⟨rfl, hb1⟩
  have HS1 := Lib.hid (HS.out _ (bw_alloc hb1 (.cells (fillI (List.replicate m 0) m 0) 2)))
  have HR1 := Lib.hid (HR.out w1)
  clear HK HS HR
  go_wp2_with fail
  refine (HCH.out _ _ _ HS1.out HR1.out).mono ?_
  rintro e w2 ⟨V, rfl, G, hb2⟩
  have hb3 := bw_trans (bw_alloc hb1 (.cells (fillI (List.replicate m 0) m 0) 2)) hb2
  have hs1 := hb1.size
  obtain ⟨A', c', rfl⟩ := G.form
  have HG := Lib.hid G
  clear hmk G HCH HS1 HR1 hb2
  cases S with
  | none =>
    obtain ⟨hl, _, hC⟩ := FN.out rfl
    subst hl
    subst hC
    clear FN FV
    go_wp2
    go_ret2
    exact ⟨.slice none 0 0, rfl, OwnI.nil _ _, hb3⟩
  | some l =>
    have hC := (FV.out l rfl).2.2
    subst hC
    clear FN FV
    go_wp2
    go_ret2
    exact ⟨_, rfl, HG.out.base (by simp; omega), hb3⟩

set_option maxRecDepth 100000 in
set_option maxHeartbeats 3200000 in
theorem iCheapestLamps_any (A : Option Addr) (m c : Nat) (ys : List Int) (B : Option Addr) (k d : Nat) (ps : List Int) (need : Int) (w : World) (H : SlI w A m ys) (HP : SlI w B k ps) (hm : m ≤ 1048576) (hk : k ≤ 1048576) :
    Calls Try.prog 45 #[.slice A m c, .slice B k d, .int .i64 need] w (GivesICC (cmL ys ps need m k) (cmP ys ps need m k) (cmC ys ps need m k) w) := by
  have HK := Lib.hid (lampsCode_any A m c ys need w H hm)
  have HPC := Lib.hid (fun W (hW : Below w.heap.size w W) b hb => prCon_any notPr B k d ps W (HP.below hW) hk (b := b) hb (fun k _ W _ => (prClos_is rfl W).mono fun e w' ⟨he, hw⟩ => ⟨he, hw ▸ Below.refl _ _⟩))
  rcases la_code need ys m with ⟨hc, _⟩ | ⟨hc, hneed, m8, hall⟩
  · obtain ⟨r1, r2, r3⟩ := cm_no (ps := ps) (cmB_code (ps := ps) (k := k) hc)
    rw [r1, r2, r3]
    rw [hc] at HK
    clear H HP HPC r1 r2 r3 hc
    go_enter Try.func45, Try.ntmps45
    go_wp2_with fail
    refine HK.out.mono ?_
    rintro e w1 ⟨rfl, hb1⟩
    go_wp2
    go_ret3
    exact ⟨_, rfl, OwnI.nil _ _, hb1⟩
  rw [hc] at HK
  have hcb := cmB_ok (ys := ys) (ps := ps) (k := k) hc
  by_cases hkm : k = m
  case neg =>
    rw [decide_eq_false hkm] at hcb
    obtain ⟨r1, r2, r3⟩ := cm_no hcb
    rw [r1, r2, r3]
    have hkm' : ((k : Int) != (m : Int)) = true := by simp only [bne_iff_ne, ne_eq]; omega
    clear H HP HPC r1 r2 r3 hcb hall hkm
    go_enter Try.func45, Try.ntmps45
    go_wp2_with fail
    refine HK.out.mono ?_
    rintro e w1 ⟨rfl, hb1⟩
    go_wp2
    go_ret3
    exact ⟨_, rfl, OwnI.nil _ _, hb1⟩
  subst hkm
  cases hpa : ps.any notPr
  case true =>
    rw [hpa] at hcb
    obtain ⟨r1, r2, r3⟩ := cm_no (by rw [hcb]; simp)
    rw [r1, r2, r3]
    have HQ := Lib.hid (fun W hW => HPC.out W hW _ hpa)
    clear H HP HPC r1 r2 r3 hcb hall hpa
    go_enter Try.func45, Try.ntmps45
    go_wp2_with fail
    refine HK.out.mono ?_
    rintro e w1 ⟨rfl, hb1⟩
    go_wp2_with fail
    refine (HQ.out _ hb1).mono ?_
    rintro e w2 ⟨rfl, hb2⟩
    go_wp2
    go_ret3
    exact ⟨_, rfl, OwnI.nil _ _, bw_trans hb1 hb2⟩
  rw [hpa] at hcb
  obtain ⟨r1, r2, r3⟩ := cm_yes (by rw [hcb]; simp)
  rw [r1, r2, r3]
  have HQ := Lib.hid (fun W hW => HPC.out W hW _ hpa)
  have hsm : smallI ys k := fun j hj => by (have h := lu_at hall (k := j) (by rw [H.length]; exact hj); omega)
  have hps : smallI ps k := fun j hj => by (have h := pr_at hpa (k := j) (by rw [HP.length]; exact hj); omega)
  have HCH := Lib.hid (fun W (hW : Below w.heap.size w W) => chosenLamps_any A k c ys B d ps need W (H.below hW) (HP.below hW) m8 hsm hps)
  have FN := Lib.hid (@cl_none ys ps need k)
  have FV := Lib.hid (fun l => @cl_some ys ps need k l)
  clear H HP HPC r1 r2 r3 hcb hall hpa hsm hps hneed hc
  generalize clC ys ps need k = C at *
  generalize chS ys ps need k (2 ^ k) = S at *
  generalize clL ys ps need k = ls at *
  generalize clP ys ps need k = P at *
  go_enter Try.func45, Try.ntmps45
  go_wp2_with fail
  refine HK.out.mono ?_
  rintro e w1 ⟨rfl, hb1⟩
  go_wp2_with fail
  refine (HQ.out _ hb1).mono ?_
  rintro e w2 ⟨rfl, hb2⟩
  have hb12 := bw_trans hb1 hb2
  clear HK HQ
  go_wp2_with fail
  refine (HCH.out _ hb12).mono ?_
  rintro e w3 ⟨V, rfl, G, hb3⟩
  have hb4 := bw_trans hb12 hb3
  have hs1 := hb12.size
  obtain ⟨A', c', rfl⟩ := G.form
  have HG := Lib.hid G
  clear G HCH hb3
  cases S with
  | none =>
    obtain ⟨hl, hp, hC⟩ := FN.out rfl
    subst hl
    subst hp
    subst hC
    clear FN FV
    go_wp2
    go_ret3
    exact ⟨.slice none 0 0, rfl, OwnI.nil _ _, hb4⟩
  | some l =>
    have hC := (FV.out l rfl).2.2
    subst hC
    clear FN FV
    go_wp2
    go_ret3
    exact ⟨_, rfl, HG.out.base hs1, hb4⟩

set_option maxRecDepth 100000 in
set_option maxHeartbeats 3200000 in
theorem law_FewestLamps (a_aLamps : Option Addr) (l_aLamps c_aLamps : Nat) (xs_aLamps : List Int) (aNeed : Int) (w : World) (hm_aLamps : l_aLamps ≤ 9223372036854775807) (H_aLamps : SlI w a_aLamps l_aLamps xs_aLamps) :
    Calls Try.prog 11 #[.slice a_aLamps l_aLamps c_aLamps, .int .i64 aNeed] w fun e w' => e = .returned (.bool true) ∧ Below w.heap.size w w' := by
  by_cases hn_aLamps : l_aLamps ≤ 1048576
  case neg =>
    clear H_aLamps
    go_enter Try.func11, Try.ntmps11
    go_wp2
    go_ret
    exact ⟨rfl, Below.refl _ _⟩
  have hS : ∀ (A_aLamps : Option Addr) (C_aLamps : Nat) (W : World), SlI W A_aLamps l_aLamps xs_aLamps → Calls Try.prog 42 #[.slice A_aLamps l_aLamps C_aLamps, .int .i64 aNeed] W (GivesIC (fmL xs_aLamps aNeed l_aLamps) (fmC xs_aLamps aNeed l_aLamps) W) := fun A_aLamps C_aLamps W K_aLamps => sFewestLamps_any A_aLamps l_aLamps C_aLamps xs_aLamps aNeed W K_aLamps hn_aLamps
  have hI : ∀ (A_aLamps : Option Addr) (C_aLamps : Nat) (W : World), SlI W A_aLamps l_aLamps xs_aLamps → Calls Try.prog 43 #[.slice A_aLamps l_aLamps C_aLamps, .int .i64 aNeed] W (GivesIC (fmL xs_aLamps aNeed l_aLamps) (fmC xs_aLamps aNeed l_aLamps) W) := fun A_aLamps C_aLamps W K_aLamps => iFewestLamps_any A_aLamps l_aLamps C_aLamps xs_aLamps aNeed W K_aLamps hn_aLamps
  have hy : (fmL xs_aLamps aNeed l_aLamps).length ≤ 1048576 := fm_len
  generalize fmL xs_aLamps aNeed l_aLamps = ys at *
  generalize fmC xs_aLamps aNeed l_aLamps = K0 at *
  have HS := Lib.hid hS
  have HI := Lib.hid hI
  clear hS hI
  go_enter Try.func11, Try.ntmps11
  go_wp2_with fail
  refine (toInts_any a_aLamps l_aLamps c_aLamps xs_aLamps _ H_aLamps hn_aLamps).mono ?_
  rintro e w1 ⟨rfl, he⟩
  have hb : Below w.heap.size w w1 := by rw [he]; exact bw_alloc (Below.refl _ _) _
  have Os_aLamps : OwnI w1 w.heap.size (.slice (some ⟨w.heap.size, 0, none⟩) l_aLamps l_aLamps) xs_aLamps := by rw [he]; exact OwnI.made H_aLamps.length hn_aLamps
  have Zs_aLamps : w.heap.size < w1.heap.size := by rw [he]; simp
  clear he
  have hB := hb
  clear hb
  go_wp2_with fail
  refine (HS.out (some ⟨w.heap.size, 0, none⟩) l_aLamps _ (by have h := Os_aLamps.sl; rw [← h.1] at h; exact h.2)).mono ?_
  rintro e w2 ⟨Vw, rfl, Gw, hb⟩
  replace Os_aLamps := Os_aLamps.below hb
  replace Zs_aLamps := Nat.lt_of_lt_of_le Zs_aLamps hb.size
  replace hB := bw_trans hB hb
  obtain ⟨Aw, cw, rfl⟩ := Gw.form
  clear hb
  clear Os_aLamps Zs_aLamps
  have hW := Below.refl w2.heap.size w2
  have hBs : w.heap.size ≤ w2.heap.size := hB.size
  have GW := Gw.sl.2
  clear Gw
  go_wp2_with fail
  refine (toInts_any a_aLamps l_aLamps c_aLamps xs_aLamps _ (H_aLamps.below hB) hn_aLamps).mono ?_
  rintro e w3 ⟨rfl, he⟩
  have hb : Below w2.heap.size w2 w3 := by rw [he]; exact bw_alloc (Below.refl _ _) _
  have Ox_aLamps : OwnI w3 w2.heap.size (.slice (some ⟨w2.heap.size, 0, none⟩) l_aLamps l_aLamps) xs_aLamps := by rw [he]; exact OwnI.made H_aLamps.length hn_aLamps
  have Zx_aLamps : w2.heap.size < w3.heap.size := by rw [he]; simp
  clear he
  replace hB := bw_trans hB hb
  replace hW := bw_trans hW hb
  clear hb
  have LE_aLamps := Lib.hid (show w2.heap.size ≤ w2.heap.size ∧ w2.heap.size < w3.heap.size ∧ w.heap.size ≤ w2.heap.size from ⟨Nat.le_refl _, Zx_aLamps, hBs⟩)
  have BGhB := Lib.hid (show w.heap.size ≤ w3.heap.size from hB.size)
  have BGhW := Lib.hid (show w2.heap.size ≤ w3.heap.size from hW.size)
  go_wp2_with fail
  refine (HI.out (some ⟨w2.heap.size, 0, none⟩) l_aLamps _ (by have h := Ox_aLamps.sl; rw [← h.1] at h; exact h.2)).mono ?_
  rintro e w4 ⟨Vg, rfl, Gg, hb⟩
  replace Ox_aLamps := Ox_aLamps.below hb
  replace Zx_aLamps := Nat.lt_of_lt_of_le Zx_aLamps hb.size
  replace hB := bw_trans hB hb
  replace hW := bw_trans hW hb
  obtain ⟨Ag, cg, rfl⟩ := Gg.form
  clear hb
  skip
  go_wp2_with fail
  refine (eqInts_any Ag Aw ys.length cg cw _ _ Gg.sl.2 (GW.below hW) hy).mono ?_
  rintro e w5 ⟨rfl, hb⟩
  replace Ox_aLamps := Ox_aLamps.below hb
  replace Gg := Gg.below hb
  replace Zx_aLamps := Nat.lt_of_lt_of_le Zx_aLamps hb.size
  replace hB := bw_trans hB hb
  replace hW := bw_trans hW hb
  clear hb
  go_wp2_with fail
  refine (toInts_any a_aLamps l_aLamps c_aLamps xs_aLamps _ (H_aLamps.below hB) hn_aLamps).mono ?_
  rintro e w6 ⟨rfl, he⟩
  have hb : Below w5.heap.size w5 w6 := by rw [he]; exact bw_alloc (Below.refl _ _) _
  have Oq_aLamps : OwnI w6 w5.heap.size (.slice (some ⟨w5.heap.size, 0, none⟩) l_aLamps l_aLamps) xs_aLamps := by rw [he]; exact OwnI.made H_aLamps.length hn_aLamps
  have Zq_aLamps : w5.heap.size < w6.heap.size := by rw [he]; simp
  clear he
  replace Ox_aLamps := Ox_aLamps.below hb
  replace Gg := Gg.below hb
  replace Zx_aLamps := Nat.lt_of_lt_of_le Zx_aLamps hb.size
  replace hB := bw_trans hB hb
  replace hW := bw_trans hW hb
  clear hb
  go_wp2_with fail
  refine (eqInts_any _ _ l_aLamps _ _ xs_aLamps _ (by have h := Ox_aLamps.sl; rw [← h.1] at h; exact h.2) (by have h := Oq_aLamps.sl; rw [← h.1] at h; exact h.2) hn_aLamps).mono ?_
  rintro e w7 ⟨rfl, hb⟩
  replace Ox_aLamps := Ox_aLamps.below hb
  replace Gg := Gg.below hb
  replace Oq_aLamps := Oq_aLamps.below hb
  replace Zx_aLamps := Nat.lt_of_lt_of_le Zx_aLamps hb.size
  replace Zq_aLamps := Nat.lt_of_lt_of_le Zq_aLamps hb.size
  replace hB := bw_trans hB hb
  replace hW := bw_trans hW hb
  clear hb
  clear Oq_aLamps Zq_aLamps
  go_wp2_with fail
  refine (markI_any _ l_aLamps _ w2.heap.size (1) xs_aLamps _ Ox_aLamps hn_aLamps ⟨by omega, by omega⟩).mono ?_
  rintro e w8 ⟨rfl, _, hg, _⟩
  replace hg : w7.grownBy w8 (some w2.heap.size) := hg
  have hle : w2.heap.size ≤ w2.heap.size := LE_aLamps.out.1
  have hlg : w2.heap.size < w3.heap.size := LE_aLamps.out.2.1
  have hww : w.heap.size ≤ w2.heap.size := LE_aLamps.out.2.2
  replace hB := bw_from hB (below_grown hg (fun j hj => by injection hj with hj; omega) hB.size)
  replace hW := bw_from hW (below_grown hg (fun j hj => by injection hj with hj; omega) hW.size)
  replace Gg := Gg.keptRow hg hlg
  clear hg hle hlg hww Ox_aLamps Zx_aLamps
  have hkn : ¬ (1 + (l_aLamps : Int) < 0) := by omega
  go_wp2_with fail
  refine (eqInts_any Ag Aw ys.length cg cw _ _ Gg.sl.2 (GW.below hW) hy).mono ?_
  rintro e w9 ⟨rfl, hb⟩
  replace Gg := Gg.below hb
  replace hB := bw_trans hB hb
  replace hW := bw_trans hW hb
  clear hb
  clear hkn
  go_wp2_with fail
  refine (markI_any Ag ys.length cg w3.heap.size 1 ys _ Gg hy ⟨by omega, by omega⟩).mono ?_
  rintro e w10 ⟨rfl, GM, _, hb⟩
  replace hB := bw_from hB (hb.mono BGhB.out)
  replace hW := bw_from hW (hb.mono BGhW.out)
  clear hb Gg
  have hml := mks_len 1 ys.length
  have HM := Lib.hid hml
  clear hml
  have hqn : ¬ (1 + (ys.length : Int) < 0) := by omega
  go_wp2_with fail
  refine (heldI_any Ag ys.length cg 1 _ (by have h := GM.sl.2; rw [HM.out] at h; exact h) hy ⟨by omega, by omega⟩).mono ?_
  rintro e w11 ⟨rfl, hb⟩
  replace GM := GM.below hb
  replace hB := bw_trans hB hb
  replace hW := bw_trans hW hb
  clear hb
  go_wp2_with fail
  refine (toInts_any a_aLamps l_aLamps c_aLamps xs_aLamps _ (H_aLamps.below hB) hn_aLamps).mono ?_
  rintro e w12 ⟨rfl, he⟩
  have hb : Below w11.heap.size w11 w12 := by rw [he]; exact bw_alloc (Below.refl _ _) _
  have Oh_aLamps : OwnI w12 w11.heap.size (.slice (some ⟨w11.heap.size, 0, none⟩) l_aLamps l_aLamps) xs_aLamps := by rw [he]; exact OwnI.made H_aLamps.length hn_aLamps
  have Zh_aLamps : w11.heap.size < w12.heap.size := by rw [he]; simp
  clear he
  replace GM := GM.below hb
  replace hB := bw_trans hB hb
  replace hW := bw_trans hW hb
  clear hb
  go_wp2_with fail
  refine (HI.out (some ⟨w11.heap.size, 0, none⟩) l_aLamps _ (by have h := Oh_aLamps.sl; rw [← h.1] at h; exact h.2)).mono ?_
  rintro e w13 ⟨Vh, rfl, Gh, hb⟩
  replace GM := GM.below hb
  replace Oh_aLamps := Oh_aLamps.below hb
  replace Zh_aLamps := Nat.lt_of_lt_of_le Zh_aLamps hb.size
  replace hB := bw_trans hB hb
  replace hW := bw_trans hW hb
  obtain ⟨Ah, ch, rfl⟩ := Gh.form
  clear hb
  clear Oh_aLamps Zh_aLamps
  go_wp2_with fail
  refine (eqInts_any Ah Aw ys.length ch cw _ _ Gh.sl.2 (GW.below hW) hy).mono ?_
  rintro e w14 ⟨rfl, hb⟩
  replace GM := GM.below hb
  replace Gh := Gh.below hb
  replace hB := bw_trans hB hb
  replace hW := bw_trans hW hb
  clear hb
  clear Gh
  go_wp2_with fail
  refine (heldI_any Ag ys.length cg 1 _ (by have h := GM.sl.2; rw [HM.out] at h; exact h) hy ⟨by omega, by omega⟩).mono ?_
  rintro e w15 ⟨rfl, hb⟩
  replace GM := GM.below hb
  replace hB := bw_trans hB hb
  replace hW := bw_trans hW hb
  clear hb
  clear GW GM HM
  go_wp2
  go_ret
  exact ⟨rfl, hB⟩

set_option maxRecDepth 100000 in
set_option maxHeartbeats 3200000 in
theorem law_CheapestLamps (a_aLamps : Option Addr) (l_aLamps c_aLamps : Nat) (xs_aLamps : List Int) (a_aPrices : Option Addr) (l_aPrices c_aPrices : Nat) (xs_aPrices : List Int) (aNeed : Int) (w : World) (hm_aLamps : l_aLamps ≤ 9223372036854775807) (H_aLamps : SlI w a_aLamps l_aLamps xs_aLamps) (hm_aPrices : l_aPrices ≤ 9223372036854775807) (H_aPrices : SlI w a_aPrices l_aPrices xs_aPrices) :
    Calls Try.prog 12 #[.slice a_aLamps l_aLamps c_aLamps, .slice a_aPrices l_aPrices c_aPrices, .int .i64 aNeed] w fun e w' => e = .returned (.bool true) ∧ Below w.heap.size w w' := by
  by_cases hn_aLamps : l_aLamps ≤ 1048576
  case neg =>
    clear H_aLamps H_aPrices
    go_enter Try.func12, Try.ntmps12
    go_wp2
    go_ret
    exact ⟨rfl, Below.refl _ _⟩
  by_cases hn_aPrices : l_aPrices ≤ 1048576
  case neg =>
    clear H_aLamps H_aPrices
    go_enter Try.func12, Try.ntmps12
    go_wp2
    go_ret
    exact ⟨rfl, Below.refl _ _⟩
  have hS : ∀ (A_aLamps : Option Addr) (C_aLamps : Nat) (A_aPrices : Option Addr) (C_aPrices : Nat) (W : World), SlI W A_aLamps l_aLamps xs_aLamps → SlI W A_aPrices l_aPrices xs_aPrices → Calls Try.prog 44 #[.slice A_aLamps l_aLamps C_aLamps, .slice A_aPrices l_aPrices C_aPrices, .int .i64 aNeed] W (GivesICC (cmL xs_aLamps xs_aPrices aNeed l_aLamps l_aPrices) (cmP xs_aLamps xs_aPrices aNeed l_aLamps l_aPrices) (cmC xs_aLamps xs_aPrices aNeed l_aLamps l_aPrices) W) := fun A_aLamps C_aLamps A_aPrices C_aPrices W K_aLamps K_aPrices => sCheapestLamps_any A_aLamps l_aLamps C_aLamps xs_aLamps A_aPrices l_aPrices C_aPrices xs_aPrices aNeed W K_aLamps K_aPrices hn_aLamps hn_aPrices
  have hI : ∀ (A_aLamps : Option Addr) (C_aLamps : Nat) (A_aPrices : Option Addr) (C_aPrices : Nat) (W : World), SlI W A_aLamps l_aLamps xs_aLamps → SlI W A_aPrices l_aPrices xs_aPrices → Calls Try.prog 45 #[.slice A_aLamps l_aLamps C_aLamps, .slice A_aPrices l_aPrices C_aPrices, .int .i64 aNeed] W (GivesICC (cmL xs_aLamps xs_aPrices aNeed l_aLamps l_aPrices) (cmP xs_aLamps xs_aPrices aNeed l_aLamps l_aPrices) (cmC xs_aLamps xs_aPrices aNeed l_aLamps l_aPrices) W) := fun A_aLamps C_aLamps A_aPrices C_aPrices W K_aLamps K_aPrices => iCheapestLamps_any A_aLamps l_aLamps C_aLamps xs_aLamps A_aPrices l_aPrices C_aPrices xs_aPrices aNeed W K_aLamps K_aPrices hn_aLamps hn_aPrices
  have hy : (cmL xs_aLamps xs_aPrices aNeed l_aLamps l_aPrices).length ≤ 1048576 := cm_len
  generalize cmL xs_aLamps xs_aPrices aNeed l_aLamps l_aPrices = ys at *
  generalize cmP xs_aLamps xs_aPrices aNeed l_aLamps l_aPrices = K0 at *
  generalize cmC xs_aLamps xs_aPrices aNeed l_aLamps l_aPrices = K1 at *
  have HS := Lib.hid hS
  have HI := Lib.hid hI
  clear hS hI
  go_enter Try.func12, Try.ntmps12
  go_wp2_with fail
  refine (toInts_any a_aLamps l_aLamps c_aLamps xs_aLamps _ H_aLamps hn_aLamps).mono ?_
  rintro e w1 ⟨rfl, he⟩
  have hb : Below w.heap.size w w1 := by rw [he]; exact bw_alloc (Below.refl _ _) _
  have Os_aLamps : OwnI w1 w.heap.size (.slice (some ⟨w.heap.size, 0, none⟩) l_aLamps l_aLamps) xs_aLamps := by rw [he]; exact OwnI.made H_aLamps.length hn_aLamps
  have Zs_aLamps : w.heap.size < w1.heap.size := by rw [he]; simp
  clear he
  have hB := hb
  clear hb
  go_wp2_with fail
  refine (toInts_any a_aPrices l_aPrices c_aPrices xs_aPrices _ (H_aPrices.below hB) hn_aPrices).mono ?_
  rintro e w2 ⟨rfl, he⟩
  have hb : Below w1.heap.size w1 w2 := by rw [he]; exact bw_alloc (Below.refl _ _) _
  have Os_aPrices : OwnI w2 w1.heap.size (.slice (some ⟨w1.heap.size, 0, none⟩) l_aPrices l_aPrices) xs_aPrices := by rw [he]; exact OwnI.made H_aPrices.length hn_aPrices
  have Zs_aPrices : w1.heap.size < w2.heap.size := by rw [he]; simp
  clear he
  replace Os_aLamps := Os_aLamps.below hb
  replace Zs_aLamps := Nat.lt_of_lt_of_le Zs_aLamps hb.size
  replace hB := bw_trans hB hb
  clear hb
  go_wp2_with fail
  refine (HS.out (some ⟨w.heap.size, 0, none⟩) l_aLamps (some ⟨w1.heap.size, 0, none⟩) l_aPrices _ (by have h := Os_aLamps.sl; rw [← h.1] at h; exact h.2) (by have h := Os_aPrices.sl; rw [← h.1] at h; exact h.2)).mono ?_
  rintro e w3 ⟨Vw, rfl, Gw, hb⟩
  replace Os_aLamps := Os_aLamps.below hb
  replace Os_aPrices := Os_aPrices.below hb
  replace Zs_aLamps := Nat.lt_of_lt_of_le Zs_aLamps hb.size
  replace Zs_aPrices := Nat.lt_of_lt_of_le Zs_aPrices hb.size
  replace hB := bw_trans hB hb
  obtain ⟨Aw, cw, rfl⟩ := Gw.form
  clear hb
  clear Os_aLamps Zs_aLamps
  clear Os_aPrices Zs_aPrices
  have hW := Below.refl w3.heap.size w3
  have hBs : w.heap.size ≤ w3.heap.size := hB.size
  have GW := Gw.sl.2
  clear Gw
  go_wp2_with fail
  refine (toInts_any a_aLamps l_aLamps c_aLamps xs_aLamps _ (H_aLamps.below hB) hn_aLamps).mono ?_
  rintro e w4 ⟨rfl, he⟩
  have hb : Below w3.heap.size w3 w4 := by rw [he]; exact bw_alloc (Below.refl _ _) _
  have Ox_aLamps : OwnI w4 w3.heap.size (.slice (some ⟨w3.heap.size, 0, none⟩) l_aLamps l_aLamps) xs_aLamps := by rw [he]; exact OwnI.made H_aLamps.length hn_aLamps
  have Zx_aLamps : w3.heap.size < w4.heap.size := by rw [he]; simp
  clear he
  replace hB := bw_trans hB hb
  replace hW := bw_trans hW hb
  clear hb
  have OLE_1 : w3.heap.size ≤ w4.heap.size := hW.size
  have OLT_0_1 : w3.heap.size < w4.heap.size := Zx_aLamps
  go_wp2_with fail
  refine (toInts_any a_aPrices l_aPrices c_aPrices xs_aPrices _ (H_aPrices.below hB) hn_aPrices).mono ?_
  rintro e w5 ⟨rfl, he⟩
  have hb : Below w4.heap.size w4 w5 := by rw [he]; exact bw_alloc (Below.refl _ _) _
  have Ox_aPrices : OwnI w5 w4.heap.size (.slice (some ⟨w4.heap.size, 0, none⟩) l_aPrices l_aPrices) xs_aPrices := by rw [he]; exact OwnI.made H_aPrices.length hn_aPrices
  have Zx_aPrices : w4.heap.size < w5.heap.size := by rw [he]; simp
  clear he
  replace Ox_aLamps := Ox_aLamps.below hb
  replace Zx_aLamps := Nat.lt_of_lt_of_le Zx_aLamps hb.size
  replace hB := bw_trans hB hb
  replace hW := bw_trans hW hb
  clear hb
  have LE_aLamps := Lib.hid (show w3.heap.size ≤ w3.heap.size ∧ w3.heap.size < w5.heap.size ∧ w.heap.size ≤ w3.heap.size from ⟨Nat.le_refl _, Zx_aLamps, hBs⟩)
  have LT_aLamps_aPrices := Lib.hid (show w3.heap.size < w4.heap.size from OLT_0_1)
  have LE_aPrices := Lib.hid (show w3.heap.size ≤ w4.heap.size ∧ w4.heap.size < w5.heap.size ∧ w.heap.size ≤ w3.heap.size from ⟨OLE_1, Zx_aPrices, hBs⟩)
  have BGhB := Lib.hid (show w.heap.size ≤ w5.heap.size from hB.size)
  have BGhW := Lib.hid (show w3.heap.size ≤ w5.heap.size from hW.size)
  go_wp2_with fail
  refine (HI.out (some ⟨w3.heap.size, 0, none⟩) l_aLamps (some ⟨w4.heap.size, 0, none⟩) l_aPrices _ (by have h := Ox_aLamps.sl; rw [← h.1] at h; exact h.2) (by have h := Ox_aPrices.sl; rw [← h.1] at h; exact h.2)).mono ?_
  rintro e w6 ⟨Vg, rfl, Gg, hb⟩
  replace Ox_aLamps := Ox_aLamps.below hb
  replace Ox_aPrices := Ox_aPrices.below hb
  replace Zx_aLamps := Nat.lt_of_lt_of_le Zx_aLamps hb.size
  replace Zx_aPrices := Nat.lt_of_lt_of_le Zx_aPrices hb.size
  replace hB := bw_trans hB hb
  replace hW := bw_trans hW hb
  obtain ⟨Ag, cg, rfl⟩ := Gg.form
  clear hb
  skip
  go_wp2_with fail
  refine (eqInts_any Ag Aw ys.length cg cw _ _ Gg.sl.2 (GW.below hW) hy).mono ?_
  rintro e w7 ⟨rfl, hb⟩
  replace Ox_aLamps := Ox_aLamps.below hb
  replace Ox_aPrices := Ox_aPrices.below hb
  replace Gg := Gg.below hb
  replace Zx_aLamps := Nat.lt_of_lt_of_le Zx_aLamps hb.size
  replace Zx_aPrices := Nat.lt_of_lt_of_le Zx_aPrices hb.size
  replace hB := bw_trans hB hb
  replace hW := bw_trans hW hb
  clear hb
  go_wp2_with fail
  refine (toInts_any a_aLamps l_aLamps c_aLamps xs_aLamps _ (H_aLamps.below hB) hn_aLamps).mono ?_
  rintro e w8 ⟨rfl, he⟩
  have hb : Below w7.heap.size w7 w8 := by rw [he]; exact bw_alloc (Below.refl _ _) _
  have Oq_aLamps : OwnI w8 w7.heap.size (.slice (some ⟨w7.heap.size, 0, none⟩) l_aLamps l_aLamps) xs_aLamps := by rw [he]; exact OwnI.made H_aLamps.length hn_aLamps
  have Zq_aLamps : w7.heap.size < w8.heap.size := by rw [he]; simp
  clear he
  replace Ox_aLamps := Ox_aLamps.below hb
  replace Ox_aPrices := Ox_aPrices.below hb
  replace Gg := Gg.below hb
  replace Zx_aLamps := Nat.lt_of_lt_of_le Zx_aLamps hb.size
  replace Zx_aPrices := Nat.lt_of_lt_of_le Zx_aPrices hb.size
  replace hB := bw_trans hB hb
  replace hW := bw_trans hW hb
  clear hb
  go_wp2_with fail
  refine (eqInts_any _ _ l_aLamps _ _ xs_aLamps _ (by have h := Ox_aLamps.sl; rw [← h.1] at h; exact h.2) (by have h := Oq_aLamps.sl; rw [← h.1] at h; exact h.2) hn_aLamps).mono ?_
  rintro e w9 ⟨rfl, hb⟩
  replace Ox_aLamps := Ox_aLamps.below hb
  replace Ox_aPrices := Ox_aPrices.below hb
  replace Gg := Gg.below hb
  replace Oq_aLamps := Oq_aLamps.below hb
  replace Zx_aLamps := Nat.lt_of_lt_of_le Zx_aLamps hb.size
  replace Zx_aPrices := Nat.lt_of_lt_of_le Zx_aPrices hb.size
  replace Zq_aLamps := Nat.lt_of_lt_of_le Zq_aLamps hb.size
  replace hB := bw_trans hB hb
  replace hW := bw_trans hW hb
  clear hb
  clear Oq_aLamps Zq_aLamps
  go_wp2_with fail
  refine (toInts_any a_aPrices l_aPrices c_aPrices xs_aPrices _ (H_aPrices.below hB) hn_aPrices).mono ?_
  rintro e w10 ⟨rfl, he⟩
  have hb : Below w9.heap.size w9 w10 := by rw [he]; exact bw_alloc (Below.refl _ _) _
  have Oq_aPrices : OwnI w10 w9.heap.size (.slice (some ⟨w9.heap.size, 0, none⟩) l_aPrices l_aPrices) xs_aPrices := by rw [he]; exact OwnI.made H_aPrices.length hn_aPrices
  have Zq_aPrices : w9.heap.size < w10.heap.size := by rw [he]; simp
  clear he
  replace Ox_aLamps := Ox_aLamps.below hb
  replace Ox_aPrices := Ox_aPrices.below hb
  replace Gg := Gg.below hb
  replace Zx_aLamps := Nat.lt_of_lt_of_le Zx_aLamps hb.size
  replace Zx_aPrices := Nat.lt_of_lt_of_le Zx_aPrices hb.size
  replace hB := bw_trans hB hb
  replace hW := bw_trans hW hb
  clear hb
  go_wp2_with fail
  refine (eqInts_any _ _ l_aPrices _ _ xs_aPrices _ (by have h := Ox_aPrices.sl; rw [← h.1] at h; exact h.2) (by have h := Oq_aPrices.sl; rw [← h.1] at h; exact h.2) hn_aPrices).mono ?_
  rintro e w11 ⟨rfl, hb⟩
  replace Ox_aLamps := Ox_aLamps.below hb
  replace Ox_aPrices := Ox_aPrices.below hb
  replace Gg := Gg.below hb
  replace Oq_aPrices := Oq_aPrices.below hb
  replace Zx_aLamps := Nat.lt_of_lt_of_le Zx_aLamps hb.size
  replace Zx_aPrices := Nat.lt_of_lt_of_le Zx_aPrices hb.size
  replace Zq_aPrices := Nat.lt_of_lt_of_le Zq_aPrices hb.size
  replace hB := bw_trans hB hb
  replace hW := bw_trans hW hb
  clear hb
  clear Oq_aPrices Zq_aPrices
  go_wp2_with fail
  refine (markI_any _ l_aLamps _ w3.heap.size (1) xs_aLamps _ Ox_aLamps hn_aLamps ⟨by omega, by omega⟩).mono ?_
  rintro e w12 ⟨rfl, _, hg, _⟩
  replace hg : w11.grownBy w12 (some w3.heap.size) := hg
  have hle : w3.heap.size ≤ w3.heap.size := LE_aLamps.out.1
  have hlg : w3.heap.size < w5.heap.size := LE_aLamps.out.2.1
  have hww : w.heap.size ≤ w3.heap.size := LE_aLamps.out.2.2
  replace hB := bw_from hB (below_grown hg (fun j hj => by injection hj with hj; omega) hB.size)
  replace hW := bw_from hW (below_grown hg (fun j hj => by injection hj with hj; omega) hW.size)
  replace Zx_aPrices := Nat.lt_of_lt_of_le Zx_aPrices hg.size
  replace Ox_aPrices := Ox_aPrices.keptRow hg LT_aLamps_aPrices.out
  replace Gg := Gg.keptRow hg hlg
  clear hg hle hlg hww Ox_aLamps Zx_aLamps
  go_wp2_with fail
  refine (markI_any _ l_aPrices _ w4.heap.size (1 + (l_aLamps : Int)) xs_aPrices _ Ox_aPrices hn_aPrices ⟨by omega, by omega⟩).mono ?_
  rintro e w13 ⟨rfl, _, hg, _⟩
  replace hg : w12.grownBy w13 (some w4.heap.size) := hg
  have hle : w3.heap.size ≤ w4.heap.size := LE_aPrices.out.1
  have hlg : w4.heap.size < w5.heap.size := LE_aPrices.out.2.1
  have hww : w.heap.size ≤ w3.heap.size := LE_aPrices.out.2.2
  replace hB := bw_from hB (below_grown hg (fun j hj => by injection hj with hj; omega) hB.size)
  replace hW := bw_from hW (below_grown hg (fun j hj => by injection hj with hj; omega) hW.size)
  replace Gg := Gg.keptRow hg hlg
  clear hg hle hlg hww Ox_aPrices Zx_aPrices
  have hkn : ¬ (1 + (l_aLamps : Int) + (l_aPrices : Int) < 0) := by omega
  go_wp2_with fail
  refine (eqInts_any Ag Aw ys.length cg cw _ _ Gg.sl.2 (GW.below hW) hy).mono ?_
  rintro e w14 ⟨rfl, hb⟩
  replace Gg := Gg.below hb
  replace hB := bw_trans hB hb
  replace hW := bw_trans hW hb
  clear hb
  clear hkn
  go_wp2_with fail
  refine (markI_any Ag ys.length cg w5.heap.size 1 ys _ Gg hy ⟨by omega, by omega⟩).mono ?_
  rintro e w15 ⟨rfl, GM, _, hb⟩
  replace hB := bw_from hB (hb.mono BGhB.out)
  replace hW := bw_from hW (hb.mono BGhW.out)
  clear hb Gg
  have hml := mks_len 1 ys.length
  have HM := Lib.hid hml
  clear hml
  have hqn : ¬ (1 + (ys.length : Int) < 0) := by omega
  go_wp2_with fail
  refine (heldI_any Ag ys.length cg 1 _ (by have h := GM.sl.2; rw [HM.out] at h; exact h) hy ⟨by omega, by omega⟩).mono ?_
  rintro e w16 ⟨rfl, hb⟩
  replace GM := GM.below hb
  replace hB := bw_trans hB hb
  replace hW := bw_trans hW hb
  clear hb
  go_wp2_with fail
  refine (toInts_any a_aLamps l_aLamps c_aLamps xs_aLamps _ (H_aLamps.below hB) hn_aLamps).mono ?_
  rintro e w17 ⟨rfl, he⟩
  have hb : Below w16.heap.size w16 w17 := by rw [he]; exact bw_alloc (Below.refl _ _) _
  have Oh_aLamps : OwnI w17 w16.heap.size (.slice (some ⟨w16.heap.size, 0, none⟩) l_aLamps l_aLamps) xs_aLamps := by rw [he]; exact OwnI.made H_aLamps.length hn_aLamps
  have Zh_aLamps : w16.heap.size < w17.heap.size := by rw [he]; simp
  clear he
  replace GM := GM.below hb
  replace hB := bw_trans hB hb
  replace hW := bw_trans hW hb
  clear hb
  go_wp2_with fail
  refine (toInts_any a_aPrices l_aPrices c_aPrices xs_aPrices _ (H_aPrices.below hB) hn_aPrices).mono ?_
  rintro e w18 ⟨rfl, he⟩
  have hb : Below w17.heap.size w17 w18 := by rw [he]; exact bw_alloc (Below.refl _ _) _
  have Oh_aPrices : OwnI w18 w17.heap.size (.slice (some ⟨w17.heap.size, 0, none⟩) l_aPrices l_aPrices) xs_aPrices := by rw [he]; exact OwnI.made H_aPrices.length hn_aPrices
  have Zh_aPrices : w17.heap.size < w18.heap.size := by rw [he]; simp
  clear he
  replace GM := GM.below hb
  replace Oh_aLamps := Oh_aLamps.below hb
  replace Zh_aLamps := Nat.lt_of_lt_of_le Zh_aLamps hb.size
  replace hB := bw_trans hB hb
  replace hW := bw_trans hW hb
  clear hb
  go_wp2_with fail
  refine (HI.out (some ⟨w16.heap.size, 0, none⟩) l_aLamps (some ⟨w17.heap.size, 0, none⟩) l_aPrices _ (by have h := Oh_aLamps.sl; rw [← h.1] at h; exact h.2) (by have h := Oh_aPrices.sl; rw [← h.1] at h; exact h.2)).mono ?_
  rintro e w19 ⟨Vh, rfl, Gh, hb⟩
  replace GM := GM.below hb
  replace Oh_aLamps := Oh_aLamps.below hb
  replace Oh_aPrices := Oh_aPrices.below hb
  replace Zh_aLamps := Nat.lt_of_lt_of_le Zh_aLamps hb.size
  replace Zh_aPrices := Nat.lt_of_lt_of_le Zh_aPrices hb.size
  replace hB := bw_trans hB hb
  replace hW := bw_trans hW hb
  obtain ⟨Ah, ch, rfl⟩ := Gh.form
  clear hb
  clear Oh_aLamps Zh_aLamps
  clear Oh_aPrices Zh_aPrices
  go_wp2_with fail
  refine (eqInts_any Ah Aw ys.length ch cw _ _ Gh.sl.2 (GW.below hW) hy).mono ?_
  rintro e w20 ⟨rfl, hb⟩
  replace GM := GM.below hb
  replace Gh := Gh.below hb
  replace hB := bw_trans hB hb
  replace hW := bw_trans hW hb
  clear hb
  clear Gh
  go_wp2_with fail
  refine (heldI_any Ag ys.length cg 1 _ (by have h := GM.sl.2; rw [HM.out] at h; exact h) hy ⟨by omega, by omega⟩).mono ?_
  rintro e w21 ⟨rfl, hb⟩
  replace GM := GM.below hb
  replace hB := bw_trans hB hb
  replace hW := bw_trans hW hb
  clear hb
  clear GW GM HM
  go_wp2
  go_ret
  exact ⟨rfl, hB⟩
end Go.Proofs.Ythhilkahfgpncaa
