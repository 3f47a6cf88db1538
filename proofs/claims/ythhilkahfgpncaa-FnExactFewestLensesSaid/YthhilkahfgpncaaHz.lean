/-
  FewestLenses: in the program; the law.
-/
import Derived.Test.YthhilkahfgpncaaHy
import Derived.IntWalk
import Derived.Deep.CutRange
import Derived.Deep.RegionHeld3
import Derived.Deep.RegionLaw
import Derived.Test.YthhilkahfgpncaaShM
namespace Go.Proofs.Ythhilkahfgpncaa
open Go.RowKit

theorem OwnI.far {w : World} {B b : Nat} {v : Value} {xs : List Int} (h : OwnI w B v xs) (hb : b < B) : v.ownBlock ≠ some b := by
  rcases h.2 with ⟨rfl, _⟩ | ⟨g, cap, cur, e, hg, _⟩
  · simp [Value.ownBlock]
  · rw [e]; simp [Value.ownBlock]; omega
theorem bw_grown {w w' : World} {B : Nat} {v : Value} {xs : List Int} (hg : w.grownBy w' v.ownBlock) (h : OwnI w B v xs) (hB : B ≤ w.heap.size) : Below B w w' :=
  ⟨hg.os, hg.tape, hg.output, hg.size, fun k hk => hg.block k (by omega) (Ne.symm (h.far hk))⟩

set_option maxRecDepth 100000 in
set_option maxHeartbeats 12800000 in
theorem iFewestLenses_any (A : Option Addr) (n c : Nat) (xs : List LhE) (s : Int) (B : Option Addr) (m d : Nat) (ys : List Int) (w : World) (H : SlLh w A n xs) (HY : SlI w B m ys) (hn : n ≤ 1048576) (hm : m ≤ 1048576) :
    Calls Try.prog 51 #[.slice A n c, .int .i64 s, .slice B m d] w (GivesIC (fwL xs n s ys m) (fwC xs n s ys m) w) := by
  have HV := Lib.hid (fun W hW => validLensHalls_is A n c xs W (H.below hW) hn rfl)
  have HK := Lib.hid (fun W hW => hallsCode_any (vhB xs n) s 1 B m d ys W (HY.below hW) hm)
  have HKC := Lib.hid (show hlC xs n s ys m = hcC (vhB xs n) s 1 ys m from rfl)
  rw [← HKC.out] at HK
  by_cases hc : hlC xs n s ys m = 0
  case neg =>
    obtain ⟨r1, r2⟩ := fw_no hc
    rw [r1, r2]
    have hce : (hlC xs n s ys m != 0) = true := by simpa using hc
    clear H HY HKC r1 r2
    generalize hlC xs n s ys m = C at *
    generalize vhB xs n = V at *
    go_enter Try.func51, Try.ntmps51
    go_wp2_with fail
    have HV2 := Lib.hid (fun (t : Bel (w.alloc (.cells #[.int .i64 s] 2))) => HV.out t.1 (bw_trans (bw_alloc (Below.refl _ _) _) t.2))
    have HK2 := Lib.hid (fun (t : Bel (w.alloc (.cells #[.int .i64 s] 2))) => HK.out t.1 (bw_trans (bw_alloc (Below.refl _ _) _) t.2))
    refine wp_region_bel (by kernel_rfl) (by kernel_rfl) ?_
    repeat (go_big_quiet_step (((first | (go_at_call 22; exact calm_of (HV2.out _)) | (go_at_call 56; exact calm_of (HK2.out _))))))
    refine wpQuiet_nil ?_
    intro w1 hw'
    obtain ⟨tq, hw''⟩ := hw'
    have hw1 := tq.2
    rw [← hw''] at hw1
    clear hw'' tq
    obtain ⟨hcw1, hfw1⟩ := bcell hw1
    try (have hzw1 : w.heap.size < w1.heap.size := by (have h := hw1.size; (try simp at h); omega))
    try (have hyw1 : w.heap.size + 1 < w1.heap.size := by (have h := hw1.size; (try simp at h); omega))
    try (have hxw1 : w.heap.size + 1 + 1 < w1.heap.size := by (have h := hw1.size; (try simp at h); omega))
    try (have hvw1 : w.heap.size + 1 + 1 + 1 < w1.heap.size := by (have h := hw1.size; (try simp at h); omega))
    go_wp2
    go_ret2
    exact ⟨_, rfl, OwnI.nil _ _, bw_trans (bw_alloc (Below.refl _ _) _) hw1⟩
  obtain ⟨n8, m12, hv, hs, hf⟩ := hl_ok H.1 hc
  have hp := pow_bd m12
  have HYL := Lib.hid HY.length
  have FN := Lib.hid (@fw_none xs n s ys m hc)
  have FV := Lib.hid (@fw_some xs n s ys m · hc)
  have hw2 := wrap_two m12
  obtain ⟨M, hM⟩ : ∃ M : Nat, 2 ^ m = M := ⟨_, rfl⟩
  rw [hM] at FN FV hw2 hp
  have HW := Lib.hid hw2
  have HM := Lib.hid hM
  have HVA := Lib.hid hv
  have HSS := Lib.hid hs
  have HFA := Lib.hid hf
  have HCV := Lib.hid (fun b => @cv_any xs n s ys m b H.1)
  rw [hc] at HK
  clear hc hv hs hf HKC hw2 hM
  generalize vhB xs n = V at *
  go_enter Try.func51, Try.ntmps51
  go_wp2_with fail
  have HV2 := Lib.hid (fun (t : Bel (w.alloc (.cells #[.int .i64 s] 2))) => HV.out t.1 (bw_trans (bw_alloc (Below.refl _ _) _) t.2))
  have HK2 := Lib.hid (fun (t : Bel (w.alloc (.cells #[.int .i64 s] 2))) => HK.out t.1 (bw_trans (bw_alloc (Below.refl _ _) _) t.2))
  refine wp_region_bel (by kernel_rfl) (by kernel_rfl) ?_
  repeat (go_big_quiet_step (((first | (go_at_call 22; exact calm_of (HV2.out _)) | (go_at_call 56; exact calm_of (HK2.out _))))))
  refine wpQuiet_nil ?_
  intro w1 hw'
  obtain ⟨tq, hw''⟩ := hw'
  have hw1 := tq.2
  rw [← hw''] at hw1
  clear hw'' tq
  obtain ⟨hcw1, hfw1⟩ := bcell hw1
  try (have hzw1 : w.heap.size < w1.heap.size := by (have h := hw1.size; (try simp at h); omega))
  try (have hyw1 : w.heap.size + 1 < w1.heap.size := by (have h := hw1.size; (try simp at h); omega))
  try (have hxw1 : w.heap.size + 1 + 1 < w1.heap.size := by (have h := hw1.size; (try simp at h); omega))
  try (have hvw1 : w.heap.size + 1 + 1 + 1 < w1.heap.size := by (have h := hw1.size; (try simp at h); omega))
  clear HV HK HV2 HK2
  have hb1 := bw_trans (bw_alloc (Below.refl w.heap.size w) _) hw1
  have hs1 := hb1.size
  have hcs : w1.cell? ⟨w.heap.size, 0, none⟩ = some (.int .i64 s) := cell_of hw1 (by go_simp)
  have HCS := Lib.hid hcs
  clear hcs hcw1 hfw1 hw1
  go_wp2_with fail
  go_loopg [9, 10, 29] M (fun gh v f x wr => ∃ b : Nat, b ≤ M ∧ gh = M - b ∧ OwnI wr w1.heap.size v ((flS xs n s ys m b).getD []) ∧ f = .bool (flS xs n s ys m b).isSome ∧ x = .int .i64 b ∧ Below w1.heap.size w1 wr)
  case atStart => exact ⟨0, by omega, by omega, OwnI.lit w1 (Nat.le_refl _), rfl, rfl, bw_alloc (Below.refl _ _) _⟩
  case round =>
    obtain ⟨b, hbm, rfl, hown, rfl, rfl, hbr⟩ := hrel
    have HO := Lib.hid hown
    have hlen := fl_len (xs := xs) (n := n) (s := s) (ys := ys) (m := m) (b := b)
    clear hown
    have F0 := Lib.hid (@fl_uncov xs n s ys m b)
    have F1 := Lib.hid (@fl_first xs n s ys m b)
    have F2 := Lib.hid (fun l => @fl_less xs n s ys m b l)
    have F3 := Lib.hid (fun l => @fl_more xs n s ys m b l)
    have FE := Lib.hid (show b = M → flS xs n s ys m M = flS xs n s ys m b from fun h => by rw [h])
    generalize flS xs n s ys m b = S at *
    obtain ⟨Ab, cb, rfl⟩ := HO.out.form
    by_cases hlt : b < M
    · have hcond : (b : Int) < wrap64 ((2 : Int) ^ m) := by rw [HW.out]; omega
      have hix := Lib.hid (ix_at (b := b) (k := m) (by rw [HM.out]; exact hlt) (by omega))
      have HIX := Lib.hid (fun W => indicesOf_any b W (by omega))
      have hxl := ix_len b
      clear FE
      go_wp2_with fail
      refine (HIX.out _).mono ?_
      rintro e w3 ⟨Vo, rfl, GO, hb3⟩
      obtain ⟨Ao, co, rfl⟩ := GO.form
      have hbr3 := bw_trans hbr hb3
      have HO3 := Lib.hid (HO.out.below hb3)
      have HGO := Lib.hid GO
      clear GO HO hcond HIX
      obtain ⟨L, hL⟩ : ∃ L, (ixL b).length = L := ⟨_, rfl⟩
      rw [hL] at HGO hxl
      rw [hL]
      have HLL := Lib.hid hL
      clear hL
      go_wp2_with fail
      go_loopg [37] L (fun gi z wq => ∃ (k : Nat) (v : Value), k ≤ L ∧ gi = L - k ∧ z = .int .i64 k ∧ wq.cell? ⟨w3.heap.size + 1, 0, none⟩ = some v ∧ wq.frozen? ⟨w3.heap.size + 1, 0, none⟩ = false ∧ w3.heap.size + 1 < wq.heap.size ∧
        v.ownBlock ≠ some (w3.heap.size + 1) ∧ OwnI wq w3.heap.size v (((ixL b).take k).map fun i => ys.getD i.toNat 0) ∧ Below w3.heap.size w3 wq)
      case atStart => exact ⟨0, .slice (some ⟨w3.heap.size, 0, none⟩) 0 0, by omega, by omega, rfl, by go_simp, by go_simp, by simp, by simp [Value.ownBlock], by have h := (OwnI.lit w3 (Nat.le_refl w3.heap.size)).alloc (.cells #[.slice (some ⟨w3.heap.size, 0, none⟩) 0 0] 36); simpa using h, bw_alloc (bw_alloc (Below.refl _ _) _) _⟩
      case round =>
        obtain ⟨k, v, hk, rfl, rfl, hcv, hfv, hzv, hnv, hown, hbq⟩ := hrel
        have HP := Lib.hid hown
        have HFV := Lib.hid hfv
        have hbq' := bw_trans hbr3 hbq
        have hbw := bw_trans hb1 (bw_trans hbr3 (Below.refl _ _))
        clear hown hfv hbw
        by_cases hkm : k < L
        · have hgo := (HGO.out.sl).2
          rw [HLL.out] at hgo
          obtain ⟨bo, oo, rfl, hbo, hco⟩ := (hgo.below hbq).get (k := k) hkm
          obtain ⟨J, hJ, hJm⟩ : ∃ J : Nat, (ixL b).getD k 0 = (J : Int) ∧ J < m := by
            have h := sel_lt' (q := b.testBit) (k := m) (j := k) (by rw [← hix.out, HLL.out]; exact hkm)
            rw [← hix.out] at h
            exact ⟨((ixL b).getD k 0).toNat, by omega, by omega⟩
          rw [hJ] at hco
          obtain ⟨bs, os, rfl, hbs, hcs0⟩ := HY.get (k := J) hJm
          have hcs := cell_of (bw_trans hb1 hbq') hcs0
          have hJe : (ixL b)[k]? = some (J : Int) := by
            have h := hJ
            rw [List.getD_eq_getElem?_getD] at h
            rw [List.getElem?_eq_getElem (by rw [HLL.out]; exact hkm)] at h ⊢
            simpa using h
          have hN : ((ixL b).take (k + 1)).map (fun i => ys.getD i.toNat 0) = (((ixL b).take k).map fun i => ys.getD i.toNat 0) ++ [ys.getD J 0] := by
            rw [List.take_add_one, hJe]; simp
          have HN := Lib.hid hN
          have hzl : (((ixL b).take k).map fun i => ys.getD i.toNat 0).length ≤ 16 := by
            rw [List.length_map, List.length_take]; omega
          clear hgo hJe hN hJ hcs0 F0 F1 F2 F3 HCV HVA HSS HFA HCS H HY HO3
          generalize (((ixL b).take k).map fun i => ys.getD i.toNat 0) = zs at *
          generalize ys.getD J 0 = u at *
          have i1 : (J : Int) < (m : Int) := by omega
          have i2 : (k : Int) < (L : Int) := by omega
          have hq3 := hbq.size
          have hq1 := hbr3.size
          have hnvs := HP.out.far (b := bs) (by omega)
          have hf0 := HFV.out
          have hq0 := hb1.size
          have hbs' : bs < wr.heap.size := by omega
          go_upto_region 12 with fail
          go_region_law
            ((refine stepAppI (by rfl) _ _ (by rfl) w3.heap.size v zs (by rfl) (by first | exact (HP.out.alloc _).drew | exact HP.out.drew.alloc _ | exact HP.out.alloc _) wr.heap.size u (by rfl) (by go_simp) (by omega) (by simp; omega) (wr.heap.size + 1) (by simp) ?_; intro gg cap wg hown1 hgrow hat hlt; (have hc1' : wg.cell? ⟨w3.heap.size + 1, 0, none⟩ = some v := (hgrow.cell_far _ (by simp; omega) (Ne.symm hnv)).trans (by first | assumption | exact cell_of ((bw_alloc (Below.refl _ _) _).drew) (by assumption) | exact (((bw_alloc (Below.refl _ _) _).drew).frozen (by assumption)).trans (by assumption) | go_simp)); (have hf1' : wg.frozen? ⟨w3.heap.size + 1, 0, none⟩ = false := (hgrow.frozen_far _ (by simp; omega) (Ne.symm hnv)).trans (by first | assumption | exact cell_of ((bw_alloc (Below.refl _ _) _).drew) (by assumption) | exact (((bw_alloc (Below.refl _ _) _).drew).frozen (by assumption)).trans (by assumption) | go_simp)); (have hs1' : wg.cell? ⟨bs, os + J, none⟩ = some (.int .i64 u) := (hgrow.cell_far _ (by simp; omega) (Ne.symm hnvs)).trans (by first | assumption | exact cell_of ((bw_alloc (Below.refl _ _) _).drew) (by assumption) | exact (((bw_alloc (Below.refl _ _) _).drew).frozen (by assumption)).trans (by assumption) | go_simp)); (have hsz1 := hgrow.size); (have hbg : Below w3.heap.size w3 wg := bw_from (by first | exact (bw_alloc hbq _).drew | exact bw_alloc (hbq.drew) _ | exact bw_alloc hbq _) (bw_grown hgrow (by first | exact (HP.out.alloc _).drew | exact HP.out.drew.alloc _ | exact HP.out.alloc _) (by simp; omega)))))
          all_goals
            have hgg : gg ≠ w3.heap.size + 1 := by
              rcases hat with h | h
              · intro e; rw [e] at h; exact hnv h
              · omega
            go_wp2_with fail
            go_roundg (L - (k + 1))
            case rel => exact ⟨k + 1, .slice (some ⟨gg, 0, none⟩) (zs.length + 1) cap, by omega, rfl, by go_num, by go_simp, by go_simp, by simp at hsz1 ⊢; omega, by simp [Value.ownBlock]; exact hgg, by rw [HN.out]; exact OwnI.setOther hown1 (by simp [Value.ownBlock]; exact hgg) _, bw_set hbg (by simp) _⟩
            case measure => omega
        · have hkk : k = L := by omega
          subst hkk
          obtain ⟨Av, cv, rfl⟩ := HP.out.form
          have he : (((ixL b).take k).map fun i => ys.getD i.toNat 0) = lnL ys b m := by
            rw [show (ixL b).take k = ixL b from List.take_of_length_le (by rw [HLL.out]; exact Nat.le_refl _), hix.out]; rfl
          rw [he] at hcv HP
          have HSL := Lib.hid HP.out.sl.2
          have HX := Lib.hid (foAll_ln (b := b) HFA.out HYL.out)
          have hll : (lnL ys b m).length ≤ 1048576 := by unfold lnL; rw [List.length_map]; have := sel_len b.testBit m; omega
          have hcs0 := cell_of hbq' HCS.out
          have hbw := bw_trans hb1 hbq'
          have HCO := Lib.hid (fun W (hW : Below wr.heap.size wr W) => fwCon_any (fun y => !anB y.f0 y.f1 y.f2 s (lnL ys b m)) (.pointer (some ⟨w.heap.size, 0, none⟩)) (.pointer (some ⟨w3.heap.size + 1, 0, none⟩)) A n c xs W (H.below (bw_trans hbw hW)) hn rfl (fun k hk W2 hW2 => fwClos_any _ _ _ s w.heap.size (w3.heap.size + 1) Av (lnL ys b m).length cv (lnL ys b m) W2 (cell_of (bw_trans hW hW2) hcs0) (cell_of (bw_trans hW hW2) hcv) (HSL.out.below (bw_trans hW hW2)) hll (HVA.out k hk) HSS.out HX.out))
          have HCB := Lib.hid (HCV.out b)
          have HO4 := Lib.hid (HO3.out.below hbq)
          have HG4 := Lib.hid (HGO.out.below hbq)
          clear he HSL HX HCV HVA HSS HFA HCS H HY hll hcs0 HP HO3 HGO hcv
          cases hcb : cvB xs n s ys m b
          · have HE := Lib.hid (F0.out hcb)
            have ha : xs.any (fun y => !anB y.f0 y.f1 y.f2 s (lnL ys b m)) = true := by have h := HCB.out; rw [hcb] at h; simpa using h.symm
            rw [ha] at HCO
            clear ha hcb HCB F0 F1 F2 F3
            go_wp2_with fail
            refine (HCO.out _ (Below.refl _ _)).mono ?_
            rintro e w5 ⟨rfl, hb5⟩
            have HO5 := Lib.hid (HO4.out.below hb5)
            clear HCO
            go_wp2_with fail
            go_roundg (M - (b + 1))
            case rel => exact ⟨b + 1, by omega, rfl, by rw [HE.out]; exact HO5.out, by rw [HE.out] <;> rfl, by go_num, bw_trans hbq' hb5⟩
            case measure => omega
          have ha : xs.any (fun y => !anB y.f0 y.f1 y.f2 s (lnL ys b m)) = false := by have h := HCB.out; rw [hcb] at h; simpa using h.symm
          rw [ha] at HCO
          clear ha HCB F0
          cases S with
          | none =>
            have HE := Lib.hid (F1.out hcb rfl)
            clear hcb F1 F2 F3
            go_wp2_with fail
            refine (HCO.out _ (Below.refl _ _)).mono ?_
            rintro e w5 ⟨rfl, hb5⟩
            have HG5 := Lib.hid ((HG4.out.base hbr.size).below hb5)
            clear HCO
            go_wp2_with fail
            go_roundg (M - (b + 1))
            case rel => exact ⟨b + 1, by omega, rfl, by rw [HE.out]; exact HG5.out, by rw [HE.out] <;> rfl, by go_num, bw_trans hbq' hb5⟩
            case measure => omega
          | some l =>
            simp only [Option.getD_some] at HO4 hlen ⊢
            have FM := Lib.hid (fun h => F3.out l rfl h)
            have FL := Lib.hid (fun h => F2.out l hcb rfl h)
            clear hcb F1 F2 F3
            rcases Nat.lt_trichotomy k l.length with hkl | hkl | hkl
            · have HE := Lib.hid (FL.out (ls_short (by rw [HLL.out]; exact hkl)))
              have hc1 : (k : Int) < (l.length : Int) := by omega
              clear FL FM
              go_wp2_with fail
              refine (HCO.out _ (Below.refl _ _)).mono ?_
              rintro e w5 ⟨rfl, hb5⟩
              have HG5 := Lib.hid ((HG4.out.base hbr.size).below hb5)
              clear HCO
              go_wp2_with fail
              go_roundg (M - (b + 1))
              case rel => exact ⟨b + 1, by omega, rfl, by rw [HE.out]; exact HG5.out, by rw [HE.out] <;> rfl, by go_num, bw_trans hbq' hb5⟩
              case measure => omega
            · have HS := Lib.hid (ls_same (a := ixL b) (b := l) (by rw [HLL.out]; exact hkl))
              have hl1 := HG4.out.sl.2
              have hl2 := HO4.out.sl.2
              rw [HLL.out] at hl1
              subst hkl
              have HCM := Lib.hid (fun W (hW : Below wr.heap.size wr W) => compare_any Ao Ab l.length co cb (ixL b) l W (hl1.below hW) (hl2.below hW) (by omega))
              clear hl1 hl2
              cases hx : lxB (ixL b) l
              · have HE := Lib.hid (FM.out (HS.out.trans hx))
                rw [hx] at HCM
                clear FL FM HS hx
                go_wp2_with fail
                refine (HCO.out _ (Below.refl _ _)).mono ?_
                rintro e w5 ⟨rfl, hb5⟩
                have HO5 := Lib.hid (HO4.out.below hb5)
                clear HCO
                go_wp2_with fail
                refine (HCM.out _ hb5).mono ?_
                rintro e w6 ⟨cc, rfl, hcc, rfl⟩
                have hcc' : ¬ cc < 0 := of_decide_eq_false hcc
                clear hcc HCM
                go_wp2_with fail
                go_roundg (M - (b + 1))
                case rel => exact ⟨b + 1, by omega, rfl, by rw [HE.out]; exact HO5.out, by rw [HE.out] <;> rfl, by go_num, bw_trans hbq' hb5⟩
                case measure => omega
              · have HE := Lib.hid (FL.out (HS.out.trans hx))
                rw [hx] at HCM
                clear FL FM HS hx
                go_wp2_with fail
                refine (HCO.out _ (Below.refl _ _)).mono ?_
                rintro e w5 ⟨rfl, hb5⟩
                have HG5 := Lib.hid ((HG4.out.base hbr.size).below hb5)
                clear HCO
                go_wp2_with fail
                refine (HCM.out _ hb5).mono ?_
                rintro e w6 ⟨cc, rfl, hcc, rfl⟩
                have hcc' : cc < 0 := of_decide_eq_true hcc
                clear hcc HCM
                go_wp2_with fail
                go_roundg (M - (b + 1))
                case rel => exact ⟨b + 1, by omega, rfl, by rw [HE.out]; exact HG5.out, by rw [HE.out] <;> rfl, by go_num, bw_trans hbq' hb5⟩
                case measure => omega
            · have HE := Lib.hid (FM.out (ls_long (by rw [HLL.out]; exact hkl)))
              have hc1 : ¬ (k : Int) < (l.length : Int) := by omega
              have hc2 : ((k : Int) == (l.length : Int)) = false := by simp only [beq_eq_false_iff_ne, ne_eq]; omega
              clear FL FM
              go_wp2_with fail
              refine (HCO.out _ (Below.refl _ _)).mono ?_
              rintro e w5 ⟨rfl, hb5⟩
              have HO5 := Lib.hid (HO4.out.below hb5)
              clear HCO
              go_wp2_with fail
              go_roundg (M - (b + 1))
              case rel =>
                refine ⟨b + 1, by omega, rfl, ?_, ?_, ?_, ?_⟩
                · rw [HE.out]; exact HO5.out
                · rw [HE.out]; rfl
                · go_num
                · exact bw_trans hbq' hb5
              case measure => omega
    · have hkk : b = M := by omega
      have hcond : ¬ ((b : Int) < wrap64 ((2 : Int) ^ m)) := by rw [HW.out]; omega
      have HQ := Lib.hid (FE.out hkk)
      clear hkk F0 F1 F2 F3 FE H HY
      have hbb := bw_trans hb1 hbr
      cases S with
      | none =>
        have HR := Lib.hid (FN.out HQ.out)
        go_wp2
        go_ret2
        exact ⟨.slice none 0 0, by rw [HR.out.1] <;> rfl, by rw [HR.out.2]; exact OwnI.nil _ _, hbb⟩
      | some l =>
        have HR := Lib.hid (FV.out _ HQ.out)
        have HOW := Lib.hid (HO.out.base hs1)
        go_wp2
        go_ret2
        exact ⟨.slice Ab l.length cb, by rw [HR.out.1] <;> rfl, by rw [HR.out.2]; exact HOW.out, hbb⟩

set_option maxRecDepth 100000 in
set_option maxHeartbeats 3200000 in
theorem law_FewestLenses (a_aList : Option Addr) (l_aList c_aList : Nat) (xs_aList : List LhE) (s : Int) (a_aStock : Option Addr) (l_aStock c_aStock : Nat) (xs_aStock : List Int) (w : World) (hm_aList : l_aList ≤ 9223372036854775807) (H_aList : SlLh w a_aList l_aList xs_aList) (hm_aStock : l_aStock ≤ 9223372036854775807) (H_aStock : SlI w a_aStock l_aStock xs_aStock) :
    Calls Try.prog 15 #[.slice a_aList l_aList c_aList, .int .i64 s, .slice a_aStock l_aStock c_aStock] w fun e w' => e = .returned (.bool true) ∧ Below w.heap.size w w' := by
  by_cases hn_aStock : l_aStock ≤ 1048576
  case neg =>
    clear H_aList H_aStock
    go_enter Try.func15, Try.ntmps15
    go_wp2
    go_ret
    exact ⟨rfl, Below.refl _ _⟩
  by_cases hn_aList : l_aList ≤ 1048576
  case neg =>
    clear H_aList H_aStock
    go_enter Try.func15, Try.ntmps15
    go_wp2_with fail
    refine (LhszNo_any a_aList l_aList c_aList _ hm_aList hn_aList).mono ?_
    rintro e w0 ⟨rfl, hB0⟩
    go_wp2
    go_ret
    exact ⟨rfl, hB0⟩
  have hni_aList : ¬ (1048576 - (l_aList : Int)) < 0 := by omega
  have hS : ∀ (A_aList : Option Addr) (C_aList : Nat) (A_aStock : Option Addr) (C_aStock : Nat) (W : World), SlLh W A_aList l_aList xs_aList → SlI W A_aStock l_aStock xs_aStock → Calls Try.prog 50 #[.slice A_aList l_aList C_aList, .int .i64 s, .slice A_aStock l_aStock C_aStock] W (GivesIC (fwL xs_aList l_aList s xs_aStock l_aStock) (fwC xs_aList l_aList s xs_aStock l_aStock) W) := fun A_aList C_aList A_aStock C_aStock W K_aList K_aStock => sFewestLenses_any A_aList l_aList C_aList xs_aList s A_aStock l_aStock C_aStock xs_aStock W K_aList K_aStock hn_aList hn_aStock
  have hI : ∀ (A_aList : Option Addr) (C_aList : Nat) (A_aStock : Option Addr) (C_aStock : Nat) (W : World), SlLh W A_aList l_aList xs_aList → SlI W A_aStock l_aStock xs_aStock → Calls Try.prog 51 #[.slice A_aList l_aList C_aList, .int .i64 s, .slice A_aStock l_aStock C_aStock] W (GivesIC (fwL xs_aList l_aList s xs_aStock l_aStock) (fwC xs_aList l_aList s xs_aStock l_aStock) W) := fun A_aList C_aList A_aStock C_aStock W K_aList K_aStock => iFewestLenses_any A_aList l_aList C_aList xs_aList s A_aStock l_aStock C_aStock xs_aStock W K_aList K_aStock hn_aList hn_aStock
  have hy : (fwL xs_aList l_aList s xs_aStock l_aStock).length ≤ 1048576 := fw_len
  generalize fwL xs_aList l_aList s xs_aStock l_aStock = ys at *
  generalize fwC xs_aList l_aList s xs_aStock l_aStock = K0 at *
  have HS := Lib.hid hS
  have HI := Lib.hid hI
  clear hS hI
  go_enter Try.func15, Try.ntmps15
  go_wp2_with fail
  refine (Lhsz_any a_aList l_aList c_aList _ hn_aList).mono ?_
  rintro e w1 ⟨rfl, hb⟩
  have hB := hb
  clear hb
  go_wp2_with fail
  refine (LhtoSF_any a_aList l_aList c_aList xs_aList _ (H_aList.below hB) hn_aList).mono ?_
  rintro e w2 ⟨rfl, Xs_aList, Fs_aList, Zs_aList, hb⟩
  replace hB := bw_trans hB hb
  clear hb
  clear Fs_aList Zs_aList
  go_wp2_with fail
  refine (toInts_any a_aStock l_aStock c_aStock xs_aStock _ (H_aStock.below hB) hn_aStock).mono ?_
  rintro e w3 ⟨rfl, he⟩
  have hb : Below w2.heap.size w2 w3 := by rw [he]; exact bw_alloc (Below.refl _ _) _
  have Os_aStock : OwnI w3 w2.heap.size (.slice (some ⟨w2.heap.size, 0, none⟩) l_aStock l_aStock) xs_aStock := by rw [he]; exact OwnI.made H_aStock.length hn_aStock
  have Zs_aStock : w2.heap.size < w3.heap.size := by rw [he]; simp
  clear he
  replace Xs_aList := Xs_aList.below hb
  replace hB := bw_trans hB hb
  clear hb
  go_wp2_with fail
  refine (HS.out (some ⟨w1.heap.size, 0, none⟩) l_aList (some ⟨w2.heap.size, 0, none⟩) l_aStock _ Xs_aList (by have h := Os_aStock.sl; rw [← h.1] at h; exact h.2)).mono ?_
  rintro e w4 ⟨Vw, rfl, Gw, hb⟩
  replace Xs_aList := Xs_aList.below hb
  replace Os_aStock := Os_aStock.below hb
  replace Zs_aStock := Nat.lt_of_lt_of_le Zs_aStock hb.size
  replace hB := bw_trans hB hb
  obtain ⟨Aw, cw, rfl⟩ := Gw.form
  clear hb
  clear Xs_aList
  clear Os_aStock Zs_aStock
  have hW := Below.refl w4.heap.size w4
  have hBs : w.heap.size ≤ w4.heap.size := hB.size
  have GW := Gw.sl.2
  clear Gw
  go_wp2_with fail
  refine (LhtoSF_any a_aList l_aList c_aList xs_aList _ (H_aList.below hB) hn_aList).mono ?_
  rintro e w5 ⟨rfl, Xx_aList, Fx_aList, Zx_aList, hb⟩
  replace hB := bw_trans hB hb
  replace hW := bw_trans hW hb
  clear hb
  replace Fx_aList := Lib.hid Fx_aList
  have OLE_1 : w4.heap.size ≤ w5.heap.size := hW.size
  have OLT_0_1 : w4.heap.size < w5.heap.size := Zx_aList
  go_wp2_with fail
  refine (toInts_any a_aStock l_aStock c_aStock xs_aStock _ (H_aStock.below hB) hn_aStock).mono ?_
  rintro e w6 ⟨rfl, he⟩
  have hb : Below w5.heap.size w5 w6 := by rw [he]; exact bw_alloc (Below.refl _ _) _
  have Ox_aStock : OwnI w6 w5.heap.size (.slice (some ⟨w5.heap.size, 0, none⟩) l_aStock l_aStock) xs_aStock := by rw [he]; exact OwnI.made H_aStock.length hn_aStock
  have Zx_aStock : w5.heap.size < w6.heap.size := by rw [he]; simp
  clear he
  replace Fx_aList : Hid _ := fun j => (hb.frozen (p := ⟨w4.heap.size, j, none⟩) Zx_aList).trans (Fx_aList.out j)
  replace Xx_aList := Xx_aList.below hb
  replace Zx_aList := Nat.lt_of_lt_of_le Zx_aList hb.size
  replace hB := bw_trans hB hb
  replace hW := bw_trans hW hb
  clear hb
  have LE_aList := Lib.hid (show w4.heap.size ≤ w4.heap.size ∧ w4.heap.size < w6.heap.size ∧ w.heap.size ≤ w4.heap.size from ⟨Nat.le_refl _, Zx_aList, hBs⟩)
  have LT_aList_aStock := Lib.hid (show w4.heap.size < w5.heap.size from OLT_0_1)
  have LE_aStock := Lib.hid (show w4.heap.size ≤ w5.heap.size ∧ w5.heap.size < w6.heap.size ∧ w.heap.size ≤ w4.heap.size from ⟨OLE_1, Zx_aStock, hBs⟩)
  have BGhB := Lib.hid (show w.heap.size ≤ w6.heap.size from hB.size)
  have BGhW := Lib.hid (show w4.heap.size ≤ w6.heap.size from hW.size)
  go_wp2_with fail
  refine (HI.out (some ⟨w4.heap.size, 0, none⟩) l_aList (some ⟨w5.heap.size, 0, none⟩) l_aStock _ Xx_aList (by have h := Ox_aStock.sl; rw [← h.1] at h; exact h.2)).mono ?_
  rintro e w7 ⟨Vg, rfl, Gg, hb⟩
  replace Fx_aList : Hid _ := fun j => (hb.frozen (p := ⟨w4.heap.size, j, none⟩) Zx_aList).trans (Fx_aList.out j)
  replace Xx_aList := Xx_aList.below hb
  replace Ox_aStock := Ox_aStock.below hb
  replace Zx_aList := Nat.lt_of_lt_of_le Zx_aList hb.size
  replace Zx_aStock := Nat.lt_of_lt_of_le Zx_aStock hb.size
  replace hB := bw_trans hB hb
  replace hW := bw_trans hW hb
  obtain ⟨Ag, cg, rfl⟩ := Gg.form
  clear hb
  skip
  go_wp2_with fail
  refine (eqInts_any Ag Aw ys.length cg cw _ _ Gg.sl.2 (GW.below hW) hy).mono ?_
  rintro e w8 ⟨rfl, hb⟩
  replace Fx_aList : Hid _ := fun j => (hb.frozen (p := ⟨w4.heap.size, j, none⟩) Zx_aList).trans (Fx_aList.out j)
  replace Xx_aList := Xx_aList.below hb
  replace Ox_aStock := Ox_aStock.below hb
  replace Gg := Gg.below hb
  replace Zx_aList := Nat.lt_of_lt_of_le Zx_aList hb.size
  replace Zx_aStock := Nat.lt_of_lt_of_le Zx_aStock hb.size
  replace hB := bw_trans hB hb
  replace hW := bw_trans hW hb
  clear hb
  go_wp2_with fail
  refine (LhtoSF_any a_aList l_aList c_aList xs_aList _ (H_aList.below hB) hn_aList).mono ?_
  rintro e w9 ⟨rfl, Xq_aList, Fq_aList, Zq_aList, hb⟩
  replace Fx_aList : Hid _ := fun j => (hb.frozen (p := ⟨w4.heap.size, j, none⟩) Zx_aList).trans (Fx_aList.out j)
  replace Xx_aList := Xx_aList.below hb
  replace Ox_aStock := Ox_aStock.below hb
  replace Gg := Gg.below hb
  replace Zx_aList := Nat.lt_of_lt_of_le Zx_aList hb.size
  replace Zx_aStock := Nat.lt_of_lt_of_le Zx_aStock hb.size
  replace hB := bw_trans hB hb
  replace hW := bw_trans hW hb
  clear hb
  clear Fq_aList Zq_aList
  go_wp2_with fail
  refine (LheqS_any _ _ _ _ _ xs_aList _ Xx_aList Xq_aList hn_aList).mono ?_
  rintro e w10 ⟨rfl, hb⟩
  replace Fx_aList : Hid _ := fun j => (hb.frozen (p := ⟨w4.heap.size, j, none⟩) Zx_aList).trans (Fx_aList.out j)
  replace Xx_aList := Xx_aList.below hb
  replace Ox_aStock := Ox_aStock.below hb
  replace Gg := Gg.below hb
  replace Xq_aList := Xq_aList.below hb
  replace Zx_aList := Nat.lt_of_lt_of_le Zx_aList hb.size
  replace Zx_aStock := Nat.lt_of_lt_of_le Zx_aStock hb.size
  replace hB := bw_trans hB hb
  replace hW := bw_trans hW hb
  clear hb
  clear Xq_aList
  go_wp2_with fail
  refine (toInts_any a_aStock l_aStock c_aStock xs_aStock _ (H_aStock.below hB) hn_aStock).mono ?_
  rintro e w11 ⟨rfl, he⟩
  have hb : Below w10.heap.size w10 w11 := by rw [he]; exact bw_alloc (Below.refl _ _) _
  have Oq_aStock : OwnI w11 w10.heap.size (.slice (some ⟨w10.heap.size, 0, none⟩) l_aStock l_aStock) xs_aStock := by rw [he]; exact OwnI.made H_aStock.length hn_aStock
  have Zq_aStock : w10.heap.size < w11.heap.size := by rw [he]; simp
  clear he
  replace Fx_aList : Hid _ := fun j => (hb.frozen (p := ⟨w4.heap.size, j, none⟩) Zx_aList).trans (Fx_aList.out j)
  replace Xx_aList := Xx_aList.below hb
  replace Ox_aStock := Ox_aStock.below hb
  replace Gg := Gg.below hb
  replace Zx_aList := Nat.lt_of_lt_of_le Zx_aList hb.size
  replace Zx_aStock := Nat.lt_of_lt_of_le Zx_aStock hb.size
  replace hB := bw_trans hB hb
  replace hW := bw_trans hW hb
  clear hb
  go_wp2_with fail
  refine (eqInts_any _ _ l_aStock _ _ xs_aStock _ (by have h := Ox_aStock.sl; rw [← h.1] at h; exact h.2) (by have h := Oq_aStock.sl; rw [← h.1] at h; exact h.2) hn_aStock).mono ?_
  rintro e w12 ⟨rfl, hb⟩
  replace Fx_aList : Hid _ := fun j => (hb.frozen (p := ⟨w4.heap.size, j, none⟩) Zx_aList).trans (Fx_aList.out j)
  replace Xx_aList := Xx_aList.below hb
  replace Ox_aStock := Ox_aStock.below hb
  replace Gg := Gg.below hb
  replace Oq_aStock := Oq_aStock.below hb
  replace Zx_aList := Nat.lt_of_lt_of_le Zx_aList hb.size
  replace Zx_aStock := Nat.lt_of_lt_of_le Zx_aStock hb.size
  replace Zq_aStock := Nat.lt_of_lt_of_le Zq_aStock hb.size
  replace hB := bw_trans hB hb
  replace hW := bw_trans hW hb
  clear hb
  clear Oq_aStock Zq_aStock
  go_wp2_with fail
  refine (Lhmark_any l_aList _ w4.heap.size xs_aList (1) _ Xx_aList Fx_aList.out Zx_aList hn_aList ⟨by omega, by omega⟩).mono ?_
  rintro e w13 ⟨rfl, hg⟩
  have hle : w4.heap.size ≤ w4.heap.size := LE_aList.out.1
  have hlg : w4.heap.size < w6.heap.size := LE_aList.out.2.1
  have hww : w.heap.size ≤ w4.heap.size := LE_aList.out.2.2
  replace hB := bw_from hB (below_grown hg (fun j hj => by injection hj with hj; omega) hB.size)
  replace hW := bw_from hW (below_grown hg (fun j hj => by injection hj with hj; omega) hW.size)
  replace Zx_aStock := Nat.lt_of_lt_of_le Zx_aStock hg.size
  replace Ox_aStock := Ox_aStock.keptRow hg LT_aList_aStock.out
  replace Gg := Gg.keptRow hg hlg
  clear hg hle hlg hww Xx_aList Fx_aList Zx_aList
  go_wp2_with fail
  refine (markI_any _ l_aStock _ w5.heap.size (1 + 3 * (l_aList : Int)) xs_aStock _ Ox_aStock hn_aStock ⟨by omega, by omega⟩).mono ?_
  rintro e w14 ⟨rfl, _, hg, _⟩
  replace hg : w13.grownBy w14 (some w5.heap.size) := hg
  have hle : w4.heap.size ≤ w5.heap.size := LE_aStock.out.1
  have hlg : w5.heap.size < w6.heap.size := LE_aStock.out.2.1
  have hww : w.heap.size ≤ w4.heap.size := LE_aStock.out.2.2
  replace hB := bw_from hB (below_grown hg (fun j hj => by injection hj with hj; omega) hB.size)
  replace hW := bw_from hW (below_grown hg (fun j hj => by injection hj with hj; omega) hW.size)
  replace Gg := Gg.keptRow hg hlg
  clear hg hle hlg hww Ox_aStock Zx_aStock
  have hkn : ¬ (1 + 3 * (l_aList : Int) + (l_aStock : Int) < 0) := by omega
  go_wp2_with fail
  refine (eqInts_any Ag Aw ys.length cg cw _ _ Gg.sl.2 (GW.below hW) hy).mono ?_
  rintro e w15 ⟨rfl, hb⟩
  replace Gg := Gg.below hb
  replace hB := bw_trans hB hb
  replace hW := bw_trans hW hb
  clear hb
  clear hkn
  go_wp2_with fail
  refine (markI_any Ag ys.length cg w6.heap.size 1 ys _ Gg hy ⟨by omega, by omega⟩).mono ?_
  rintro e w16 ⟨rfl, GM, _, hb⟩
  replace hB := bw_from hB (hb.mono BGhB.out)
  replace hW := bw_from hW (hb.mono BGhW.out)
  clear hb Gg
  have hml := mks_len 1 ys.length
  have HM := Lib.hid hml
  clear hml
  have hqn : ¬ (1 + (ys.length : Int) < 0) := by omega
  go_wp2_with fail
  refine (heldI_any Ag ys.length cg 1 _ (by have h := GM.sl.2; rw [HM.out] at h; exact h) hy ⟨by omega, by omega⟩).mono ?_
  rintro e w17 ⟨rfl, hb⟩
  replace GM := GM.below hb
  replace hB := bw_trans hB hb
  replace hW := bw_trans hW hb
  clear hb
  go_wp2_with fail
  refine (LhtoSF_any a_aList l_aList c_aList xs_aList _ (H_aList.below hB) hn_aList).mono ?_
  rintro e w18 ⟨rfl, Xh_aList, Fh_aList, Zh_aList, hb⟩
  replace GM := GM.below hb
  replace hB := bw_trans hB hb
  replace hW := bw_trans hW hb
  clear hb
  clear Fh_aList Zh_aList
  go_wp2_with fail
  refine (toInts_any a_aStock l_aStock c_aStock xs_aStock _ (H_aStock.below hB) hn_aStock).mono ?_
  rintro e w19 ⟨rfl, he⟩
  have hb : Below w18.heap.size w18 w19 := by rw [he]; exact bw_alloc (Below.refl _ _) _
  have Oh_aStock : OwnI w19 w18.heap.size (.slice (some ⟨w18.heap.size, 0, none⟩) l_aStock l_aStock) xs_aStock := by rw [he]; exact OwnI.made H_aStock.length hn_aStock
  have Zh_aStock : w18.heap.size < w19.heap.size := by rw [he]; simp
  clear he
  replace GM := GM.below hb
  replace Xh_aList := Xh_aList.below hb
  replace hB := bw_trans hB hb
  replace hW := bw_trans hW hb
  clear hb
  go_wp2_with fail
  refine (HI.out (some ⟨w17.heap.size, 0, none⟩) l_aList (some ⟨w18.heap.size, 0, none⟩) l_aStock _ Xh_aList (by have h := Oh_aStock.sl; rw [← h.1] at h; exact h.2)).mono ?_
  rintro e w20 ⟨Vh, rfl, Gh, hb⟩
  replace GM := GM.below hb
  replace Xh_aList := Xh_aList.below hb
  replace Oh_aStock := Oh_aStock.below hb
  replace Zh_aStock := Nat.lt_of_lt_of_le Zh_aStock hb.size
  replace hB := bw_trans hB hb
  replace hW := bw_trans hW hb
  obtain ⟨Ah, ch, rfl⟩ := Gh.form
  clear hb
  clear Xh_aList
  clear Oh_aStock Zh_aStock
  go_wp2_with fail
  refine (eqInts_any Ah Aw ys.length ch cw _ _ Gh.sl.2 (GW.below hW) hy).mono ?_
  rintro e w21 ⟨rfl, hb⟩
  replace GM := GM.below hb
  replace Gh := Gh.below hb
  replace hB := bw_trans hB hb
  replace hW := bw_trans hW hb
  clear hb
  clear Gh
  go_wp2_with fail
  refine (heldI_any Ag ys.length cg 1 _ (by have h := GM.sl.2; rw [HM.out] at h; exact h) hy ⟨by omega, by omega⟩).mono ?_
  rintro e w22 ⟨rfl, hb⟩
  replace GM := GM.below hb
  replace hB := bw_trans hB hb
  replace hW := bw_trans hW hb
  clear hb
  clear GW GM HM
  go_wp2
  go_ret
  exact ⟨rfl, hB⟩

end Go.Proofs.Ythhilkahfgpncaa
