/-
  The best lamps: plain law; in the references.
-/
import Derived.Test.YthhilkahfgpncaaHla
namespace Go.Proofs.Ythhilkahfgpncaa
open Go.RowKit

/-- The set b is better than the set l. -/
noncomputable def btB (ps : List Int) (m b l : Nat) : Bool := decide (smS ps b.testBit m < smS ps l.testBit m) || (decide (smS ps b.testBit m = smS ps l.testBit m) && lsL (ixL b) (ixL l))
/-- The best set among those below b. -/
noncomputable def chS (ys ps : List Int) (need : Int) (m : Nat) : Nat → Option Nat
  | 0 => none
  | b + 1 => if decide (need ≤ smS ys b.testBit m) && (match chS ys ps need m b with | none => true | some l => btB ps m b l) then some b else chS ys ps need m b
variable {ys ps : List Int} {need : Int} {m b l : Nat}
theorem ch_dark (h : smS ys b.testBit m < need) : chS ys ps need m (b + 1) = chS ys ps need m b := by
  conv => lhs; unfold chS
  rw [decide_eq_false (by omega)]; rfl
theorem ch_first (h : need ≤ smS ys b.testBit m) (h2 : chS ys ps need m b = none) : chS ys ps need m (b + 1) = some b := by
  conv => lhs; unfold chS
  rw [decide_eq_true h, h2]; rfl
theorem ch_better (h : need ≤ smS ys b.testBit m) (h2 : chS ys ps need m b = some l) (h3 : btB ps m b l = true) : chS ys ps need m (b + 1) = some b := by
  conv => lhs; unfold chS
  rw [decide_eq_true h, h2]; simp [h3]
theorem ch_worse (h2 : chS ys ps need m b = some l) (h3 : btB ps m b l = false) : chS ys ps need m (b + 1) = some l := by
  conv => lhs; unfold chS
  rw [h2]; simp [h3]
theorem ch_lt (h : chS ys ps need m b = some l) : l < b := by
  induction b with
  | zero => cases h
  | succ b ih =>
    by_cases hd : need ≤ smS ys b.testBit m
    · cases hS : chS ys ps need m b with
      | none => rw [ch_first hd hS] at h; injection h with h; omega
      | some q =>
        cases hq : btB ps m b q
        · rw [ch_worse hS hq] at h; injection h with h; subst h; have := ih hS; omega
        · rw [ch_better hd hS hq] at h; injection h with h; omega
    · rw [ch_dark (by omega)] at h; have := ih h; omega
theorem bt_less (h : smS ps b.testBit m < smS ps l.testBit m) : btB ps m b l = true := by unfold btB; rw [decide_eq_true h]; rfl
theorem bt_more (h : smS ps l.testBit m < smS ps b.testBit m) : btB ps m b l = false := by unfold btB; rw [decide_eq_false (by omega), decide_eq_false (by omega)]; rfl
theorem bt_same (h : smS ps b.testBit m = smS ps l.testBit m) : btB ps m b l = lsL (ixL b) (ixL l) := by unfold btB; rw [decide_eq_false (by omega), decide_eq_true h]; simp

/-- The list, the price, the code. -/
noncomputable def clL (ys ps : List Int) (need : Int) (m : Nat) : List Int := ((chS ys ps need m (2 ^ m)).map ixL).getD []
noncomputable def clP (ys ps : List Int) (need : Int) (m : Nat) : Int := ((chS ys ps need m (2 ^ m)).map fun l => smS ps l.testBit m).getD 0
noncomputable def clC (ys ps : List Int) (need : Int) (m : Nat) : Int := if (chS ys ps need m (2 ^ m)).isSome then 0 else 3
theorem cl_none (h : chS ys ps need m (2 ^ m) = none) : clL ys ps need m = [] ∧ clP ys ps need m = 0 ∧ clC ys ps need m = 3 := by unfold clL clP clC; rw [h]; exact ⟨rfl, rfl, rfl⟩
theorem cl_some (h : chS ys ps need m (2 ^ m) = some l) : clL ys ps need m = ixL l ∧ clP ys ps need m = smS ps l.testBit m ∧ clC ys ps need m = 0 := by unfold clL clP clC; rw [h]; exact ⟨rfl, rfl, rfl⟩
theorem cl_len : (clL ys ps need m).length ≤ 16 := by
  cases h : chS ys ps need m (2 ^ m) with
  | none => rw [(cl_none h).1]; simp
  | some l => rw [(cl_some h).1]; exact ix_len l

/-- The number of the best set; -1 if there is none. -/
def chI (S : Option Nat) : Int := match S with | none => -1 | some l => (l : Int)
theorem chI_none : chI none = -1 := rfl
theorem chI_some (l : Nat) : chI (some l) = (l : Int) := rfl
/-- FewestLamps. -/
noncomputable def fmL (ys : List Int) (need : Int) (m : Nat) : List Int := if laC need ys m = 0 then clL ys (List.replicate m 0) need m else []
noncomputable def fmC (ys : List Int) (need : Int) (m : Nat) : Int := if laC need ys m = 0 then clC ys (List.replicate m 0) need m else 2
theorem fm_no (h : laC need ys m = 2) : fmL ys need m = [] ∧ fmC ys need m = 2 := by unfold fmL fmC; rw [h]; exact ⟨rfl, rfl⟩
theorem fm_yes (h : laC need ys m = 0) : fmL ys need m = clL ys (List.replicate m 0) need m ∧ fmC ys need m = clC ys (List.replicate m 0) need m := ⟨if_pos h, if_pos h⟩
theorem fm_len : (fmL ys need m).length ≤ 1048576 := by
  have := cl_len (ys := ys) (ps := List.replicate m 0) (need := need) (m := m)
  unfold fmL; split
  · omega
  · simp
theorem rep_at (m k : Nat) : (List.replicate m (0 : Int)).getD k 0 = 0 := by
  rw [List.getD_eq_getElem?_getD]
  by_cases h : k < m
  · simp [h]
  · simp [h]
theorem rep_small (m : Nat) : smallI (List.replicate m 0) m := fun k _ => by rw [rep_at]; omega
theorem rep_sum (m b : Nat) : smS (List.replicate m 0) b.testBit m = 0 := sm_zero (n := m) (fun k _ => rep_at m k) _ (Nat.le_refl _)
theorem bt_rep : btB (List.replicate m 0) m b l = lsL (ixL b) (ixL l) := bt_same (by rw [rep_sum, rep_sum])
/-- CheapestLamps. -/
noncomputable def cmB (ys ps : List Int) (need : Int) (m k : Nat) : Bool := decide (laC need ys m = 0) && (decide (k = m) && !ps.any notPr)
noncomputable def cmL (ys ps : List Int) (need : Int) (m k : Nat) : List Int := if cmB ys ps need m k then clL ys ps need m else []
noncomputable def cmP (ys ps : List Int) (need : Int) (m k : Nat) : Int := if cmB ys ps need m k then clP ys ps need m else 0
noncomputable def cmC (ys ps : List Int) (need : Int) (m k : Nat) : Int := if cmB ys ps need m k then clC ys ps need m else 2
theorem cm_no {k : Nat} (h : cmB ys ps need m k = false) : cmL ys ps need m k = [] ∧ cmP ys ps need m k = 0 ∧ cmC ys ps need m k = 2 := by unfold cmL cmP cmC; rw [h]; exact ⟨rfl, rfl, rfl⟩
theorem cm_yes {k : Nat} (h : cmB ys ps need m k = true) : cmL ys ps need m k = clL ys ps need m ∧ cmP ys ps need m k = clP ys ps need m ∧ cmC ys ps need m k = clC ys ps need m := by unfold cmL cmP cmC; rw [h]; exact ⟨rfl, rfl, rfl⟩
theorem cm_len {k : Nat} : (cmL ys ps need m k).length ≤ 1048576 := by
  have := cl_len (ys := ys) (ps := ps) (need := need) (m := m)
  unfold cmL; split
  · omega
  · simp
theorem cmB_code {k : Nat} (h : laC need ys m = 2) : cmB ys ps need m k = false := by unfold cmB; rw [h]; rfl
theorem cmB_ok {k : Nat} (h : laC need ys m = 0) : cmB ys ps need m k = (decide (k = m) && !ps.any notPr) := by unfold cmB; rw [h]; simp
/-- Returns a row of the call's own that reads as ys, a number and a code. -/
def GivesICC (ys : List Int) (P C : Int) (w : World) (e : Ending) (w' : World) : Prop := ∃ v, e = .returned (.tuple #[v, .int .i64 P, .int .i64 C]) ∧ OwnI w' w.heap.size v ys ∧ Below w.heap.size w w'
/-- Returns a row of the call's own that reads as ys, a number and whether there is one. -/
def GivesICB (ys : List Int) (P : Int) (C : Bool) (w : World) (e : Ending) (w' : World) : Prop := ∃ v, e = .returned (.tuple #[v, .int .i64 P, .bool C]) ∧ OwnI w' w.heap.size v ys ∧ Below w.heap.size w w'

set_option maxRecDepth 100000 in
set_option maxHeartbeats 6400000 in
theorem sFewestLamps_any (A : Option Addr) (m c : Nat) (ys : List Int) (need : Int) (w : World) (H : SlI w A m ys) (hm : m ≤ 1048576) :
    Calls Try.prog 42 #[.slice A m c, .int .i64 need] w (GivesIC (fmL ys need m) (fmC ys need m) w) := by
  have HK := Lib.hid (l12Need_any A m c ys need w H hm)
  rcases la_code need ys m with ⟨hc, _⟩ | ⟨hc, hneed, m8, hall⟩
  · obtain ⟨r1, r2⟩ := fm_no hc
    rw [r1, r2]
    rw [hc] at HK
    clear H r1 r2 hc
    go_enter Try.func42, Try.ntmps42
    go_wp2_with (go_at_call 77; refine (HK.out).mono ?_; rintro e w1 ⟨rfl, rfl⟩)
    go_ret2
    exact ⟨_, rfl, OwnI.nil _ _, Below.refl _ _⟩
  obtain ⟨r1, r2⟩ := fm_yes hc
  rw [r1, r2]
  rw [hc] at HK
  have hsm : smallI ys m := fun k hk => by (have h := lu_at hall (k := k) (by rw [H.length]; exact hk); omega)
  have HSM := Lib.hid hsm
  have hp := pow_bd (m := m) (by omega)
  have FN := Lib.hid (@cl_none ys (List.replicate m 0) need m)
  have FV := Lib.hid (fun l => @cl_some ys (List.replicate m 0) need m l)
  have hw2 := wrap_two (m := m) (by omega)
  obtain ⟨M, hM⟩ : ∃ M : Nat, 2 ^ m = M := ⟨_, rfl⟩
  rw [hM] at FN FV hw2 hp
  have HW := Lib.hid hw2
  have HM := Lib.hid hM
  have HSU := Lib.hid (fun b (hb : b < 65536) W hW => l12Sum_any A m c ys b W (H.below hW) m8 hb hsm)
  clear hM hc hneed hall hsm hw2 r1 r2 H
  obtain ⟨ps, hps⟩ : ∃ ps, List.replicate m (0 : Int) = ps := ⟨_, rfl⟩
  have HBT := Lib.hid (fun b l => @bt_rep m b l)
  rw [hps] at FN FV HBT
  rw [hps]
  clear hps
  go_enter Try.func42, Try.ntmps42
  go_wp2_with (go_at_call 77; refine (HK.out).mono ?_; rintro e w1 ⟨rfl, rfl⟩)
  clear HK
  go_loopg [7, 8, 9] M (fun gh v f x wr => ∃ b : Nat, b ≤ M ∧ gh = M - b ∧ OwnI wr w.heap.size v (((chS ys ps need m b).map ixL).getD []) ∧ f = .bool (chS ys ps need m b).isSome ∧ x = .int .i64 b ∧ Below w.heap.size w wr)
  case atStart => exact ⟨0, by omega, by omega, OwnI.lit w (Nat.le_refl _), rfl, rfl, bw_alloc (Below.refl _ _) _⟩
  case round =>
    obtain ⟨b, hbm, rfl, hown, rfl, rfl, hbr⟩ := hrel
    have HO := Lib.hid hown
    clear hown
    have F0 := Lib.hid (@ch_dark ys ps need m b)
    have F1 := Lib.hid (@ch_first ys ps need m b)
    have F2 := Lib.hid (fun l => @ch_better ys ps need m b l)
    have F3 := Lib.hid (fun l => @ch_worse ys ps need m b l)
    have FE := Lib.hid (show b = M → chS ys ps need m M = chS ys ps need m b from fun h => by rw [h])
    generalize chS ys ps need m b = S at *
    obtain ⟨Ab, cb, rfl⟩ := HO.out.form
    by_cases hlt : b < M
    · have hcond : (b : Int) < wrap64 ((2 : Int) ^ m) := by rw [HW.out]; omega
      have HBS := Lib.hid (show b < 65536 by omega)
      have hix := Lib.hid (ix_at (b := b) (k := m) (by rw [HM.out]; exact hlt) (by omega))
      have hxl := ix_len b
      clear FE
      have HSO := Lib.hid (l12Some_any m b wr (by omega) HBS.out)
      rw [← hix.out] at HSO
      go_wp2_with fail
      refine HSO.out.mono ?_
      rintro e w3 ⟨Vs, rfl, GS, hb3⟩
      obtain ⟨As, cs, rfl⟩ := GS.form
      have hbr3 := bw_trans hbr hb3
      have HP := Lib.hid GS
      have HO3 := Lib.hid (HO.out.below hb3)
      have HSB := Lib.hid (HSU.out b HBS.out w3 hbr3)
      clear GS HO hcond HSO
      have hsb := Lib.hid (sm_bd HSM.out b.testBit (Nat.le_refl m))
      by_cases hd : need ≤ smS ys b.testBit m
      case neg =>
        have HE := Lib.hid (F0.out (by omega))
        clear F0 F1 F2 F3
        have hd' : ¬ (need ≤ smS ys b.testBit m) := hd
        generalize smS ys b.testBit m = X at *
        go_wp2_with (go_at_call 79; refine (HSB.out).mono ?_; rintro e w1 ⟨rfl, rfl⟩)
        go_roundg (M - (b + 1))
        case rel => exact ⟨b + 1, by omega, rfl, by rw [HE.out]; exact HO3.out, by rw [HE.out] <;> rfl, by go_num, hbr3⟩
        case measure => omega
      cases S with
      | none =>
        have HE := Lib.hid (F1.out hd rfl)
        clear F0 F1 F2 F3
        generalize smS ys b.testBit m = X at *
        go_wp2_with (go_at_call 79; refine (HSB.out).mono ?_; rintro e w1 ⟨rfl, rfl⟩)
        go_roundg (M - (b + 1))
        case rel => exact ⟨b + 1, by omega, rfl, by rw [HE.out]; exact HP.out.base hbr.size, by rw [HE.out] <;> rfl, by go_num, hbr3⟩
        case measure => omega
      | some l =>
        have hll := ix_len l
        have HLS := Lib.hid (fun r hr => l11Less_is As Ab (ixL b).length (ixL l).length cs cb (ixL b) (ixL l) w3 HP.out.sl.2 HO3.out.sl.2 (by omega) (by omega) (r := r) hr)
        cases hls : lsL (ixL b) (ixL l)
        · have HE := Lib.hid (F3.out l rfl ((HBT.out b l).trans hls))
          have HQ := Lib.hid (HLS.out _ hls)
          clear F0 F1 F2 F3 hls HLS
          generalize smS ys b.testBit m = X at *
          go_wp2_with (go_at_call 79; refine (HSB.out).mono ?_; rintro e w1 ⟨rfl, rfl⟩)
          refine HQ.out.mono ?_
          rintro e w5 ⟨rfl, hb5⟩
          have HO5 := Lib.hid (HO3.out.below hb5)
          go_wp2_with fail
          go_roundg (M - (b + 1))
          case rel => exact ⟨b + 1, by omega, rfl, by rw [HE.out]; exact HO5.out, by rw [HE.out] <;> rfl, by go_num, bw_trans hbr3 hb5⟩
          case measure => omega
        · have HE := Lib.hid (F2.out l hd rfl ((HBT.out b l).trans hls))
          have HQ := Lib.hid (HLS.out _ hls)
          clear F0 F1 F2 F3 hls HLS
          generalize smS ys b.testBit m = X at *
          go_wp2_with (go_at_call 79; refine (HSB.out).mono ?_; rintro e w1 ⟨rfl, rfl⟩)
          refine HQ.out.mono ?_
          rintro e w5 ⟨rfl, hb5⟩
          have HP5 := Lib.hid ((HP.out.base hbr.size).below hb5)
          go_wp2_with fail
          go_roundg (M - (b + 1))
          case rel => exact ⟨b + 1, by omega, rfl, by rw [HE.out]; exact HP5.out, by rw [HE.out] <;> rfl, by go_num, bw_trans hbr3 hb5⟩
          case measure => omega
    · have hkk : b = M := by omega
      have hcond : ¬ ((b : Int) < wrap64 ((2 : Int) ^ m)) := by rw [HW.out]; omega
      have HQ := Lib.hid (FE.out hkk)
      clear hkk F0 F1 F2 F3 FE
      cases S with
      | none =>
        have HR := Lib.hid (FN.out HQ.out)
        go_wp2
        go_ret2
        exact ⟨.slice none 0 0, by rw [HR.out.2.2] <;> rfl, by rw [HR.out.1]; exact OwnI.nil _ _, hbr⟩
      | some l =>
        have HR := Lib.hid (FV.out _ HQ.out)
        go_wp2
        go_ret2
        exact ⟨.slice Ab (ixL l).length cb, by rw [HR.out.2.2] <;> rfl, by rw [HR.out.1]; exact HO.out, hbr⟩
end Go.Proofs.Ythhilkahfgpncaa
