/-
  FewestLenses: plain law; in the reference.
-/
import Derived.Test.YthhilkahfgpncaaHr
import Derived.Test.YthhilkahfgpncaaHw
namespace Go.Proofs.Ythhilkahfgpncaa
open Go.RowKit

theorem sel_none {q : Nat → Bool} {n : Nat} : (selL q n).length = 0 ↔ ∀ i, i < n → q i = false := by
  induction n with
  | zero => simp [selL]
  | succ n ih =>
    cases h : q n
    · rw [sel_no h, ih]
      constructor
      · intro hh i hi
        rcases Nat.lt_or_ge i n with h1 | h1
        · exact hh i h1
        · have : i = n := by omega
          subst this; exact h
      · intro hh i hi; exact hh i (by omega)
    · rw [sel_yes h]
      constructor
      · intro hh; simp at hh
      · intro hh; rw [hh n (by omega)] at h; cases h
/-- One of the lenses with bits suits each hall. -/
def cvB (xs : List LhE) (n : Nat) (s : Int) (ys : List Int) (m b : Nat) : Bool := decide ((selL (noF xs s ys b m) n).length = 0)
/-- The best list among the sets below b. -/
noncomputable def flS (xs : List LhE) (n : Nat) (s : Int) (ys : List Int) (m : Nat) : Nat → Option (List Int)
  | 0 => none
  | b + 1 => if cvB xs n s ys m b && (match flS xs n s ys m b with | none => true | some l => lsL (ixL b) l) then some (ixL b) else flS xs n s ys m b
theorem fl_uncov {xs : List LhE} {n : Nat} {s : Int} {ys : List Int} {m b : Nat} (h : cvB xs n s ys m b = false) : flS xs n s ys m (b + 1) = flS xs n s ys m b := by
  conv => lhs; unfold flS
  rw [h]; rfl
theorem fl_first {xs : List LhE} {n : Nat} {s : Int} {ys : List Int} {m b : Nat} (h : cvB xs n s ys m b = true) (h2 : flS xs n s ys m b = none) : flS xs n s ys m (b + 1) = some (ixL b) := by
  conv => lhs; unfold flS
  rw [h, h2]; rfl
theorem fl_less {xs : List LhE} {n : Nat} {s : Int} {ys : List Int} {m b : Nat} {l : List Int} (h : cvB xs n s ys m b = true) (h2 : flS xs n s ys m b = some l) (h3 : lsL (ixL b) l = true) : flS xs n s ys m (b + 1) = some (ixL b) := by
  conv => lhs; unfold flS
  rw [h, h2]; simp [h3]
theorem fl_more {xs : List LhE} {n : Nat} {s : Int} {ys : List Int} {m b : Nat} {l : List Int} (h2 : flS xs n s ys m b = some l) (h3 : lsL (ixL b) l = false) : flS xs n s ys m (b + 1) = some l := by
  conv => lhs; unfold flS
  rw [h2]; simp [h3]
theorem ix_len (b : Nat) : (ixL b).length ≤ 16 := sel_len _ _
theorem fl_len {xs : List LhE} {n : Nat} {s : Int} {ys : List Int} {m b : Nat} : ((flS xs n s ys m b).getD []).length ≤ 16 := by
  induction b with
  | zero => simp [flS]
  | succ b ih =>
    cases hcv : cvB xs n s ys m b
    · rw [fl_uncov hcv]; exact ih
    cases hS : flS xs n s ys m b with
    | none => rw [fl_first hcv hS]; exact ix_len b
    | some l =>
      cases hl : lsL (ixL b) l
      · rw [fl_more hS hl]; rw [hS] at ih; exact ih
      · rw [fl_less hcv hS hl]; exact ix_len b
noncomputable def fwC (xs : List LhE) (n : Nat) (s : Int) (ys : List Int) (m : Nat) : Int := if hlC xs n s ys m = 0 then (if (flS xs n s ys m (2 ^ m)).isSome then 0 else 3) else hlC xs n s ys m
noncomputable def fwL (xs : List LhE) (n : Nat) (s : Int) (ys : List Int) (m : Nat) : List Int := if hlC xs n s ys m = 0 then (flS xs n s ys m (2 ^ m)).getD [] else []
theorem fw_no {xs : List LhE} {n : Nat} {s : Int} {ys : List Int} {m : Nat} (h : ¬ hlC xs n s ys m = 0) : fwC xs n s ys m = hlC xs n s ys m ∧ fwL xs n s ys m = [] := ⟨if_neg h, if_neg h⟩
theorem fw_none {xs : List LhE} {n : Nat} {s : Int} {ys : List Int} {m : Nat} (h : hlC xs n s ys m = 0) (h2 : flS xs n s ys m (2 ^ m) = none) : fwC xs n s ys m = 3 ∧ fwL xs n s ys m = [] := by
  unfold fwC fwL; rw [if_pos h, if_pos h, h2]; exact ⟨rfl, rfl⟩
theorem fw_some {xs : List LhE} {n : Nat} {s : Int} {ys : List Int} {m : Nat} {l : List Int} (h : hlC xs n s ys m = 0) (h2 : flS xs n s ys m (2 ^ m) = some l) : fwC xs n s ys m = 0 ∧ fwL xs n s ys m = l := by
  unfold fwC fwL; rw [if_pos h, if_pos h, h2]; exact ⟨rfl, rfl⟩
theorem fw_len {xs : List LhE} {n : Nat} {s : Int} {ys : List Int} {m : Nat} : (fwL xs n s ys m).length ≤ 1048576 := by
  have := fl_len (xs := xs) (n := n) (s := s) (ys := ys) (m := m) (b := 2 ^ m)
  unfold fwL; split
  · omega
  · simp
theorem wrap_two {m : Nat} (hm : m ≤ 12) : wrap64 ((2 : Int) ^ m) = ((2 ^ m : Nat) : Int) := by
  have h := pow_bd hm
  have e : ((2 : Int) ^ m) = ((2 ^ m : Nat) : Int) := by simp
  have h0 : (0 : Int) ≤ ((2 ^ m : Nat) : Int) := Int.natCast_nonneg _
  rw [e]
  unfold wrap64
  omega

set_option maxRecDepth 100000 in
set_option maxHeartbeats 6400000 in
theorem sFewestLenses_any (A : Option Addr) (n c : Nat) (xs : List LhE) (s : Int) (B : Option Addr) (m d : Nat) (ys : List Int) (w : World) (H : SlLh w A n xs) (HY : SlI w B m ys) (hn : n ≤ 1048576) (hm : m ≤ 1048576) :
    Calls Try.prog 50 #[.slice A n c, .int .i64 s, .slice B m d] w (GivesIC (fwL xs n s ys m) (fwC xs n s ys m) w) := by
  have HK := Lib.hid (l11Code_any A n c xs s B m d ys w H HY hn hm)
  have HKC := Lib.hid (show hlC xs n s ys m = hcC (vhB xs n) s 1 ys m from rfl)
  rw [← HKC.out] at HK
  by_cases hc : hlC xs n s ys m = 0
  case neg =>
    obtain ⟨r1, r2⟩ := fw_no hc
    rw [r1, r2]
    have hce : (hlC xs n s ys m != 0) = true := by simpa using hc
    clear H HY HKC r1 r2
    generalize hlC xs n s ys m = C at *
    go_enter Try.func50, Try.ntmps50
    go_wp2_with fail
    refine HK.out.mono ?_
    rintro e w1 ⟨rfl, hb1⟩
    go_wp2
    go_ret2
    exact ⟨_, rfl, OwnI.nil _ _, hb1⟩
  obtain ⟨n8, m12, hv, hs, hf⟩ := hl_ok H.1 hc
  have hp := pow_bd m12
  have HL := Lib.hid (fun b (hb : b < 65536) W hW => l11Left_any A n c xs s B m d ys b W (H.below hW) (HY.below hW) n8 m12 hv hs hf hb)
  have FN := Lib.hid (@fw_none xs n s ys m hc)
  have FV := Lib.hid (@fw_some xs n s ys m · hc)
  have hw2 := wrap_two m12
  obtain ⟨M, hM⟩ : ∃ M : Nat, 2 ^ m = M := ⟨_, rfl⟩
  rw [hM] at FN FV hw2 hp
  have HW := Lib.hid hw2
  have HM := Lib.hid hM
  clear hM
  rw [hc] at HK
  clear hc hv hs hf HKC hw2 H HY
  go_enter Try.func50, Try.ntmps50
  go_wp2_with fail
  refine HK.out.mono ?_
  rintro e w1 ⟨rfl, hb1⟩
  have hs1 := hb1.size
  clear HK
  go_wp2_with fail
  go_loopg [9, 10, 11] M (fun gh v f x wr => ∃ b : Nat, b ≤ M ∧ gh = M - b ∧ OwnI wr w.heap.size v ((flS xs n s ys m b).getD []) ∧ f = .bool (flS xs n s ys m b).isSome ∧ x = .int .i64 b ∧ Below w.heap.size w wr)
  case atStart => exact ⟨0, by omega, by omega, OwnI.lit w1 hs1, rfl, rfl, bw_alloc hb1 _⟩
  case round =>
    obtain ⟨b, hbm, rfl, hown, rfl, rfl, hbr⟩ := hrel
    have HO := Lib.hid hown
    have hlen := fl_len (xs := xs) (n := n) (s := s) (ys := ys) (m := m) (b := b)
    clear hown
    have F0 := Lib.hid (@fl_uncov xs n s ys m b)
    have F1 := Lib.hid (@fl_first xs n s ys m b)
    have F2 := Lib.hid (fun l => @fl_less xs n s ys m b l)
    have F3 := Lib.hid (fun l => @fl_more xs n s ys m b l)
    have FE := Lib.hid (show b = M → flS xs n s ys m M = flS xs n s ys m b from fun h => by rw [h])
    generalize flS xs n s ys m b = S at *
    obtain ⟨Ab, cb, rfl⟩ := HO.out.form
    by_cases hlt : b < M
    · have hcond : (b : Int) < wrap64 ((2 : Int) ^ m) := by rw [HW.out]; omega
      have HBS := Lib.hid (show b < 65536 by omega)
      have hix := Lib.hid (ix_at (b := b) (k := m) (by rw [HM.out]; exact hlt) (by omega))
      clear FE
      obtain ⟨wo, rfl⟩ : ∃ wo : World, wo = wr := ⟨_, rfl⟩
      go_wp2_with fail
      go_loopg [12, 13] m (fun gi v z wq => ∃ k : Nat, k ≤ m ∧ gi = m - k ∧ OwnI wq wo.heap.size v (selL b.testBit k) ∧ z = .int .i64 k ∧ Below wo.heap.size wo wq)
      case atStart => exact ⟨0, by omega, by omega, OwnI.lit wo (Nat.le_refl _), rfl, bw_alloc (Below.refl _ _) _⟩
      case round =>
        obtain ⟨k, hk, rfl, hown, rfl, hbq⟩ := hrel
        have HP := Lib.hid hown
        have hl := sel_len b.testBit k
        have hsz := hbq.size
        clear hown hcond
        by_cases hkm : k < m
        · have hbit := bit_is b k HBS.out
          cases hq : b.testBit k
          · have HE := Lib.hid (sel_no hq)
            rw [hq] at hbit
            clear hq
            go_wp2_with fail
            go_roundg (m - (k + 1))
            case rel => exact ⟨k + 1, by omega, rfl, by rw [HE.out]; exact HP.out, by go_num, hbq⟩
            case measure => omega
          · have HE := Lib.hid (sel_yes hq)
            rw [hq] at hbit
            clear hq
            go_wp2_with (at_builtin; refine wpAppI rfl _ _ rfl _ _ _ rfl (HP.out.alloc _) _ ((k : Int)) rfl (by go_simp) (by omega) (by simp; omega) ?_; intro v4 w4 hown4 hg4 hb4)
            go_roundg (m - (k + 1))
            case rel => exact ⟨k + 1, by omega, rfl, by rw [HE.out]; exact hown4, by go_num, bw_from (bw_alloc hbq _) hb4⟩
            case measure => omega
        · have hkk : k = m := by omega
          subst hkk
          obtain ⟨As, cs, rfl⟩ := HP.out.form
          rw [← hix.out] at HP
          rw [← hix.out]
          have hbq' := bw_trans hbr hbq
          have HO2 := Lib.hid (HO.out.below hbq)
          have hxl := ix_len b
          cases S with
          | none =>
            cases hcv : cvB xs n s ys k b
            · have HE := Lib.hid (F0.out hcv)
              have hz : ¬ (selL (noF xs s ys b k) n).length = 0 := by unfold cvB at hcv; exact of_decide_eq_false hcv
              have hz' : (((selL (noF xs s ys b k) n).length : Int) == 0) = false := by simp only [beq_eq_false_iff_ne, ne_eq]; omega
              clear hcv hz
              go_wp2_with fail
              refine (HL.out b HBS.out _ hbq').mono ?_
              rintro e w5 ⟨V5, rfl, G5, hb5⟩
              obtain ⟨A5, c5, rfl⟩ := G5.form
              have HO3 := Lib.hid (HO2.out.below hb5)
              clear G5
              go_wp2_with fail
              go_roundg (M - (b + 1))
              case rel => exact ⟨b + 1, by omega, rfl, by rw [HE.out]; exact HO3.out, by rw [HE.out] <;> rfl, by go_num, bw_trans hbq' hb5⟩
              case measure => omega
            · have HE := Lib.hid (F1.out hcv rfl)
              have hz : (selL (noF xs s ys b k) n).length = 0 := by unfold cvB at hcv; exact of_decide_eq_true hcv
              have hz' : (((selL (noF xs s ys b k) n).length : Int) == 0) = true := by rw [hz]; rfl
              clear hcv hz
              go_wp2_with fail
              refine (HL.out b HBS.out _ hbq').mono ?_
              rintro e w5 ⟨V5, rfl, G5, hb5⟩
              obtain ⟨A5, c5, rfl⟩ := G5.form
              have HP3 := Lib.hid ((HP.out.base hbr.size).below hb5)
              clear G5
              go_wp2_with fail
              go_roundg (M - (b + 1))
              case rel => exact ⟨b + 1, by omega, rfl, by rw [HE.out]; exact HP3.out, by rw [HE.out] <;> rfl, by go_num, bw_trans hbq' hb5⟩
              case measure => omega
          | some l =>
            have HLS := Lib.hid (fun r hr => l11Less_is As Ab (ixL b).length l.length cs cb (ixL b) l wr HP.out.sl.2 HO2.out.sl.2 (by omega) (by simp at hlen; omega) (r := r) hr)
            cases hls : lsL (ixL b) l
            · have HE := Lib.hid (F3.out _ rfl hls)
              have HQ := Lib.hid (HLS.out _ hls)
              clear hls HLS
              go_wp2_with fail
              refine HQ.out.mono ?_
              rintro e w5 ⟨rfl, hb5⟩
              have HO3 := Lib.hid (HO2.out.below hb5)
              go_wp2_with fail
              go_roundg (M - (b + 1))
              case rel => exact ⟨b + 1, by omega, rfl, by rw [HE.out]; exact HO3.out, by rw [HE.out] <;> rfl, by go_num, bw_trans hbq' hb5⟩
              case measure => omega
            have HQ := Lib.hid (HLS.out _ hls)
            clear HLS
            cases hcv : cvB xs n s ys k b
            · have HE := Lib.hid (F0.out hcv)
              have hz : ¬ (selL (noF xs s ys b k) n).length = 0 := by unfold cvB at hcv; exact of_decide_eq_false hcv
              have hz' : (((selL (noF xs s ys b k) n).length : Int) == 0) = false := by simp only [beq_eq_false_iff_ne, ne_eq]; omega
              clear hcv hz hls
              go_wp2_with fail
              refine HQ.out.mono ?_
              rintro e w5 ⟨rfl, hb5⟩
              go_wp2_with fail
              refine (HL.out b HBS.out _ (bw_trans hbq' hb5)).mono ?_
              rintro e w6 ⟨V6, rfl, G6, hb6⟩
              obtain ⟨A6, c6, rfl⟩ := G6.form
              have HO3 := Lib.hid (HO2.out.below (bw_trans hb5 hb6))
              clear G6
              go_wp2_with fail
              go_roundg (M - (b + 1))
              case rel => exact ⟨b + 1, by omega, rfl, by rw [HE.out]; exact HO3.out, by rw [HE.out] <;> rfl, by go_num, bw_trans (bw_trans hbq' hb5) hb6⟩
              case measure => omega
            · have HE := Lib.hid (F2.out _ hcv rfl hls)
              have hz : (selL (noF xs s ys b k) n).length = 0 := by unfold cvB at hcv; exact of_decide_eq_true hcv
              have hz' : (((selL (noF xs s ys b k) n).length : Int) == 0) = true := by rw [hz]; rfl
              clear hcv hz hls
              go_wp2_with fail
              refine HQ.out.mono ?_
              rintro e w5 ⟨rfl, hb5⟩
              go_wp2_with fail
              refine (HL.out b HBS.out _ (bw_trans hbq' hb5)).mono ?_
              rintro e w6 ⟨V6, rfl, G6, hb6⟩
              obtain ⟨A6, c6, rfl⟩ := G6.form
              have HP3 := Lib.hid ((HP.out.base hbr.size).below (bw_trans hb5 hb6))
              clear G6
              go_wp2_with fail
              go_roundg (M - (b + 1))
              case rel => exact ⟨b + 1, by omega, rfl, by rw [HE.out]; exact HP3.out, by rw [HE.out] <;> rfl, by go_num, bw_trans (bw_trans hbq' hb5) hb6⟩
              case measure => omega
    · have hkk : b = M := by omega
      have hcond : ¬ ((b : Int) < wrap64 ((2 : Int) ^ m)) := by rw [HW.out]; omega
      have HQ := Lib.hid (FE.out hkk)
      clear hkk F0 F1 F2 F3 FE
      cases S with
      | none =>
        have HR := Lib.hid (FN.out HQ.out)
        go_wp2
        go_ret2
        exact ⟨.slice none 0 0, by rw [HR.out.1] <;> rfl, by rw [HR.out.2]; exact OwnI.nil _ _, hbr⟩
      | some l =>
        have HR := Lib.hid (FV.out _ HQ.out)
        go_wp2
        go_ret2
        exact ⟨.slice Ab l.length cb, by rw [HR.out.1] <;> rfl, by rw [HR.out.2]; exact HO.out, hbr⟩
end Go.Proofs.Ythhilkahfgpncaa
