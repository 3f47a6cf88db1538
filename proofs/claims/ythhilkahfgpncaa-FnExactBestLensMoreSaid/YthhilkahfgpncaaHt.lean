/-
  BestLensMore: in the program and in the reference; the law.
-/
import Derived.Test.YthhilkahfgpncaaHr
import Derived.Test.YthhilkahfgpncaaShM
namespace Go.Proofs.Ythhilkahfgpncaa
open Go.RowKit

/-- How many of the first j halls that are left a lens suits. -/
def ctT (xs : List LhE) (s f : Int) (ls : List Int) : Nat → Int
  | 0 => 0
  | j + 1 => if suH xs s f (ls.getD j 0).toNat then ctT xs s f ls j + 1 else ctT xs s f ls j
theorem ct_yes {xs : List LhE} {s f : Int} {ls : List Int} {j : Nat} (h : suH xs s f (ls.getD j 0).toNat = true) : ctT xs s f ls (j + 1) = ctT xs s f ls j + 1 := if_pos h
theorem ct_no {xs : List LhE} {s f : Int} {ls : List Int} {j : Nat} (h : suH xs s f (ls.getD j 0).toNat = false) : ctT xs s f ls (j + 1) = ctT xs s f ls j := if_neg (by rw [h]; simp)
theorem ct_bd (xs : List LhE) (s f : Int) (ls : List Int) (j : Nat) : 0 ≤ ctT xs s f ls j ∧ ctT xs s f ls j ≤ j := by
  induction j with
  | zero => simp [ctT]
  | succ j ih => unfold ctT; split <;> omega
/-- The best focal length among the first k, and how many halls it suits. -/
def bmS (xs : List LhE) (s : Int) (ls : List Int) : Nat → Int × Int
  | 0 => (0, 0)
  | k + 1 => if (bmS xs s ls k).2 < ctT xs s ((k : Int) + 1) ls ls.length then ((k : Int) + 1, ctT xs s ((k : Int) + 1) ls ls.length) else bmS xs s ls k
theorem bm_yes {xs : List LhE} {s : Int} {ls : List Int} {k : Nat} (h : (bmS xs s ls k).2 < ctT xs s ((k : Int) + 1) ls ls.length) : bmS xs s ls (k + 1) = ((k : Int) + 1, ctT xs s ((k : Int) + 1) ls ls.length) := if_pos h
theorem bm_no {xs : List LhE} {s : Int} {ls : List Int} {k : Nat} (h : ¬ (bmS xs s ls k).2 < ctT xs s ((k : Int) + 1) ls ls.length) : bmS xs s ls (k + 1) = bmS xs s ls k := if_neg h
def bmR (xs : List LhE) (n : Nat) (s : Int) (ys : List Int) (m : Nat) : Int × Int × Int :=
  if hlC xs n s ys m = 0 then (if (bmS xs s (selL (noS xs s ys) n) 2000).2 = 0 then (0, 0, 3) else ((bmS xs s (selL (noS xs s ys) n) 2000).1, (bmS xs s (selL (noS xs s ys) n) 2000).2, 0)) else (0, 0, hlC xs n s ys m)
theorem bm_code {xs : List LhE} {n : Nat} {s : Int} {ys : List Int} {m : Nat} (h : ¬ hlC xs n s ys m = 0) : bmR xs n s ys m = (0, 0, hlC xs n s ys m) := if_neg h
theorem bm_none {xs : List LhE} {n : Nat} {s : Int} {ys : List Int} {m : Nat} (h : hlC xs n s ys m = 0) (h2 : (bmS xs s (selL (noS xs s ys) n) 2000).2 = 0) : bmR xs n s ys m = (0, 0, 3) := by
  unfold bmR; rw [if_pos h, if_pos h2]
theorem bm_some {xs : List LhE} {n : Nat} {s : Int} {ys : List Int} {m : Nat} (h : hlC xs n s ys m = 0) (h2 : ¬ (bmS xs s (selL (noS xs s ys) n) 2000).2 = 0) : bmR xs n s ys m = ((bmS xs s (selL (noS xs s ys) n) 2000).1, (bmS xs s (selL (noS xs s ys) n) 2000).2, 0) := by
  unfold bmR; rw [if_pos h, if_neg h2]
/-- The numbers that answered yes lie below k. -/
theorem sel_lt {q : Nat → Bool} {k j : Nat} (hj : j < (selL q k).length) : 0 ≤ (selL q k).getD j 0 ∧ (selL q k).getD j 0 < k := by
  induction k with
  | zero => simp [selL] at hj
  | succ k ih =>
    cases h : q k
    · rw [sel_no h] at hj ⊢
      have := ih hj; omega
    · rw [sel_yes h] at hj ⊢
      rcases Nat.lt_or_ge j (selL q k).length with h1 | h1
      · have := ih h1
        rw [List.getD_eq_getElem?_getD, List.getElem?_append_left h1, ← List.getD_eq_getElem?_getD]
        omega
      · have : j = (selL q k).length := by simp at hj; omega
        subst this
        rw [List.getD_eq_getElem?_getD, List.getElem?_append_right (Nat.le_refl _)]
        simp; omega

set_option maxRecDepth 100000 in
set_option maxHeartbeats 3200000 in
theorem iBestLensMore_any (A : Option Addr) (n c : Nat) (xs : List LhE) (s : Int) (B : Option Addr) (m d : Nat) (ys : List Int) (w : World) (H : SlLh w A n xs) (HY : SlI w B m ys) (hn : n ≤ 1048576) (hm : m ≤ 1048576) :
    Calls Try.prog 49 #[.slice A n c, .int .i64 s, .slice B m d] w fun e w' => e = .returned (.tuple #[.int .i64 (bmR xs n s ys m).1, .int .i64 (bmR xs n s ys m).2.1, .int .i64 (bmR xs n s ys m).2.2]) ∧ Below w.heap.size w w' := by
  have HV := Lib.hid (validLensHalls_is A n c xs w H hn rfl)
  have HK := Lib.hid (fun W hW => hallsCode_any (vhB xs n) s 1 B m d ys W (HY.below hW) hm)
  have HKC := Lib.hid (show hlC xs n s ys m = hcC (vhB xs n) s 1 ys m from rfl)
  rw [← HKC.out] at HK
  by_cases hc : hlC xs n s ys m = 0
  case neg =>
    rw [bm_code hc]
    have hce : (hlC xs n s ys m != 0) = true := by simpa using hc
    clear H HY HKC
    generalize hlC xs n s ys m = C at *
    generalize vhB xs n = V at *
    go_enter Try.func49, Try.ntmps49
    go_wp2_with fail
    refine HV.out.mono ?_
    rintro e w1 ⟨rfl, hb1⟩
    go_wp2_with fail
    refine (HK.out _ hb1).mono ?_
    rintro e w2 ⟨rfl, hb2⟩
    have hb0 := bw_trans hb1 hb2
    clear hb1 hb2
    go_wp2
    go_ret3
    exact ⟨rfl, hb0⟩
  obtain ⟨n8, m12, hv, hs, hf⟩ := hl_ok H.1 hc
  have HL := Lib.hid (fun W hW => hallsLeft_any A n c xs s B m d ys W (H.below hW) (HY.below hW) n8 m12 hv hs hf)
  have HVA := Lib.hid hv
  have HS := Lib.hid hs
  have HN0 := Lib.hid (@bm_none xs n s ys m hc)
  have HN1 := Lib.hid (@bm_some xs n s ys m hc)
  have hll := sel_len (noS xs s ys) n
  have HLT := Lib.hid (fun j (hj : j < (selL (noS xs s ys) n).length) => sel_lt hj)
  rw [hc] at HK
  clear hc hv hs hf HKC HY
  generalize selL (noS xs s ys) n = ls at *
  go_enter Try.func49, Try.ntmps49
  go_wp2_with fail
  refine HV.out.mono ?_
  rintro e w1 ⟨rfl, hb1⟩
  go_wp2_with fail
  refine (HK.out _ hb1).mono ?_
  rintro e w2 ⟨rfl, hb2⟩
  have hb0 := bw_trans hb1 hb2
  clear hb1 hb2
  go_wp2_with fail
  refine (HL.out _ hb0).mono ?_
  rintro e w3 ⟨v, rfl, hown, hb3⟩
  have hbw := bw_trans hb0 hb3
  obtain ⟨Al, cl, rfl⟩ := hown.form
  have HLS := hown.sl.2
  clear HL HK hown hb0 hb3
  go_wp2_with fail
  go_loopg [11, 12, 13] 2000 (fun gh x y z wr => ∃ k : Nat, k ≤ 2000 ∧ gh = 2000 - k ∧ x = .int .i64 (bmS xs s ls k).1 ∧ y = .int .i64 (bmS xs s ls k).2 ∧ z = .int .i64 ((k : Int) + 1) ∧ Below w.heap.size w wr ∧ Below w3.heap.size w3 wr)
  case atStart => exact ⟨0, by omega, by omega, rfl, rfl, rfl, hbw, Below.refl _ _⟩
  case round =>
    obtain ⟨k, hk, rfl, rfl, rfl, rfl, hbr, hbr3⟩ := hrel
    have HBY := Lib.hid (@bm_yes xs s ls k)
    have HBN := Lib.hid (@bm_no xs s ls k)
    have HK := Lib.hid (show k = 2000 → bmS xs s ls 2000 = bmS xs s ls k from fun h => by rw [h])
    have hbb : (bmS xs s ls k).2 = (bmS xs s ls k).2 := rfl
    clear hbb
    obtain ⟨⟨P, L⟩, hS⟩ : ∃ S, bmS xs s ls k = S := ⟨_, rfl⟩
    rw [hS] at HBY HBN HK
    rw [hS]
    clear hS
    by_cases hlt : k < 2000
    · have hi : ((k : Int) + 1) ≤ 2000 := by omega
      obtain ⟨wo, rfl⟩ : ∃ wo : World, wo = wr := ⟨_, rfl⟩
      clear HK
      go_wp2_with fail
      go_loopg [14, 35] ls.length (fun gi x y wq => ∃ j : Nat, j ≤ ls.length ∧ gi = ls.length - j ∧ x = .int .i64 (ctT xs s ((k : Int) + 1) ls j) ∧ y = .int .i64 j ∧ Below w.heap.size w wq ∧ Below w3.heap.size w3 wq)
      case atStart => exact ⟨0, by omega, by omega, rfl, rfl, hbr, hbr3⟩
      case round =>
        obtain ⟨j, hj, rfl, rfl, rfl, hbq, hbq3⟩ := hrel
        obtain ⟨c1, c2⟩ := ct_bd xs s ((k : Int) + 1) ls j
        by_cases hjl : j < ls.length
        · obtain ⟨b2, off2, rfl, hbl2, hd0⟩ := (HLS.below hbq3).get hjl
          obtain ⟨l1, l2⟩ := HLT.out j hjl
          have HY := Lib.hid (@ct_yes xs s ((k : Int) + 1) ls j)
          have HN := Lib.hid (@ct_no xs s ((k : Int) + 1) ls j)
          generalize ls.getD j 0 = v at *
          obtain ⟨I, rfl⟩ : ∃ I : Nat, v = I := ⟨v.toNat, by omega⟩
          rw [Int.toNat_natCast] at HY HN
          have hIn : I < n := by omega
          have HVI := Lib.hid (HVA.out I hIn)
          obtain ⟨bb, off, rfl, hbl, hc0, hc1, hc2⟩ := (H.below hbq).get hIn
          clear H HLS
          have hp : suH xs s ((k : Int) + 1) I = suB (xs.getD I LhE.zero).f0 (xs.getD I LhE.zero).f1 (xs.getD I LhE.zero).f2 s ((k : Int) + 1) := rfl
          have hC := (fun W => suits_any (xs.getD I LhE.zero).f0 (xs.getD I LhE.zero).f1 (xs.getD I LhE.zero).f2 s ((k : Int) + 1) W HVI.out HS.out ⟨by omega, by omega⟩)
          rw [← hp] at hC
          clear hp
          generalize xs.getD I LhE.zero = u at *
          generalize ctT xs s ((k : Int) + 1) ls j = N at *
          cases hq : suH xs s ((k : Int) + 1) I
          · have HE := Lib.hid (HN.out hq)
            rw [hq] at hC
            have HC := Lib.hid hC
            clear hC hq HY HN
            go_wp2_with fail
            refine (HC.out _).mono ?_
            rintro e w5 ⟨rfl, hb5⟩
            go_wp2_with fail
            go_roundg (ls.length - (j + 1))
            case rel => exact ⟨j + 1, by omega, rfl, by rw [HE.out], by go_num, bw_trans hbq hb5, bw_trans hbq3 hb5⟩
            case measure => omega
          · have HE := Lib.hid (HY.out hq)
            rw [hq] at hC
            have HC := Lib.hid hC
            clear hC hq HY HN
            go_wp2_with fail
            refine (HC.out _).mono ?_
            rintro e w5 ⟨rfl, hb5⟩
            go_wp2_with fail
            go_roundg (ls.length - (j + 1))
            case rel => exact ⟨j + 1, by omega, rfl, by rw [HE.out], by go_num, bw_trans hbq hb5, bw_trans hbq3 hb5⟩
            case measure => omega
        · have hjj : j = ls.length := by omega
          subst hjj
          clear H HLS
          generalize ctT xs s ((k : Int) + 1) ls ls.length = N at *
          by_cases hgt : L < N
          · have HE := Lib.hid (HBY.out hgt)
            clear HBY HBN
            go_wp2_with fail
            go_roundg (2000 - (k + 1))
            case rel => exact ⟨k + 1, by omega, rfl, by rw [HE.out], by rw [HE.out], by go_num, hbq, hbq3⟩
            case measure => omega
          · have HE := Lib.hid (HBN.out (by first | omega | (simp only; omega)))
            clear HBY HBN
            go_wp2_with fail
            go_roundg (2000 - (k + 1))
            case rel => exact ⟨k + 1, by omega, rfl, by rw [HE.out], by rw [HE.out], by go_num, hbq, hbq3⟩
            case measure => omega
    · have hkk : k = 2000 := by omega
      have HQ := Lib.hid (HK.out hkk)
      clear H HLS HBY HBN HK hkk
      by_cases hl0 : L = 0
      · have HR := Lib.hid (HN0.out (by rw [HQ.out]; exact hl0))
        subst hl0
        go_wp2
        go_ret3
        exact ⟨by rw [HR.out]; rfl, hbr⟩
      · have HR := Lib.hid (HN1.out (by rw [HQ.out]; exact hl0))
        have hl1 : (L == 0) = false := by simpa using hl0
        go_wp2
        go_ret3
        exact ⟨by rw [HR.out, HQ.out]; rfl, hbr⟩

set_option maxRecDepth 100000 in
set_option maxHeartbeats 3200000 in
theorem sBestLensMore_any (A : Option Addr) (n c : Nat) (xs : List LhE) (s : Int) (B : Option Addr) (m d : Nat) (ys : List Int) (w : World) (H : SlLh w A n xs) (HY : SlI w B m ys) (hn : n ≤ 1048576) (hm : m ≤ 1048576) :
    Calls Try.prog 48 #[.slice A n c, .int .i64 s, .slice B m d] w fun e w' => e = .returned (.tuple #[.int .i64 (bmR xs n s ys m).1, .int .i64 (bmR xs n s ys m).2.1, .int .i64 (bmR xs n s ys m).2.2]) ∧ Below w.heap.size w w' := by
  have HK := Lib.hid (l11Code_any A n c xs s B m d ys w H HY hn hm)
  have HKC := Lib.hid (show hlC xs n s ys m = hcC (vhB xs n) s 1 ys m from rfl)
  rw [← HKC.out] at HK
  by_cases hc : hlC xs n s ys m = 0
  case neg =>
    rw [bm_code hc]
    have hce : (hlC xs n s ys m != 0) = true := by simpa using hc
    clear H HY HKC
    generalize hlC xs n s ys m = C at *
    go_enter Try.func48, Try.ntmps48
    go_wp2_with fail
    refine HK.out.mono ?_
    rintro e w2 ⟨rfl, hb0⟩
    go_wp2
    go_ret3
    exact ⟨rfl, hb0⟩
  obtain ⟨n8, m12, hv, hs, hf⟩ := hl_ok H.1 hc
  have hp := pow_bd m12
  have hwp := wrap_pow m12
  have HL := Lib.hid (fun W hW => l11Left_any A n c xs s B m d ys (2 ^ m - 1) W (H.below hW) (HY.below hW) n8 m12 hv hs hf (by omega))
  rw [sel_full HY.length] at HL
  have HW := Lib.hid hwp
  clear hp hwp
  have HVA := Lib.hid hv
  have HS := Lib.hid hs
  have HN0 := Lib.hid (@bm_none xs n s ys m hc)
  have HN1 := Lib.hid (@bm_some xs n s ys m hc)
  have hll := sel_len (noS xs s ys) n
  have HLT := Lib.hid (fun j (hj : j < (selL (noS xs s ys) n).length) => sel_lt hj)
  rw [hc] at HK
  clear hc hv hs hf HKC HY
  generalize selL (noS xs s ys) n = ls at *
  go_enter Try.func48, Try.ntmps48
  go_wp2_with fail
  refine HK.out.mono ?_
  rintro e w2 ⟨rfl, hb0⟩
  go_wp2_with fail
  rw [HW.out]
  refine (HL.out _ hb0).mono ?_
  rintro e w3 ⟨v, rfl, hown, hb3⟩
  have hbw := bw_trans hb0 hb3
  obtain ⟨Al, cl, rfl⟩ := hown.form
  have HLS := hown.sl.2
  clear HL HK hown hb0 hb3
  go_wp2_with fail
  go_loopg [11, 12, 13] 2000 (fun gh x y z wr => ∃ k : Nat, k ≤ 2000 ∧ gh = 2000 - k ∧ x = .int .i64 (bmS xs s ls k).1 ∧ y = .int .i64 (bmS xs s ls k).2 ∧ z = .int .i64 ((k : Int) + 1) ∧ Below w.heap.size w wr ∧ Below w3.heap.size w3 wr)
  case atStart => exact ⟨0, by omega, by omega, rfl, rfl, rfl, hbw, Below.refl _ _⟩
  case round =>
    obtain ⟨k, hk, rfl, rfl, rfl, rfl, hbr, hbr3⟩ := hrel
    have HBY := Lib.hid (@bm_yes xs s ls k)
    have HBN := Lib.hid (@bm_no xs s ls k)
    have HK := Lib.hid (show k = 2000 → bmS xs s ls 2000 = bmS xs s ls k from fun h => by rw [h])
    have hbb : (bmS xs s ls k).2 = (bmS xs s ls k).2 := rfl
    clear hbb
    obtain ⟨⟨P, L⟩, hS⟩ : ∃ S, bmS xs s ls k = S := ⟨_, rfl⟩
    rw [hS] at HBY HBN HK
    rw [hS]
    clear hS
    by_cases hlt : k < 2000
    · have hi : ((k : Int) + 1) ≤ 2000 := by omega
      obtain ⟨wo, rfl⟩ : ∃ wo : World, wo = wr := ⟨_, rfl⟩
      clear HK
      go_wp2_with fail
      go_loopg [14, 15] ls.length (fun gi x y wq => ∃ j : Nat, j ≤ ls.length ∧ gi = ls.length - j ∧ x = .int .i64 (ctT xs s ((k : Int) + 1) ls j) ∧ y = .int .i64 j ∧ Below w.heap.size w wq ∧ Below w3.heap.size w3 wq)
      case atStart => exact ⟨0, by omega, by omega, rfl, rfl, hbr, hbr3⟩
      case round =>
        obtain ⟨j, hj, rfl, rfl, rfl, hbq, hbq3⟩ := hrel
        obtain ⟨c1, c2⟩ := ct_bd xs s ((k : Int) + 1) ls j
        by_cases hjl : j < ls.length
        · obtain ⟨b2, off2, rfl, hbl2, hd0⟩ := (HLS.below hbq3).get hjl
          obtain ⟨l1, l2⟩ := HLT.out j hjl
          have HY := Lib.hid (@ct_yes xs s ((k : Int) + 1) ls j)
          have HN := Lib.hid (@ct_no xs s ((k : Int) + 1) ls j)
          generalize ls.getD j 0 = v at *
          obtain ⟨I, rfl⟩ : ∃ I : Nat, v = I := ⟨v.toNat, by omega⟩
          rw [Int.toNat_natCast] at HY HN
          have hIn : I < n := by omega
          have HVI := Lib.hid (HVA.out I hIn)
          obtain ⟨bb, off, rfl, hbl, hc0, hc1, hc2⟩ := (H.below hbq).get hIn
          clear H HLS
          have hp : suH xs s ((k : Int) + 1) I = suB (xs.getD I LhE.zero).f0 (xs.getD I LhE.zero).f1 (xs.getD I LhE.zero).f2 s ((k : Int) + 1) := rfl
          have hC := (l11Suits_any (xs.getD I LhE.zero).f0 (xs.getD I LhE.zero).f1 (xs.getD I LhE.zero).f2 s ((k : Int) + 1) bb (off + I * 3) wr HVI.out HS.out ⟨by omega, by omega⟩ hc0 hc1 hc2)
          rw [← hp] at hC
          clear hp
          generalize xs.getD I LhE.zero = u at *
          generalize ctT xs s ((k : Int) + 1) ls j = N at *
          cases hq : suH xs s ((k : Int) + 1) I
          · have HE := Lib.hid (HN.out hq)
            rw [hq] at hC
            have HC := Lib.hid hC
            clear hC hq HY HN
            go_wp2_with fail
            refine (HC.out).mono ?_
            rintro e w5 ⟨rfl, hb5⟩
            go_wp2_with fail
            go_roundg (ls.length - (j + 1))
            case rel => exact ⟨j + 1, by omega, rfl, by rw [HE.out], by go_num, bw_trans hbq hb5, bw_trans hbq3 hb5⟩
            case measure => omega
          · have HE := Lib.hid (HY.out hq)
            rw [hq] at hC
            have HC := Lib.hid hC
            clear hC hq HY HN
            go_wp2_with fail
            refine (HC.out).mono ?_
            rintro e w5 ⟨rfl, hb5⟩
            go_wp2_with fail
            go_roundg (ls.length - (j + 1))
            case rel => exact ⟨j + 1, by omega, rfl, by rw [HE.out], by go_num, bw_trans hbq hb5, bw_trans hbq3 hb5⟩
            case measure => omega
        · have hjj : j = ls.length := by omega
          subst hjj
          clear H HLS
          generalize ctT xs s ((k : Int) + 1) ls ls.length = N at *
          by_cases hgt : L < N
          · have HE := Lib.hid (HBY.out hgt)
            clear HBY HBN
            go_wp2_with fail
            go_roundg (2000 - (k + 1))
            case rel => exact ⟨k + 1, by omega, rfl, by rw [HE.out], by rw [HE.out], by go_num, hbq, hbq3⟩
            case measure => omega
          · have HE := Lib.hid (HBN.out (by first | omega | (simp only; omega)))
            clear HBY HBN
            go_wp2_with fail
            go_roundg (2000 - (k + 1))
            case rel => exact ⟨k + 1, by omega, rfl, by rw [HE.out], by rw [HE.out], by go_num, hbq, hbq3⟩
            case measure => omega
    · have hkk : k = 2000 := by omega
      have HQ := Lib.hid (HK.out hkk)
      clear H HLS HBY HBN HK hkk
      by_cases hl0 : L = 0
      · have HR := Lib.hid (HN0.out (by rw [HQ.out]; exact hl0))
        subst hl0
        go_wp2
        go_ret3
        exact ⟨by rw [HR.out]; rfl, hbr⟩
      · have HR := Lib.hid (HN1.out (by rw [HQ.out]; exact hl0))
        have hl1 : (L == 0) = false := by simpa using hl0
        go_wp2
        go_ret3
        exact ⟨by rw [HR.out, HQ.out]; rfl, hbr⟩

set_option maxRecDepth 100000 in
set_option maxHeartbeats 3200000 in
theorem law_BestLensMore (a_aList : Option Addr) (l_aList c_aList : Nat) (xs_aList : List LhE) (s : Int) (a_aStock : Option Addr) (l_aStock c_aStock : Nat) (xs_aStock : List Int) (w : World) (hm_aList : l_aList ≤ 9223372036854775807) (H_aList : SlLh w a_aList l_aList xs_aList) (hm_aStock : l_aStock ≤ 9223372036854775807) (H_aStock : SlI w a_aStock l_aStock xs_aStock) :
    Calls Try.prog 14 #[.slice a_aList l_aList c_aList, .int .i64 s, .slice a_aStock l_aStock c_aStock] w fun e w' => e = .returned (.bool true) ∧ Below w.heap.size w w' := by
  by_cases hn_aStock : l_aStock ≤ 1048576
  case neg =>
    clear H_aList H_aStock
    go_enter Try.func14, Try.ntmps14
    go_wp2
    go_ret
    exact ⟨rfl, Below.refl _ _⟩
  by_cases hn_aList : l_aList ≤ 1048576
  case neg =>
    clear H_aList H_aStock
    go_enter Try.func14, Try.ntmps14
    go_wp2_with fail
    refine (LhszNo_any a_aList l_aList c_aList _ hm_aList hn_aList).mono ?_
    rintro e w0 ⟨rfl, hB0⟩
    go_wp2
    go_ret
    exact ⟨rfl, hB0⟩
  have hni_aList : ¬ (1048576 - (l_aList : Int)) < 0 := by omega
  have hS : ∀ (A_aList : Option Addr) (C_aList : Nat) (A_aStock : Option Addr) (C_aStock : Nat) (W : World), SlLh W A_aList l_aList xs_aList → SlI W A_aStock l_aStock xs_aStock → Calls Try.prog 48 #[.slice A_aList l_aList C_aList, .int .i64 s, .slice A_aStock l_aStock C_aStock] W (fun e w' => e = .returned (.tuple #[.int .i64 ((bmR xs_aList l_aList s xs_aStock l_aStock).1), .int .i64 ((bmR xs_aList l_aList s xs_aStock l_aStock).2.1), .int .i64 ((bmR xs_aList l_aList s xs_aStock l_aStock).2.2)]) ∧ Below W.heap.size W w') := fun A_aList C_aList A_aStock C_aStock W K_aList K_aStock => sBestLensMore_any A_aList l_aList C_aList xs_aList s A_aStock l_aStock C_aStock xs_aStock W K_aList K_aStock hn_aList hn_aStock
  have hI : ∀ (A_aList : Option Addr) (C_aList : Nat) (A_aStock : Option Addr) (C_aStock : Nat) (W : World), SlLh W A_aList l_aList xs_aList → SlI W A_aStock l_aStock xs_aStock → Calls Try.prog 49 #[.slice A_aList l_aList C_aList, .int .i64 s, .slice A_aStock l_aStock C_aStock] W (fun e w' => e = .returned (.tuple #[.int .i64 ((bmR xs_aList l_aList s xs_aStock l_aStock).1), .int .i64 ((bmR xs_aList l_aList s xs_aStock l_aStock).2.1), .int .i64 ((bmR xs_aList l_aList s xs_aStock l_aStock).2.2)]) ∧ Below W.heap.size W w') := fun A_aList C_aList A_aStock C_aStock W K_aList K_aStock => iBestLensMore_any A_aList l_aList C_aList xs_aList s A_aStock l_aStock C_aStock xs_aStock W K_aList K_aStock hn_aList hn_aStock
  generalize (bmR xs_aList l_aList s xs_aStock l_aStock).1 = K0 at *
  generalize (bmR xs_aList l_aList s xs_aStock l_aStock).2.1 = K1 at *
  generalize (bmR xs_aList l_aList s xs_aStock l_aStock).2.2 = K2 at *
  have HS := Lib.hid hS
  have HI := Lib.hid hI
  clear hS hI
  go_enter Try.func14, Try.ntmps14
  go_wp2_with fail
  refine (Lhsz_any a_aList l_aList c_aList _ hn_aList).mono ?_
  rintro e w1 ⟨rfl, hb⟩
  have hB := hb
  clear hb
  go_wp2_with fail
  refine (LhtoSF_any a_aList l_aList c_aList xs_aList _ (H_aList.below hB) hn_aList).mono ?_
  rintro e w2 ⟨rfl, Xs_aList, Fs_aList, Zs_aList, hb⟩
  replace hB := bw_trans hB hb
  clear hb
  clear Fs_aList Zs_aList
  go_wp2_with fail
  refine (toInts_any a_aStock l_aStock c_aStock xs_aStock _ (H_aStock.below hB) hn_aStock).mono ?_
  rintro e w3 ⟨rfl, he⟩
  have hb : Below w2.heap.size w2 w3 := by rw [he]; exact bw_alloc (Below.refl _ _) _
  have Os_aStock : OwnI w3 w2.heap.size (.slice (some ⟨w2.heap.size, 0, none⟩) l_aStock l_aStock) xs_aStock := by rw [he]; exact OwnI.made H_aStock.length hn_aStock
  have Zs_aStock : w2.heap.size < w3.heap.size := by rw [he]; simp
  clear he
  replace Xs_aList := Xs_aList.below hb
  replace hB := bw_trans hB hb
  clear hb
  go_wp2_with fail
  refine (HS.out (some ⟨w1.heap.size, 0, none⟩) l_aList (some ⟨w2.heap.size, 0, none⟩) l_aStock _ Xs_aList (by have h := Os_aStock.sl; rw [← h.1] at h; exact h.2)).mono ?_
  rintro e w4 ⟨rfl, hb⟩
  replace Xs_aList := Xs_aList.below hb
  replace Os_aStock := Os_aStock.below hb
  replace Zs_aStock := Nat.lt_of_lt_of_le Zs_aStock hb.size
  replace hB := bw_trans hB hb
  clear hb
  clear Xs_aList
  clear Os_aStock Zs_aStock
  have hW := Below.refl w4.heap.size w4
  go_wp2_with fail
  refine (LhtoSF_any a_aList l_aList c_aList xs_aList _ (H_aList.below hB) hn_aList).mono ?_
  rintro e w5 ⟨rfl, Xx_aList, Fx_aList, Zx_aList, hb⟩
  replace hB := bw_trans hB hb
  replace hW := bw_trans hW hb
  clear hb
  replace Fx_aList := Lib.hid Fx_aList
  go_wp2_with fail
  refine (toInts_any a_aStock l_aStock c_aStock xs_aStock _ (H_aStock.below hB) hn_aStock).mono ?_
  rintro e w6 ⟨rfl, he⟩
  have hb : Below w5.heap.size w5 w6 := by rw [he]; exact bw_alloc (Below.refl _ _) _
  have Ox_aStock : OwnI w6 w5.heap.size (.slice (some ⟨w5.heap.size, 0, none⟩) l_aStock l_aStock) xs_aStock := by rw [he]; exact OwnI.made H_aStock.length hn_aStock
  have Zx_aStock : w5.heap.size < w6.heap.size := by rw [he]; simp
  clear he
  replace Fx_aList : Hid _ := fun j => (hb.frozen (p := ⟨w4.heap.size, j, none⟩) Zx_aList).trans (Fx_aList.out j)
  replace Xx_aList := Xx_aList.below hb
  replace Zx_aList := Nat.lt_of_lt_of_le Zx_aList hb.size
  replace hB := bw_trans hB hb
  replace hW := bw_trans hW hb
  clear hb
  go_wp2_with fail
  refine (HI.out (some ⟨w4.heap.size, 0, none⟩) l_aList (some ⟨w5.heap.size, 0, none⟩) l_aStock _ Xx_aList (by have h := Ox_aStock.sl; rw [← h.1] at h; exact h.2)).mono ?_
  rintro e w7 ⟨rfl, hb⟩
  replace Fx_aList : Hid _ := fun j => (hb.frozen (p := ⟨w4.heap.size, j, none⟩) Zx_aList).trans (Fx_aList.out j)
  replace Xx_aList := Xx_aList.below hb
  replace Ox_aStock := Ox_aStock.below hb
  replace Zx_aList := Nat.lt_of_lt_of_le Zx_aList hb.size
  replace Zx_aStock := Nat.lt_of_lt_of_le Zx_aStock hb.size
  replace hB := bw_trans hB hb
  replace hW := bw_trans hW hb
  clear hb
  skip
  go_wp2_with fail
  refine (LhtoSF_any a_aList l_aList c_aList xs_aList _ (H_aList.below hB) hn_aList).mono ?_
  rintro e w8 ⟨rfl, Xq_aList, Fq_aList, Zq_aList, hb⟩
  replace Fx_aList : Hid _ := fun j => (hb.frozen (p := ⟨w4.heap.size, j, none⟩) Zx_aList).trans (Fx_aList.out j)
  replace Xx_aList := Xx_aList.below hb
  replace Ox_aStock := Ox_aStock.below hb
  replace Zx_aList := Nat.lt_of_lt_of_le Zx_aList hb.size
  replace Zx_aStock := Nat.lt_of_lt_of_le Zx_aStock hb.size
  replace hB := bw_trans hB hb
  replace hW := bw_trans hW hb
  clear hb
  clear Fq_aList Zq_aList
  go_wp2_with fail
  refine (LheqS_any _ _ _ _ _ xs_aList _ Xx_aList Xq_aList hn_aList).mono ?_
  rintro e w9 ⟨rfl, hb⟩
  replace Fx_aList : Hid _ := fun j => (hb.frozen (p := ⟨w4.heap.size, j, none⟩) Zx_aList).trans (Fx_aList.out j)
  replace Xx_aList := Xx_aList.below hb
  replace Ox_aStock := Ox_aStock.below hb
  replace Xq_aList := Xq_aList.below hb
  replace Zx_aList := Nat.lt_of_lt_of_le Zx_aList hb.size
  replace Zx_aStock := Nat.lt_of_lt_of_le Zx_aStock hb.size
  replace hB := bw_trans hB hb
  replace hW := bw_trans hW hb
  clear hb
  clear Xq_aList
  go_wp2_with fail
  refine (toInts_any a_aStock l_aStock c_aStock xs_aStock _ (H_aStock.below hB) hn_aStock).mono ?_
  rintro e w10 ⟨rfl, he⟩
  have hb : Below w9.heap.size w9 w10 := by rw [he]; exact bw_alloc (Below.refl _ _) _
  have Oq_aStock : OwnI w10 w9.heap.size (.slice (some ⟨w9.heap.size, 0, none⟩) l_aStock l_aStock) xs_aStock := by rw [he]; exact OwnI.made H_aStock.length hn_aStock
  have Zq_aStock : w9.heap.size < w10.heap.size := by rw [he]; simp
  clear he
  replace Fx_aList : Hid _ := fun j => (hb.frozen (p := ⟨w4.heap.size, j, none⟩) Zx_aList).trans (Fx_aList.out j)
  replace Xx_aList := Xx_aList.below hb
  replace Ox_aStock := Ox_aStock.below hb
  replace Zx_aList := Nat.lt_of_lt_of_le Zx_aList hb.size
  replace Zx_aStock := Nat.lt_of_lt_of_le Zx_aStock hb.size
  replace hB := bw_trans hB hb
  replace hW := bw_trans hW hb
  clear hb
  go_wp2_with fail
  refine (eqInts_any _ _ l_aStock _ _ xs_aStock _ (by have h := Ox_aStock.sl; rw [← h.1] at h; exact h.2) (by have h := Oq_aStock.sl; rw [← h.1] at h; exact h.2) hn_aStock).mono ?_
  rintro e w11 ⟨rfl, hb⟩
  replace Fx_aList : Hid _ := fun j => (hb.frozen (p := ⟨w4.heap.size, j, none⟩) Zx_aList).trans (Fx_aList.out j)
  replace Xx_aList := Xx_aList.below hb
  replace Ox_aStock := Ox_aStock.below hb
  replace Oq_aStock := Oq_aStock.below hb
  replace Zx_aList := Nat.lt_of_lt_of_le Zx_aList hb.size
  replace Zx_aStock := Nat.lt_of_lt_of_le Zx_aStock hb.size
  replace Zq_aStock := Nat.lt_of_lt_of_le Zq_aStock hb.size
  replace hB := bw_trans hB hb
  replace hW := bw_trans hW hb
  clear hb
  clear Oq_aStock Zq_aStock
  go_wp2
  go_ret
  exact ⟨rfl, hB⟩
end Go.Proofs.Ythhilkahfgpncaa
