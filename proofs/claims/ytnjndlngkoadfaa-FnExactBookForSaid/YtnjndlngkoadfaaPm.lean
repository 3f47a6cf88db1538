/-
  BookFor: plain law; in the program and in the reference; the law.
-/
import Derived.Test.YtnjndlngkoadfaaPi
import Derived.Test.YtnjndlngkoadfaaRp
import Derived.Deep.LoopGhost
namespace Go.Proofs.Ytnjndlngkoadfaa
open Go.RowKit

/-- So many copies of a text. -/
def rpS (s : ByteArray) : Nat → ByteArray
  | 0 => ⟨#[]⟩
  | c + 1 => rpS s c ++ s
theorem rp_succ (s : ByteArray) (c : Nat) : rpS s (c + 1) = rpS s c ++ s := rfl
theorem repL_snoc (l : List UInt8) (c : Nat) : Lib.repeatL l (c + 1) = Lib.repeatL l c ++ l := by
  rw [Lib.repeatL_add]; simp [Lib.repeatL]
theorem rp_is (s : ByteArray) (c : Nat) : (⟨(Lib.repeatL s.data.toList c).toArray⟩ : ByteArray) = rpS s c := by
  induction c with
  | zero => rfl
  | succ c ih =>
    rw [rp_succ, ← ih, repL_snoc]
    apply ByteArray.ext
    simp
theorem rp_size (s : ByteArray) (c : Nat) : (rpS s c).size = c * s.size := by
  induction c with
  | zero => rw [Nat.zero_mul]; rfl
  | succ c ih => rw [rp_succ, ByteArray.size_append, ih, Nat.succ_mul]
theorem ba_nil (s : ByteArray) : s ++ (⟨#[]⟩ : ByteArray) = s := by
  apply ByteArray.ext; simp
theorem nil_ba (s : ByteArray) : (⟨#[]⟩ : ByteArray) ++ s = s := by
  apply ByteArray.ext; simp
theorem ba_assoc (a b c : ByteArray) : a ++ b ++ c = a ++ (b ++ c) := by
  apply ByteArray.ext; simp

/-- The pages of the first k scenes. -/
def bkS (xs : List ScE) (each : Int) : Nat → ByteArray
  | 0 => ⟨#[]⟩
  | k + 1 => bkS xs each k ++ rpS (xs.getD k ScE.zero).f0 (pgN (xs.getD k ScE.zero).f1 each).toNat
theorem bk_succ (xs : List ScE) (each : Int) (k : Nat) : bkS xs each (k + 1) = bkS xs each k ++ rpS (xs.getD k ScE.zero).f0 (pgN (xs.getD k ScE.zero).f1 each).toNat := rfl
def oneL (xs : List ScE) (n : Nat) : Prop := ∀ k, k < n → (xs.getD k ScE.zero).f0.size = 1
theorem one_of {xs : List ScE} {n : Nat} (h : ∀ k, k < n → scOk xs k) : oneL xs n := fun k hk => by
  obtain ⟨_, h1, h2⟩ := lnB_of (h k hk).1
  omega
theorem bkS_bd {xs : List ScE} {each : Int} {n k : Nat} (ho : oneL xs n) (h : tkOk xs n) (he : 1 ≤ each) (hk : k ≤ n) : (bkS xs each k).size ≤ 1001 * k := by
  induction k with
  | zero => exact Nat.le_refl 0
  | succ k ih =>
    have h1 := ih (by omega)
    have h2 := ho k (by omega)
    have h3 := pgN_bd (h k (by omega)) he
    rw [bk_succ, ByteArray.size_append, rp_size, h2]
    omega
noncomputable def bfS (xs : List ScE) (n : Nat) (each : Int) : ByteArray := if bkC xs n each = 0 then bkS xs each n else ⟨#[]⟩
theorem bf_yes {xs : List ScE} {n : Nat} {each : Int} (h : bkC xs n each = 0) : bfS xs n each = bkS xs each n := if_pos h
theorem bf_no {xs : List ScE} {n : Nat} {each : Int} (h : ¬ bkC xs n each = 0) : bfS xs n each = ⟨#[]⟩ := if_neg h

theorem repeat_any (s : ByteArray) (c : Nat) (w : World) (hs : s.size = 1) (hc : c ≤ 1001) :
    Calls Try.prog 59 #[.string s, .int .i64 (c : Int)] w fun e w' => e = .returned (.string (rpS s c)) ∧ Below w.heap.size w w' := by
  rw [← rp_is]
  exact Try.strings_Repeat s c w (by omega) (by rw [hs]; omega)

set_option maxRecDepth 100000 in
set_option maxHeartbeats 1600000 in
theorem iBookFor_any (A : Option Addr) (n c : Nat) (xs : List ScE) (each : Int) (w : World) (H : SlSc w A n xs) (hn : n ≤ 1048576) (hz : ∀ k, k < n → (xs.getD k ScE.zero).f0.size ≤ 9223372036854775807) :
    Calls Try.prog 34 #[.slice A n c, .int .i64 each] w fun e w' => e = .returned (.tuple #[.string (bfS xs n each), .int .i64 (bkC xs n each)]) ∧ Below w.heap.size w w' := by
  have HC := Lib.hid (bookCode_any A n c xs each w H hn hz)
  clear hz
  by_cases h : bkC xs n each = 0
  case neg =>
    have HR := Lib.hid (bf_no h)
    have hC : (bkC xs n each != 0) = true := by simpa using h
    clear H
    generalize bkC xs n each = C at *
    go_enter Try.func34, Try.ntmps34
    go_wp2_with fail
    refine HC.out.mono ?_
    rintro e w1 ⟨rfl, hb1⟩
    go_wp2
    go_ret2
    exact ⟨by rw [HR.out]; rfl, hb1⟩
  have HR := Lib.hid (And.intro (bf_yes h) h)
  obtain ⟨h1, h2, h3⟩ := bk_ok h
  obtain ⟨hok, n1, n2⟩ := vs_of h1
  have HT := Lib.hid (tk_of hok)
  have HE := Lib.hid (inB_true.1 h2)
  have HO := Lib.hid (one_of hok)
  clear h1 h2 hok
  rw [h] at HC
  clear h
  go_enter Try.func34, Try.ntmps34
  go_wp2_with fail
  refine HC.out.mono ?_
  rintro e w1 ⟨rfl, hb1⟩
  go_wp2_with fail
  refine (pagesOf_any A n c xs each _ (H.below hb1) n2 HT.out HE.out).mono ?_
  rintro e w2 ⟨A', c', rfl, HP, hb2⟩
  have hb12 := bw_trans hb1 hb2
  have hlen := pgL_len xs each n
  rw [hlen] at HP ⊢
  have HPP := Lib.hid HP
  clear HC hb1 hb2 HP hlen
  go_wp2_with fail
  go_loopg [7, 20] n (fun gh s x wr => ∃ k : Nat, k ≤ n ∧ gh = n - k ∧ s = .string (bkS xs each k) ∧ x = .int .i64 k ∧ Below w2.heap.size w2 wr)
  case atStart => exact ⟨0, by omega, by omega, rfl, rfl, Below.refl _ _⟩
  case round =>
    obtain ⟨k, hk, rfl, rfl, rfl, hbr⟩ := hrel
    by_cases hlt : k < n
    · obtain ⟨b1, o1, rfl, hl1, hc1⟩ := (HPP.out.below hbr).get hlt
      rw [pgL_at hlt] at hc1
      obtain ⟨b2, o2, rfl, hl2, hd0, hd1⟩ := (H.below (bw_trans hb12 hbr)).get hlt
      have hp := pgN_bd (HT.out k hlt) HE.out.1
      have ho := HO.out k hlt
      have HS := Lib.hid (bk_succ xs each k)
      have hbd := bkS_bd HO.out HT.out HE.out.1 (show k ≤ n by omega)
      have HBD := Lib.hid hbd
      have i1 : (k : Int) < (n : Int) := by omega
      obtain ⟨q, hq⟩ : ∃ q : Nat, pgN (xs.getD k ScE.zero).f1 each = (q : Int) := ⟨(pgN (xs.getD k ScE.zero).f1 each).toNat, by omega⟩
      rw [hq] at hc1 hp HS
      rw [Int.toNat_natCast] at HS
      clear hq H HPP HT HE HR hbd
      generalize (xs.getD k ScE.zero).f0 = s at *
      generalize (xs.getD k ScE.zero).f1 = t at *
      have HRP := Lib.hid (fun W => repeat_any s q W ho (by omega))
      have hsz : (bkS xs each k).size + (rpS s q).size ≤ 100000 := by
        have h1 := HBD.out
        rw [rp_size, ho]; omega
      generalize bkS xs each k = T at *
      go_wp2_with fail
      refine (HRP.out _).mono ?_
      rintro e w3 ⟨rfl, hb3⟩
      generalize rpS s q = U at *
      go_wp2_with fail
      go_roundg (n - (k + 1))
      case rel => exact ⟨k + 1, by omega, rfl, by rw [HS.out], by go_num, bw_trans hbr hb3⟩
      case measure => omega
    · have hkk : k = n := by omega
      subst hkk
      clear H HPP
      go_wp2
      go_ret2
      exact ⟨by rw [HR.out.1, HR.out.2] <;> rfl, bw_trans hb12 hbr⟩

set_option maxRecDepth 100000 in
set_option maxHeartbeats 1600000 in
theorem sBookFor_any (A : Option Addr) (n c : Nat) (xs : List ScE) (each : Int) (w : World) (H : SlSc w A n xs) (hn : n ≤ 1048576) (hz : ∀ k, k < n → (xs.getD k ScE.zero).f0.size ≤ 9223372036854775807) :
    Calls Try.prog 33 #[.slice A n c, .int .i64 each] w fun e w' => e = .returned (.tuple #[.string (bfS xs n each), .int .i64 (bkC xs n each)]) ∧ Below w.heap.size w w' := by
  have HC := Lib.hid (l08Code_any A n c xs each w H hn hz)
  clear hz
  by_cases h : bkC xs n each = 0
  case neg =>
    have HR := Lib.hid (bf_no h)
    have hC : (bkC xs n each != 0) = true := by simpa using h
    clear H
    generalize bkC xs n each = C at *
    go_enter Try.func33, Try.ntmps33
    go_wp2_with fail
    refine HC.out.mono ?_
    rintro e w1 ⟨rfl, hb1⟩
    go_wp2
    go_ret2
    exact ⟨by rw [HR.out]; rfl, hb1⟩
  have HR := Lib.hid (And.intro (bf_yes h) h)
  obtain ⟨h1, h2, h3⟩ := bk_ok h
  obtain ⟨hok, n1, n2⟩ := vs_of h1
  have HT := Lib.hid (tk_of hok)
  have HE := Lib.hid (inB_true.1 h2)
  have HO := Lib.hid (one_of hok)
  clear h1 h2 hok
  rw [h] at HC
  clear h
  go_enter Try.func33, Try.ntmps33
  go_wp2_with fail
  refine HC.out.mono ?_
  rintro e w2 ⟨rfl, hb12⟩
  clear HC
  go_wp2_with fail
  go_loopg [7, 8] n (fun gh s x wr => ∃ k : Nat, k ≤ n ∧ gh = n - k ∧ s = .string (bkS xs each k) ∧ x = .int .i64 k ∧ Below w2.heap.size w2 wr)
  case atStart => exact ⟨0, by omega, by omega, rfl, rfl, Below.refl _ _⟩
  case round =>
    obtain ⟨k, hk, rfl, rfl, rfl, hbr⟩ := hrel
    by_cases hlt : k < n
    · obtain ⟨b2, o2, rfl, hl2, hd0, hd1⟩ := (H.below (bw_trans hb12 hbr)).get hlt
      have hp := pgN_bd (HT.out k hlt) HE.out.1
      have ho := HO.out k hlt
      have HS := Lib.hid (bk_succ xs each k)
      have HBD := Lib.hid (bkS_bd HO.out HT.out HE.out.1 (show k ≤ n by omega))
      have HCO := Lib.hid (fun W => l08Count_any (xs.getD k ScE.zero).f0 (xs.getD k ScE.zero).f1 each W (HT.out k hlt) HE.out)
      have i1 : (k : Int) < (n : Int) := by omega
      obtain ⟨q, hq⟩ : ∃ q : Nat, pgN (xs.getD k ScE.zero).f1 each = (q : Int) := ⟨(pgN (xs.getD k ScE.zero).f1 each).toNat, by omega⟩
      rw [hq] at hp HS HCO
      rw [Int.toNat_natCast] at HS
      clear hq H HT HE HR
      generalize (xs.getD k ScE.zero).f0 = s at *
      generalize (xs.getD k ScE.zero).f1 = t at *
      generalize bkS xs each k = T at *
      go_wp2_with fail
      refine (HCO.out _).mono ?_
      rintro e w3 ⟨rfl, hb3⟩
      have hbr3 := bw_trans hbr hb3
      have he0 := cell_of hb3 hd0
      clear hd0 hd1 HCO hb3
      go_wp2_with fail
      go_loopg [7, 9] q (fun gi v y wq => ∃ j : Nat, j ≤ q ∧ gi = q - j ∧ v = .string (T ++ rpS s j) ∧ y = .int .i64 ((q : Int) - (j : Int)) ∧ w3 = wq)
      case atStart => exact ⟨0, by omega, by omega, by rw [show rpS s 0 = ⟨#[]⟩ from rfl, ba_nil], by simp, rfl⟩
      case round =>
        obtain ⟨j, hj, rfl, rfl, rfl, rfl⟩ := hrel
        by_cases hjq : j < q
        · have hsz : (T ++ rpS s j).size + s.size ≤ 100000 := by
            have h1 := HBD.out
            rw [ByteArray.size_append, rp_size, ho]; omega
          have HJ := Lib.hid (show T ++ rpS s (j + 1) = T ++ rpS s j ++ s by rw [rp_succ, ba_assoc])
          have hpos : 0 < (q : Int) - (j : Int) := by omega
          generalize T ++ rpS s j = U at *
          go_wp2_with fail
          go_roundg (q - (j + 1))
          case rel => exact ⟨j + 1, by omega, rfl, by rw [HJ.out], by go_num, rfl⟩
          case measure => omega
        · have hjj : j = q := by omega
          subst hjj
          rw [← HS.out]
          have hz0 : (j : Int) - (j : Int) = 0 := by omega
          rw [hz0]
          go_wp2_with fail
          go_roundg (n - (k + 1))
          case rel => exact ⟨k + 1, by omega, rfl, rfl, by go_num, hbr3⟩
          case measure => omega
    · have hkk : k = n := by omega
      subst hkk
      clear H
      go_wp2
      go_ret2
      exact ⟨by rw [HR.out.1, HR.out.2] <;> rfl, bw_trans hb12 hbr⟩

set_option maxRecDepth 100000 in
set_option maxHeartbeats 800000 in
theorem law_BookFor (a : Option Addr) (l c : Nat) (xs : List ScE) (each : Int) (w : World) (hm : l ≤ 9223372036854775807) (H0 : SlSc w a l xs) (hz : ∀ k, k < l → (xs.getD k ScE.zero).f0.size ≤ 9223372036854775807) :
    Calls Try.prog 11 #[.slice a l c, .int .i64 each] w fun e w' => e = .returned (.bool true) ∧ Below w.heap.size w w' := by
  by_cases hn : l ≤ 1048576
  · have HZ := Lib.hid hz
    have hsz := Scsz_any a l c xs w H0 hn hz
    clear hz
    by_cases hneg : szR xs l < 0
    · generalize szR xs l = r at *
      clear H0
      go_enter Try.func11, Try.ntmps11
      go_wp2_with fail
      refine hsz.mono ?_
      rintro e w0 ⟨rfl, hB0⟩
      go_wp2
      go_ret
      exact ⟨rfl, hB0⟩
    generalize szR xs l = r at *
    go_enter Try.func11, Try.ntmps11
    go_wp2_with fail
    refine hsz.mono ?_
    rintro e w0 ⟨rfl, hB0⟩
    go_wp2_with fail
    refine (SctoS_any a l c xs _ (H0.below hB0) hn).mono ?_
    rintro e w1 ⟨rfl, HS, hb1⟩
    have hB1 := bw_trans hB0 hb1
    clear hb1
    go_wp2_with fail
    refine (sBookFor_any  _ _ _ xs each _ HS hn HZ.out).mono ?_
    rintro e w2 ⟨rfl, hb2⟩
    have hB2 := bw_trans hB1 hb2
    clear hb2 HS
    go_wp2_with fail
    refine (SctoS_any a l c xs _ (H0.below hB2) hn).mono ?_
    rintro e w3 ⟨rfl, HM, hb3⟩
    have hB3 := bw_trans hB2 hb3
    clear hb3
    go_wp2_with fail
    refine (iBookFor_any  _ _ _ xs each _ HM hn HZ.out).mono ?_
    rintro e w4 ⟨rfl, hb4⟩
    have hB4 := bw_trans hB3 hb4
    have HM4 := HM.below hb4
    clear hb4 HM
    go_wp2_with fail
    refine (SctoS_any a l c xs _ (H0.below hB4) hn).mono ?_
    rintro e w5 ⟨rfl, HQ, hb5⟩
    have HM5 := HM4.below hb5
    have hB5 := bw_trans hB4 hb5
    clear hb5 HM4
    go_wp2_with fail
    refine (SceqS_any _ _ _ _ _ xs _ HM5 HQ hn).mono ?_
    rintro e w6 ⟨rfl, hb6⟩
    clear HM5 HQ H0
    go_wp2
    go_ret
    exact ⟨rfl, bw_trans hB5 hb6⟩
  · clear H0 hz
    go_enter Try.func11, Try.ntmps11
    go_wp2_with fail
    refine (ScszNo_any a l c _ hm hn).mono ?_
    rintro e w0 ⟨rfl, hB0⟩
    go_wp2
    go_ret
    exact ⟨rfl, hB0⟩
end Go.Proofs.Ytnjndlngkoadfaa
