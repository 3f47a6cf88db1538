/-
  HallsLeft: in the program and in the reference.
-/
import Derived.Test.YthhilkahfgpncaaHq
namespace Go.Proofs.Ythhilkahfgpncaa
open Go.RowKit

def hlC (xs : List LhE) (n : Nat) (s : Int) (ys : List Int) (m : Nat) : Int := hcC (vhB xs n) s 1 ys m
def hlL (xs : List LhE) (n : Nat) (s : Int) (ys : List Int) (m : Nat) : List Int := if hlC xs n s ys m = 0 then selL (noS xs s ys) n else []
theorem hl_yes {xs : List LhE} {n : Nat} {s : Int} {ys : List Int} {m : Nat} (h : hlC xs n s ys m = 0) : hlL xs n s ys m = selL (noS xs s ys) n := if_pos h
theorem hl_no {xs : List LhE} {n : Nat} {s : Int} {ys : List Int} {m : Nat} (h : ¬ hlC xs n s ys m = 0) : hlL xs n s ys m = [] := if_neg h
theorem hl_len {xs : List LhE} {n : Nat} {s : Int} {ys : List Int} {m : Nat} (hn : n ≤ 1048576) : (hlL xs n s ys m).length ≤ 1048576 := by
  have := sel_len (noS xs s ys) n
  unfold hlL; split
  · omega
  · simp
theorem foAll_of {ys : List Int} (h : allFo ys = true) : foAll ys := fun _ hk => allFo_at h hk
theorem hl_ok {xs : List LhE} {n : Nat} {s : Int} {ys : List Int} {m : Nat} (hl : xs.length = n) (h : hlC xs n s ys m = 0) : n ≤ 8 ∧ m ≤ 12 ∧ hvAll xs n ∧ isSl s = true ∧ foAll ys := by
  obtain ⟨hv, hs, _, hlk⟩ := hc_zero h
  obtain ⟨m12, hall⟩ := lk_len hlk
  exact ⟨vh_le hv, m12, fun k hk => vh_at hv hl hk, hs, foAll_of hall⟩
theorem sel_full {xs : List LhE} {n : Nat} {s : Int} {ys : List Int} {m : Nat} (hl : ys.length = m) : selL (noF xs s ys (2 ^ m - 1) m) n = selL (noS xs s ys) n :=
  sel_congr fun i _ => by unfold noF noS; rw [fB_full _ _ _ _ hl]
theorem pow_bd {m : Nat} (hm : m ≤ 12) : 2 ^ m ≤ 4096 := Nat.pow_le_pow_right (n := 2) (by omega) hm
theorem wrap_pow {m : Nat} (hm : m ≤ 12) : wrap64 (wrap64 ((2 : Int) ^ m) - 1) = ((2 ^ m - 1 : Nat) : Int) := by
  have h := pow_bd hm
  have e : ((2 : Int) ^ m) = ((2 ^ m : Nat) : Int) := by simp
  have h0 : (0 : Int) ≤ ((2 ^ m : Nat) : Int) := Int.natCast_nonneg _
  have h1 := Nat.two_pow_pos m
  rw [e]
  unfold wrap64
  omega

set_option maxHeartbeats 800000 in
theorem iHallsLeft_any (A : Option Addr) (n c : Nat) (xs : List LhE) (s : Int) (B : Option Addr) (m d : Nat) (ys : List Int) (w : World) (H : SlLh w A n xs) (HY : SlI w B m ys) (hn : n ≤ 1048576) (hm : m ≤ 1048576) :
    Calls Try.prog 47 #[.slice A n c, .int .i64 s, .slice B m d] w (GivesIC (hlL xs n s ys m) (hlC xs n s ys m) w) := by
  have HV := Lib.hid (validLensHalls_is A n c xs w H hn rfl)
  have HK := Lib.hid (fun W hW => hallsCode_any (vhB xs n) s 1 B m d ys W (HY.below hW) hm)
  have HKC := Lib.hid (show hlC xs n s ys m = hcC (vhB xs n) s 1 ys m from rfl)
  by_cases hc : hlC xs n s ys m = 0
  case neg =>
    rw [hl_no hc]
    rw [← HKC.out] at HK
    have hce : (hlC xs n s ys m != 0) = true := by simpa using hc
    clear H HY HKC
    generalize hlC xs n s ys m = C at *
    generalize vhB xs n = V at *
    go_enter Try.func47, Try.ntmps47
    go_wp2_with fail
    refine HV.out.mono ?_
    rintro e w1 ⟨rfl, hb1⟩
    go_wp2_with fail
    refine (HK.out _ hb1).mono ?_
    rintro e w2 ⟨rfl, hb2⟩
    go_wp2
    go_ret2
    exact ⟨_, rfl, OwnI.nil _ _, bw_trans hb1 hb2⟩
  rw [hl_yes hc]
  obtain ⟨n8, m12, hv, hs, hf⟩ := hl_ok H.1 hc
  have HL := Lib.hid (fun W hW => hallsLeft_any A n c xs s B m d ys W (H.below hW) (HY.below hW) n8 m12 hv hs hf)
  rw [← HKC.out, hc] at HK
  rw [hc]
  clear hc hv hs hf H HY HKC
  go_enter Try.func47, Try.ntmps47
  go_wp2_with fail
  refine HV.out.mono ?_
  rintro e w1 ⟨rfl, hb1⟩
  go_wp2_with fail
  refine (HK.out _ hb1).mono ?_
  rintro e w2 ⟨rfl, hb2⟩
  have hb0 := bw_trans hb1 hb2
  go_wp2_with fail
  refine (HL.out _ hb0).mono ?_
  rintro e w3 ⟨v, rfl, hown, hb3⟩
  have HO := Lib.hid (hown.base hb0.size)
  clear hown
  obtain ⟨A', c', rfl⟩ := HO.out.form
  go_wp2
  go_ret2
  exact ⟨_, rfl, HO.out, bw_trans hb0 hb3⟩

set_option maxRecDepth 100000 in
set_option maxHeartbeats 800000 in
theorem sHallsLeft_any (A : Option Addr) (n c : Nat) (xs : List LhE) (s : Int) (B : Option Addr) (m d : Nat) (ys : List Int) (w : World) (H : SlLh w A n xs) (HY : SlI w B m ys) (hn : n ≤ 1048576) (hm : m ≤ 1048576) :
    Calls Try.prog 46 #[.slice A n c, .int .i64 s, .slice B m d] w (GivesIC (hlL xs n s ys m) (hlC xs n s ys m) w) := by
  have HK := Lib.hid (l11Code_any A n c xs s B m d ys w H HY hn hm)
  have HKC := Lib.hid (show hlC xs n s ys m = hcC (vhB xs n) s 1 ys m from rfl)
  rw [← HKC.out] at HK
  by_cases hc : hlC xs n s ys m = 0
  case neg =>
    rw [hl_no hc]
    have hce : (hlC xs n s ys m != 0) = true := by simpa using hc
    clear H HY HKC
    generalize hlC xs n s ys m = C at *
    go_enter Try.func46, Try.ntmps46
    go_wp2_with fail
    refine HK.out.mono ?_
    rintro e w1 ⟨rfl, hb1⟩
    go_wp2
    go_ret2
    exact ⟨_, rfl, OwnI.nil _ _, hb1⟩
  rw [hl_yes hc]
  obtain ⟨n8, m12, hv, hs, hf⟩ := hl_ok H.1 hc
  have hp := pow_bd m12
  have HL := Lib.hid (fun W hW => l11Left_any A n c xs s B m d ys (2 ^ m - 1) W (H.below hW) (HY.below hW) n8 m12 hv hs hf (by omega))
  rw [sel_full HY.length] at HL
  rw [hc] at HK
  rw [hc]
  have hwp := wrap_pow m12
  have HW := Lib.hid hwp
  clear hc hv hs hf H HY HKC hp hwp
  go_enter Try.func46, Try.ntmps46
  go_wp2_with fail
  refine HK.out.mono ?_
  rintro e w1 ⟨rfl, hb1⟩
  go_wp2_with fail
  rw [HW.out]
  refine (HL.out _ hb1).mono ?_
  rintro e w3 ⟨v, rfl, hown, hb3⟩
  have HO := Lib.hid (hown.base hb1.size)
  clear hown
  obtain ⟨A', c', rfl⟩ := HO.out.form
  go_wp2
  go_ret2
  exact ⟨_, rfl, HO.out, bw_trans hb1 hb3⟩
end Go.Proofs.Ythhilkahfgpncaa
