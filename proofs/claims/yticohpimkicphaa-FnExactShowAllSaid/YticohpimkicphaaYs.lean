/-
  Slides: finding places among those that are reached, in the reference.
-/
import Derived.Test.YticohpimkicphaaYr
import Derived.Test.YticohpimkicphaaAny
namespace Go.Proofs.Yticohpimkicphaa
open Go.RowKit

theorem beq_no {xs ys : List Int} {k : Nat} (h : xs.getD k 0 ≠ ys.getD k 0) : (xs == ys) = false := by
  rw [beq_eq_false_iff_ne]
  intro e
  exact h (by rw [e])
theorem beq_all {xs ys : List Int} (hl : xs.length = ys.length) (h : ∀ j, j < xs.length → xs.getD j 0 = ys.getD j 0) : (xs == ys) = true := by
  rw [beq_iff_eq]
  apply List.ext_getElem hl
  intro j h1 h2
  have := h j h1
  rw [List.getD_eq_getElem?_getD, List.getD_eq_getElem?_getD, List.getElem?_eq_getElem h1, List.getElem?_eq_getElem h2] at this
  exact this

set_option maxHeartbeats 1600000 in
theorem l00Same_any (A B : Option Addr) (n c d : Nat) (xs ys : List Int) (w : World) (HA : SlI w A n xs) (HB : SlI w B n ys) (hn : n ≤ 1048576) :
    Calls Try.prog 67 #[.slice A n c, .slice B n d] w fun e w' => e = .returned (.bool (xs == ys)) ∧ Below w.heap.size w w' := by
  have HL := Lib.hid (And.intro HA.length HB.length)
  obtain ⟨R, hR⟩ : ∃ R, (xs == ys) = R := ⟨_, rfl⟩
  rw [hR]
  have HR := Lib.hid hR
  clear hR
  go_enter Try.func67, Try.ntmps67
  go_wp2_with fail
  go_loopw [5] (fun x wr => ∃ k : Nat, k ≤ n ∧ x = .int .i64 k ∧ Hid (∀ j, j < k → xs.getD j 0 = ys.getD j 0) ∧ Below w.heap.size w wr) (fun x _ => (n - (intOf x).toNat))
  case atStart => exact ⟨0, by omega, rfl, fun j hj => absurd hj (by omega), Below.refl _ _⟩
  case round =>
    obtain ⟨k, hk, rfl, hno, hbr⟩ := hrel
    by_cases hlt : k < n
    · obtain ⟨b, off, rfl, hbl, hc⟩ := (HA.below hbr).get hlt
      obtain ⟨b', off', rfl, hbl', hc'⟩ := (HB.below hbr).get hlt
      have hik : (k : Int) < (n : Int) := by omega
      clear HA HB
      by_cases hxy : xs.getD k 0 = ys.getD k 0
      · have HN : Hid (∀ j, j < k + 1 → xs.getD j 0 = ys.getD j 0) := fun j hj => by
          rcases Nat.lt_or_ge j k with h | h
          · exact hno.out j h
          · have : j = k := by omega
            subst this; exact hxy
        rw [← hxy] at hc'
        clear hxy
        generalize xs.getD k 0 = u at *
        go_wp2_with fail
        refine wp_region_bel (by kernel_rfl) (by kernel_rfl) ?_
        repeat (go_big_quiet_step ((fail)))
        refine wpQuiet_nil ?_
        intro w1 hw'
        obtain ⟨tq, hw''⟩ := hw'
        have hw1 := tq.2
        rw [← hw''] at hw1
        clear hw'' tq
        obtain ⟨hcw1, hfw1⟩ := bcell hw1
        try (have hzw1 : w.heap.size < w1.heap.size := by (have h := hw1.size; (try simp at h); omega))
        try (have hyw1 : w.heap.size + 1 < w1.heap.size := by (have h := hw1.size; (try simp at h); omega))
        try (have hxw1 : w.heap.size + 1 + 1 < w1.heap.size := by (have h := hw1.size; (try simp at h); omega))
        try (have hvw1 : w.heap.size + 1 + 1 + 1 < w1.heap.size := by (have h := hw1.size; (try simp at h); omega))
        go_wp2_with fail
        go_roundw
        case rel => exact ⟨k + 1, by omega, by go_num, HN, bw_trans hbr hw1⟩
        case measure => simp [intOf]; omega
      · have HF := Lib.hid (HR.out.symm.trans (beq_no hxy))
        generalize xs.getD k 0 = u at *
        generalize ys.getD k 0 = v at *
        have huv : (u != v) = true := by simpa using hxy
        clear hxy
        go_wp2_with fail
        refine wp_region_bel (by kernel_rfl) (by kernel_rfl) ?_
        repeat (go_big_quiet_step ((fail)))
        refine wpQuiet_nil ?_
        intro w1 hw'
        obtain ⟨tq, hw''⟩ := hw'
        have hw1 := tq.2
        rw [← hw''] at hw1
        clear hw'' tq
        obtain ⟨hcw1, hfw1⟩ := bcell hw1
        try (have hzw1 : w.heap.size < w1.heap.size := by (have h := hw1.size; (try simp at h); omega))
        try (have hyw1 : w.heap.size + 1 < w1.heap.size := by (have h := hw1.size; (try simp at h); omega))
        try (have hxw1 : w.heap.size + 1 + 1 < w1.heap.size := by (have h := hw1.size; (try simp at h); omega))
        try (have hvw1 : w.heap.size + 1 + 1 + 1 < w1.heap.size := by (have h := hw1.size; (try simp at h); omega))
        go_wp2_with fail
        go_ret
        exact ⟨ret_bool HF.out.symm, bw_trans hbr hw1⟩
    · have hkk : k = n := by omega
      subst hkk
      have HF := Lib.hid (HR.out.symm.trans (beq_all (by rw [HL.out.1, HL.out.2]) (fun j hj => hno.out j (by rw [← HL.out.1]; exact hj))))
      clear HA HB
      go_wp2
      go_ret
      exact ⟨ret_bool HF.out.symm, hbr⟩

/-- Which of those that are reached is q. -/
def fdI (all : List Nd) (q : List Int) : Int := gidx (fun y : Nd => y.pl == q) all
theorem fd_no {all : List Nd} {q : List Int} (h : hasN all q = false) : fdI all q = -1 := if_neg (by unfold hasN at h; rw [h]; simp)
theorem fd_yes {all : List Nd} {q : List Int} (h : hasN all q = true) : ∃ J : Nat, fdI all q = (J : Int) ∧ J < all.length ∧ (all.getD J Nd.zero).pl = q := by
  unfold hasN at h
  refine ⟨all.findIdx fun y : Nd => y.pl == q, if_pos h, ?_, ?_⟩
  · rw [List.findIdx_lt_length]
    obtain ⟨x, hx, hp⟩ := List.any_eq_true.1 h
    exact ⟨x, hx, hp⟩
  · have hlt : (all.findIdx fun y : Nd => y.pl == q) < all.length := by
      rw [List.findIdx_lt_length]
      obtain ⟨x, hx, hp⟩ := List.any_eq_true.1 h
      exact ⟨x, hx, hp⟩
    rw [List.getD_eq_getElem?_getD, List.getElem?_eq_getElem hlt]
    have := List.findIdx_getElem (w := hlt)
    simpa using this

set_option maxHeartbeats 1600000 in
theorem l13Find_any (A : Option Addr) (c : Nat) (all : List Nd) (P : Option Addr) (n e : Nat) (q : List Int) (w : World) (HW : SlW w A all) (HP : SlI w P n q) (hl : ∀ y ∈ all, y.pl.length = n) (hn : n ≤ 4) (h256 : all.length ≤ 256) :
    Calls Try.prog 44 #[.slice A all.length c, .slice P n e] w fun e w' => e = .returned (.int .i64 (fdI all q)) ∧ Below w.heap.size w w' := by
  have HSM := Lib.hid (fun (A' : Option Addr) (c' : Nat) (xs : List Int) W (hW : Below w.heap.size w W) (h : SlI W A' n xs) => l00Same_any A' P n c' e xs q W h (HP.below hW) (by omega))
  have HLN := Lib.hid (fun j (hj : j < all.length) => hl _ (getD_in hj))
  have HWW := Lib.hid (fun W (hW : Below w.heap.size w W) => HW.below hW)
  clear HW HP hl
  go_enter Try.func44, Try.ntmps44
  go_wp2_with fail
  go_loopw [5] (fun x wr => ∃ k : Nat, k ≤ all.length ∧ x = .int .i64 k ∧ Hid (∀ j, j < k → ((fun y : Nd => y.pl == q) (all.getD j Nd.zero)) = false) ∧ Below w.heap.size w wr) (fun x _ => (all.length - (intOf x).toNat))
  case atStart => exact ⟨0, by omega, rfl, fun j hj => absurd hj (by omega), Below.refl _ _⟩
  case round =>
    obtain ⟨k, hk, rfl, hno, hbr⟩ := hrel
    by_cases hlt : k < all.length
    · obtain ⟨b, off, rfl, hbl, hcs⟩ := HWW.out _ hbr
      obtain ⟨⟨A', c', hc, hs⟩, -, -, -⟩ := hcs k hlt
      rw [HLN.out k hlt] at hc hs
      have HK := Lib.hid (HSM.out A' c' (all.getD k Nd.zero).pl _ hbr hs)
      have hik : (k : Int) < (all.length : Int) := by omega
      clear hcs hs HSM
      obtain ⟨R, hR⟩ : ∃ R, ((all.getD k Nd.zero).pl == q) = R := ⟨_, rfl⟩
      rw [hR] at HK
      cases R
      · have HN : Hid (∀ j, j < k + 1 → ((fun y : Nd => y.pl == q) (all.getD j Nd.zero)) = false) := fun j hj => by
          rcases Nat.lt_or_ge j k with h | h
          · exact hno.out j h
          · have : j = k := by omega
            subst this; exact hR
        clear hR
        go_wp2_with fail
        refine HK.out.mono ?_
        rintro e w1 ⟨rfl, hb1⟩
        go_wp2_with fail
        go_roundw
        case rel => exact ⟨k + 1, by omega, by go_num, HN, bw_trans hbr hb1⟩
        case measure => simp [intOf]; omega
      · have HF := Lib.hid (gidx_at (p := fun y : Nd => y.pl == q) (d := Nd.zero) hlt hR hno.out)
        clear hR
        go_wp2_with fail
        refine HK.out.mono ?_
        rintro e w1 ⟨rfl, hb1⟩
        go_wp2
        go_ret
        exact ⟨ret_int HF.out.symm, bw_trans hbr hb1⟩
    · have hkk : k = all.length := by omega
      have HF := Lib.hid (gidx_none (p := fun y : Nd => y.pl == q) (d := Nd.zero) (xs := all) (fun j hj => hno.out j (by omega)))
      have hik : ¬ ((k : Int) < (all.length : Int)) := by omega
      clear hkk HSM
      go_wp2
      go_ret
      exact ⟨ret_int HF.out.symm, hbr⟩
end Go.Proofs.Yticohpimkicphaa
