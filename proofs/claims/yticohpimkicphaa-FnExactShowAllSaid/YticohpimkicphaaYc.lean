/-
  Slides: ValidSlide, places and bars in the reference and in the program.
-/
import Derived.Test.YticohpimkicphaaYb
import Derived.Deep.LoopGhost
namespace Go.Proofs.Yticohpimkicphaa
open Go.RowKit

/-- A slide that a pointer to the block g reads. -/
def SdP (w : World) (g : Nat) (A : Option Addr) (n c : Nat) (ss : List Int) (B : Option Addr) (m d : Nat) (bs : List BrE) : Prop :=
  w.cell? ⟨g, 0, none⟩ = some (.slice A n c) ∧ w.cell? ⟨g, 1, none⟩ = some (.slice B m d) ∧ SlI w A n ss ∧ SlBr w B m bs ∧ g < w.heap.size
theorem SdP.below {w w' : World} {g : Nat} {A : Option Addr} {n c : Nat} {ss : List Int} {B : Option Addr} {m d : Nat} {bs : List BrE} (h : SdP w g A n c ss B m d bs) (hb : Below w.heap.size w w') : SdP w' g A n c ss B m d bs :=
  ⟨cell_of hb h.1, cell_of hb h.2.1, h.2.2.1.below hb, h.2.2.2.1.below hb, Nat.lt_of_lt_of_le h.2.2.2.2 hb.size⟩
theorem bd_yes {ss : List Int} {n : Nat} {y : BrE} (h : ¬ ((0 ≤ y.f0 ∧ y.f0 < y.f2 ∧ y.f2 < n) ∧ (0 ≤ y.f1 ∧ y.f1 < ss.getD y.f0.toNat 0) ∧ (0 ≤ y.f3 ∧ y.f3 < ss.getD y.f2.toNat 0))) : bdB ss n y = true := by
  cases hb : bdB ss n y
  · exact absurd (bd_ok hb) h
  · rfl
theorem bd_no {ss : List Int} {n : Nat} {y : BrE} (h : (0 ≤ y.f0 ∧ y.f0 < y.f2 ∧ y.f2 < n) ∧ (0 ≤ y.f1 ∧ y.f1 < ss.getD y.f0.toNat 0) ∧ (0 ≤ y.f3 ∧ y.f3 < ss.getD y.f2.toNat 0)) : bdB ss n y = false := by
  unfold bdB
  rw [inB_of (by omega) (by omega), inB_of (by omega) (by omega), inB_of (by omega) (by omega), inB_of (by omega) (by omega)]
  rfl
theorem inB_no {n lo hi : Int} (h : inB n lo hi = false) : ¬ (lo ≤ n ∧ n ≤ hi) := fun hh => by rw [inB_of hh.1 hh.2] at h; cases h

set_option maxRecDepth 100000 in
set_option maxHeartbeats 3200000 in
theorem l13Ok_any (g : Nat) (A : Option Addr) (n c : Nat) (ss : List Int) (B : Option Addr) (m d : Nat) (bs : List BrE) (w : World) (HD : SdP w g A n c ss B m d bs) (hn : n ≤ 1048576) (hm : m ≤ 1048576) :
    Calls Try.prog 40 #[.pointer (some ⟨g, 0, none⟩)] w fun e w' => e = .returned (.bool (vsB ss n bs m)) ∧ Below w.heap.size w w' := by
  obtain ⟨R, hR⟩ : ∃ R, vsB ss n bs m = R := ⟨_, rfl⟩
  rw [hR]
  unfold vsB at hR
  have HLS := Lib.hid HD.2.2.1.length
  have HLB := Lib.hid HD.2.2.2.1.1
  have hc0 := HD.1
  have hc1 := HD.2.1
  have hg := HD.2.2.2.2
  cases h1 : inB (n : Int) 1 4
  · have hr : stOk ss n = false := by unfold stOk; rw [h1]; rfl
    rw [hr] at hR
    obtain rfl : R = false := hR.symm
    clear HD hr hR
    go_enter Try.func40, Try.ntmps40
    go_wp2_with (go_at_call 62; refine (l00In_is h1 _).mono ?_; rintro e w1 ⟨rfl, rfl⟩)
    go_ret
    exact ⟨rfl, Below.refl _ _⟩
  obtain ⟨n1, n4⟩ := inB_true.1 h1
  by_cases hm8 : (m : Int) ≤ 8
  case neg =>
    rw [decide_eq_false hm8] at hR
    obtain rfl : R = false := by rw [← hR]; simp
    have hm8' : 8 < (m : Int) := by omega
    clear HD hR
    go_enter Try.func40, Try.ntmps40
    go_wp2_with (go_at_call 62; refine (l00In_is h1 _).mono ?_; rintro e w1 ⟨rfl, rfl⟩)
    go_ret
    exact ⟨rfl, Below.refl _ _⟩
  have hm8' : ¬ (8 < (m : Int)) := by omega
  rw [decide_eq_true hm8, Bool.true_and] at hR
  have HR := Lib.hid hR
  have HIN := Lib.hid h1
  clear hR
  go_enter Try.func40, Try.ntmps40
  go_wp2_with (go_at_call 62; refine (l00In_is h1 _).mono ?_; rintro e w1 ⟨rfl, rfl⟩)
  clear h1
  go_loopg [4] n (fun gh x wr => ∃ k : Nat, k ≤ n ∧ gh = n - k ∧ x = .int .i64 k ∧ Hid (∀ j, j < k → notSt (ss.getD j 0) = false) ∧ w = wr)
  case atStart => exact ⟨0, by omega, by omega, rfl, fun j hj => absurd hj (by omega), rfl⟩
  case round =>
    obtain ⟨k, hk, rfl, rfl, hno, rfl⟩ := hrel
    by_cases hlt : k < n
    · obtain ⟨b', off, rfl, hbl, hc⟩ := HD.2.2.1.get hlt
      have i1 : (k : Int) < (n : Int) := by omega
      cases hp0 : isSt (ss.getD k 0)
      · have hp : inB (ss.getD k 0) 1 4 = false := hp0
        have hbad : R = false := by
          have h1 : notSt (ss.getD k 0) = true := by unfold notSt; rw [hp0]; rfl
          have h2 := any_true (by rw [HLS.out]; exact hlt) h1
          rw [← HR.out]; unfold stOk; rw [h2]; simp
        subst hbad
        clear HD HR hp0
        generalize ss.getD k 0 = x at *
        go_wp2_with (go_at_call 62; refine (l00In_is hp _).mono ?_; rintro e w1 ⟨rfl, rfl⟩)
        go_ret
        exact ⟨rfl, Below.refl _ _⟩
      · have hp : inB (ss.getD k 0) 1 4 = true := hp0
        have hn' : ∀ j, j < k + 1 → notSt (ss.getD j 0) = false := fun j hj => by
          rcases Nat.lt_or_ge j k with h | h
          · exact hno.out j h
          · have : j = k := by omega
            subst this; unfold notSt; rw [hp0]; rfl
        have HN := Lib.hid hn'
        clear hn' HD hp0
        generalize ss.getD k 0 = x at hc hp
        go_wp2_with (go_at_call 62; refine (l00In_is hp _).mono ?_; rintro e w1 ⟨rfl, rfl⟩)
        go_roundg (n - (k + 1))
        case rel => exact ⟨k + 1, by omega, rfl, by go_num, HN.out, rfl⟩
        case measure => omega
    have hkn : k = n := by omega
    subst hkn
    have hst : stOk ss k = true := by
      have h2 := any_false (p := notSt) (xs := ss) (fun j hj => hno.out j (by rw [← HLS.out]; exact hj))
      unfold stOk; rw [HIN.out, h2]; rfl
    have HST := Lib.hid (st_at HLS.out hst).2.2
    have hR1 := HR.out
    rw [hst, Bool.true_and] at hR1
    have HR1 := Lib.hid hR1
    clear hst hR1 HR hno hlt hk HIN
    go_wp2_with fail
    go_loopg [5] m (fun gh x wr => ∃ j : Nat, j ≤ m ∧ gh = m - j ∧ x = .int .i64 j ∧ Hid (∀ i, i < j → bdB ss k (bs.getD i BrE.zero) = false) ∧ Below w.heap.size w wr)
    case atStart => exact ⟨0, by omega, by omega, rfl, fun j hj => absurd hj (by omega), Below.refl _ _⟩
    case round =>
      obtain ⟨j, hj, rfl, rfl, hno, hbr⟩ := hrel
      by_cases hlt : j < m
      · obtain ⟨q0, q1, q2, q3, q4⟩ := HD.below hbr
        have hbad := fun (h : bdB ss k (bs.getD j BrE.zero) = true) => (show R = false by
          rw [← HR1.out, gany_true (d := BrE.zero) (by rw [HLB.out]; exact hlt) h]; rfl)
        have hgood := fun (h : bdB ss k (bs.getD j BrE.zero) = false) => (fun i (hi : i < j + 1) => show bdB ss k (bs.getD i BrE.zero) = false by
          rcases Nat.lt_or_ge i j with h' | h'
          · exact hno.out i h'
          · have : i = j := by omega
            subst this; exact h)
        have HBAD := Lib.hid hbad
        have HGOOD := Lib.hid hgood
        clear hbad hgood
        obtain ⟨b', off, rfl, hbl, hd0, hd1, hd2, hd3⟩ := q3.get hlt
        have i1 : (j : Int) < (m : Int) := by omega
        have HBY := Lib.hid (@bd_yes ss k (bs.getD j BrE.zero))
        have HBN := Lib.hid (@bd_no ss k (bs.getD j BrE.zero))
        clear q3 HD hno HR1
        obtain ⟨y, hy⟩ : ∃ y, bs.getD j BrE.zero = y := ⟨_, rfl⟩
        rw [hy] at HBAD HGOOD HBY HBN hd0 hd1 hd2 hd3
        clear hy
        obtain ⟨a, x, b, z⟩ := y
        dsimp only at HBY HBN hd0 hd1 hd2 hd3
        cases h2 : inB b 1 ((k : Int) - 1)
        · have h2n := inB_no h2
          have hR := HBAD.out (HBY.out (by omega))
          subst hR
          clear HBAD HGOOD HBY HBN q2 HST
          go_wp2_with fail
          refine wp_region_bel (by kernel_rfl) (by kernel_rfl) ?_
          repeat (go_big_quiet_step (((go_at_call 62; exact calm_same (l00In_is (by assumption) _)))))
          refine wpQuiet_nil ?_
          intro w2 hw'
          obtain ⟨tq, hw''⟩ := hw'
          have hw2 := tq.2
          rw [← hw''] at hw2
          clear hw'' tq
          obtain ⟨hcw2, hfw2⟩ := bcell hw2
          try (have hzw2 : w.heap.size < w2.heap.size := by (have h := hw2.size; (try simp at h); omega))
          try (have hyw2 : w.heap.size + 1 < w2.heap.size := by (have h := hw2.size; (try simp at h); omega))
          try (have hxw2 : w.heap.size + 1 + 1 < w2.heap.size := by (have h := hw2.size; (try simp at h); omega))
          try (have hvw2 : w.heap.size + 1 + 1 + 1 < w2.heap.size := by (have h := hw2.size; (try simp at h); omega))
          go_wp2
          go_ret
          exact ⟨rfl, bw_trans (bw_alloc hbr _) hw2⟩
        obtain ⟨b1, b2⟩ := inB_true.1 h2
        cases h3 : inB a 0 (b - 1)
        · have h3n := inB_no h3
          have hR := HBAD.out (HBY.out (by omega))
          subst hR
          clear HBAD HGOOD HBY HBN q2 HST
          go_wp2_with fail
          refine wp_region_bel (by kernel_rfl) (by kernel_rfl) ?_
          repeat (go_big_quiet_step (((go_at_call 62; exact calm_same (l00In_is (by assumption) _)))))
          refine wpQuiet_nil ?_
          intro w2 hw'
          obtain ⟨tq, hw''⟩ := hw'
          have hw2 := tq.2
          rw [← hw''] at hw2
          clear hw'' tq
          obtain ⟨hcw2, hfw2⟩ := bcell hw2
          try (have hzw2 : w.heap.size < w2.heap.size := by (have h := hw2.size; (try simp at h); omega))
          try (have hyw2 : w.heap.size + 1 < w2.heap.size := by (have h := hw2.size; (try simp at h); omega))
          try (have hxw2 : w.heap.size + 1 + 1 < w2.heap.size := by (have h := hw2.size; (try simp at h); omega))
          try (have hvw2 : w.heap.size + 1 + 1 + 1 < w2.heap.size := by (have h := hw2.size; (try simp at h); omega))
          go_wp2
          go_ret
          exact ⟨rfl, bw_trans (bw_alloc hbr _) hw2⟩
        obtain ⟨a1, a2⟩ := inB_true.1 h3
        obtain ⟨J, rfl⟩ : ∃ J : Nat, a = (J : Int) := ⟨a.toNat, by omega⟩
        obtain ⟨K, rfl⟩ : ∃ K : Nat, b = (K : Int) := ⟨b.toNat, by omega⟩
        rw [Int.toNat_natCast, Int.toNat_natCast] at HBY HBN
        obtain ⟨r, off2, rfl, hbl1, hs1⟩ := q2.get (k := J) (by omega)
        obtain ⟨r', off2', e', hbl2, hs2⟩ := q2.get (k := K) (by omega)
        injection e' with e'
        injection e' with e1 e2
        subst e1; subst e2
        obtain ⟨s1, s2⟩ := HST.out J (by omega)
        obtain ⟨s3, s4⟩ := HST.out K (by omega)
        have i2 : (J : Int) < (k : Int) := by omega
        have i3 : (K : Int) < (k : Int) := by omega
        generalize ss.getD J 0 = S1 at *
        generalize ss.getD K 0 = S2 at *
        cases h4 : inB x 0 (S1 - 1)
        · have h4n := inB_no h4
          have hR := HBAD.out (HBY.out (by omega))
          subst hR
          clear HBAD HGOOD HBY HBN q2 HST
          go_wp2_with fail
          refine wp_region_bel (by kernel_rfl) (by kernel_rfl) ?_
          repeat (go_big_quiet_step (((go_at_call 62; exact calm_same (l00In_is (by assumption) _)))))
          refine wpQuiet_nil ?_
          intro w2 hw'
          obtain ⟨tq, hw''⟩ := hw'
          have hw2 := tq.2
          rw [← hw''] at hw2
          clear hw'' tq
          obtain ⟨hcw2, hfw2⟩ := bcell hw2
          try (have hzw2 : w.heap.size < w2.heap.size := by (have h := hw2.size; (try simp at h); omega))
          try (have hyw2 : w.heap.size + 1 < w2.heap.size := by (have h := hw2.size; (try simp at h); omega))
          try (have hxw2 : w.heap.size + 1 + 1 < w2.heap.size := by (have h := hw2.size; (try simp at h); omega))
          try (have hvw2 : w.heap.size + 1 + 1 + 1 < w2.heap.size := by (have h := hw2.size; (try simp at h); omega))
          go_wp2
          go_ret
          exact ⟨rfl, bw_trans (bw_alloc hbr _) hw2⟩
        cases h5 : inB z 0 (S2 - 1)
        · have h5n := inB_no h5
          have hR := HBAD.out (HBY.out (by omega))
          subst hR
          clear HBAD HGOOD HBY HBN q2 HST
          go_wp2_with fail
          refine wp_region_bel (by kernel_rfl) (by kernel_rfl) ?_
          repeat (go_big_quiet_step (((go_at_call 62; exact calm_same (l00In_is (by assumption) _)))))
          refine wpQuiet_nil ?_
          intro w2 hw'
          obtain ⟨tq, hw''⟩ := hw'
          have hw2 := tq.2
          rw [← hw''] at hw2
          clear hw'' tq
          obtain ⟨hcw2, hfw2⟩ := bcell hw2
          try (have hzw2 : w.heap.size < w2.heap.size := by (have h := hw2.size; (try simp at h); omega))
          try (have hyw2 : w.heap.size + 1 < w2.heap.size := by (have h := hw2.size; (try simp at h); omega))
          try (have hxw2 : w.heap.size + 1 + 1 < w2.heap.size := by (have h := hw2.size; (try simp at h); omega))
          try (have hvw2 : w.heap.size + 1 + 1 + 1 < w2.heap.size := by (have h := hw2.size; (try simp at h); omega))
          go_wp2
          go_ret
          exact ⟨rfl, bw_trans (bw_alloc hbr _) hw2⟩
        obtain ⟨x1, x2⟩ := inB_true.1 h4
        obtain ⟨z1, z2⟩ := inB_true.1 h5
        have HG := Lib.hid (HGOOD.out (HBN.out (by omega)))
        clear HBAD HGOOD HBY HBN q2 HST
        go_wp2_with fail
        refine wp_region_bel (by kernel_rfl) (by kernel_rfl) ?_
        repeat (go_big_quiet_step (((go_at_call 62; exact calm_same (l00In_is (by assumption) _)))))
        refine wpQuiet_nil ?_
        intro w2 hw'
        obtain ⟨tq, hw''⟩ := hw'
        have hw2 := tq.2
        rw [← hw''] at hw2
        clear hw'' tq
        obtain ⟨hcw2, hfw2⟩ := bcell hw2
        try (have hzw2 : w.heap.size < w2.heap.size := by (have h := hw2.size; (try simp at h); omega))
        try (have hyw2 : w.heap.size + 1 < w2.heap.size := by (have h := hw2.size; (try simp at h); omega))
        try (have hxw2 : w.heap.size + 1 + 1 < w2.heap.size := by (have h := hw2.size; (try simp at h); omega))
        try (have hvw2 : w.heap.size + 1 + 1 + 1 < w2.heap.size := by (have h := hw2.size; (try simp at h); omega))
        go_wp2_with fail
        go_roundg (m - (j + 1))
        case rel => exact ⟨j + 1, by omega, rfl, by go_num, HG.out, bw_trans (bw_alloc hbr _) hw2⟩
        case measure => omega
      · have hjm : j = m := by omega
        subst hjm
        obtain ⟨q0, q1, q2, q3, q4⟩ := HD.below hbr
        have hR2 := gany_false (d := BrE.zero) (p := bdB ss k) (xs := bs) (fun i hi => hno.out i (by rw [← HLB.out]; exact hi))
        have hR3 := HR1.out
        rw [hR2] at hR3
        obtain rfl : R = true := hR3.symm
        clear HD HR1 hR2 hR3 hno q2 q3
        go_wp2
        go_ret
        exact ⟨rfl, hbr⟩
end Go.Proofs.Yticohpimkicphaa
