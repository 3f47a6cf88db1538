/-
  ScenesOf: the law's marks over scenes; the law.
-/
import Derived.Test.YtnjndlngkoadfaaPo
namespace Go.Proofs.Ytnjndlngkoadfaa
open Go.RowKit

/-- The marks over the first k scenes. -/
def mkZ (k0 : Nat) (xs : List ScE) (k : Nat) : List ScE := (List.range xs.length).map fun i : Nat => if i < k then ⟨mtS (k0 + 2 * i), ((k0 + 2 * i + 1 : Nat) : Int)⟩ else xs.getD i ScE.zero
theorem mkZ_len (k0 : Nat) (xs : List ScE) (k : Nat) : (mkZ k0 xs k).length = xs.length := by simp [mkZ]
theorem mkZ_zero (k0 : Nat) (xs : List ScE) : mkZ k0 xs 0 = xs := by
  apply List.ext_getElem
  · simp [mkZ]
  · intro i h1 h2
    simp only [mkZ, List.getElem_map, List.getElem_range, Nat.not_lt_zero, if_false]
    simp [List.getD_eq_getElem?_getD, h2]
theorem mkZ_at {k0 : Nat} {xs : List ScE} {k i : Nat} (hi : i < k) (hx : i < xs.length) : (mkZ k0 xs k).getD i ScE.zero = ⟨mtS (k0 + 2 * i), ((k0 + 2 * i + 1 : Nat) : Int)⟩ := by
  simp [mkZ, List.getD_eq_getElem?_getD, hx, hi]
theorem mkZ_set (k0 : Nat) (xs : List ScE) {k : Nat} : (mkZ k0 xs k).set k ⟨mtS (k0 + 2 * k), ((k0 + 2 * k + 1 : Nat) : Int)⟩ = mkZ k0 xs (k + 1) := by
  apply List.ext_getElem
  · simp [mkZ]
  · intro i h1 h2
    rw [List.getElem_set]
    simp only [mkZ, List.getElem_map, List.getElem_range]
    by_cases h : k = i
    · subst h; simp
    · rw [if_neg h]
      by_cases h3 : i < k
      · rw [if_pos h3, if_pos (by omega)]
      · rw [if_neg h3, if_neg (by omega)]

set_option maxRecDepth 100000 in
set_option maxHeartbeats 1600000 in
theorem markSc_any (A : Option Addr) (n c B : Nat) (k0 : Nat) (xs : List ScE) (w : World) (H : OwnSc w B (.slice A n c) xs) (hn : n ≤ 1048576) (hk0 : 1 ≤ k0 ∧ k0 ≤ 1000000) (hB : B ≤ w.heap.size) :
    Calls Try.prog 27 #[.slice A n c, .int .i64 (k0 : Int)] w fun e w' => e = .returned (.int .i64 ((k0 + 2 * n : Nat) : Int)) ∧ OwnSc w' B (.slice A n c) (mkZ k0 xs xs.length) ∧ Below B w w' := by
  obtain ⟨rfl, -⟩ := H.sl
  obtain ⟨hk1, hk2⟩ := hk0
  have HH := Lib.hid H
  have HX := Lib.hid (mkZ_zero k0 xs)
  clear H
  go_enter Try.func27, Try.ntmps27
  go_wp2_with fail
  go_loopg [1, 5] xs.length (fun gh x y wr => ∃ k : Nat, k ≤ xs.length ∧ gh = xs.length - k ∧ x = .int .i64 ((k0 + 2 * k : Nat) : Int) ∧ y = .int .i64 k ∧ OwnSc wr B (.slice A xs.length c) (mkZ k0 xs k) ∧ Below B w wr)
  case atStart => exact ⟨0, by omega, by omega, by simp, rfl, by rw [HX.out]; exact HH.out, Below.refl _ _⟩
  case round =>
    obtain ⟨k, hk, rfl, rfl, rfl, hown, hbr⟩ := hrel
    have hlen := mkZ_len k0 xs k
    have HO := Lib.hid hown
    clear hown
    by_cases hlt : k < xs.length
    · obtain ⟨K, hK⟩ : ∃ K : Nat, k0 + 2 * k = K := ⟨_, rfl⟩
      have HS := Lib.hid (mkZ_set k0 xs (k := k))
      rw [hK] at HS ⊢
      have HM := Lib.hid (fun W => markText_any K W ⟨by omega, by omega⟩)
      have i1 : (k : Int) < (xs.length : Int) := by omega
      clear HX HH
      go_wp2_with fail
      refine (HM.out _).mono ?_
      rintro e w1 ⟨rfl, hb1⟩
      have hO1 := HO.out.below hb1
      have hl2 := mkZ_len k0 xs k
      generalize mkZ k0 xs k = ys at *
      obtain ⟨g, rfl, hBg, hnl, c0, c1, hf, -, p2⟩ := hO1.put (k := k) (by omega)
      have hO2 := p2 (mtS K)
      obtain ⟨g', e', -, -, -, d1, -, p1, -⟩ := hO2.put (k := k) (by rw [List.length_set]; omega)
      injection e' with e'
      injection e' with e'
      subst e'
      have hO3 := p1 ((K + 1 : Nat) : Int)
      have hf0 := hf (k * 2)
      have hf1 := hf (k * 2 + 1)
      have hg : g < w1.heap.size := World.block_lt_of_cell? w1 _ c0
      have hys : ∀ (u : ScE), (ys.set k u).getD k ScE.zero = u := fun u => by
        rw [List.getD_eq_getElem?_getD, List.getElem?_set, if_pos rfl, if_pos (by omega)]; rfl
      rw [hys] at d1 hO3
      rw [List.set_set] at hO3
      have hset : ys.set k ⟨mtS K, ((K + 1 : Nat) : Int)⟩ = mkZ k0 xs (k + 1) := HS.out
      dsimp only at hO3
      rw [hset] at hO3
      have hcast : ((K + 1 : Nat) : Int) = (K : Int) + 1 := by omega
      rw [hcast] at hO3
      have HP := Lib.hid hO3
      have hbz := bw_from hbr (hb1.mono (B' := B) (Nat.le_trans hB hbr.size))
      clear hnl hl2 hlen hcast hO1 hO2 hO3 p1 p2 hys hset HO HS HM hf
      generalize (ys.getD k ScE.zero).f1 = T at *
      generalize mtS K = S at *
      go_wp2_with fail
      go_roundg (xs.length - (k + 1))
      case rel => exact ⟨k + 1, by omega, rfl, by go_num, by go_num, HP.out, (hbz.setCell hBg _).setCell hBg _⟩
      case measure => omega
    · have hkk : k = xs.length := by omega
      subst hkk
      go_wp2
      go_ret
      exact ⟨rfl, HO.out, hbr⟩

set_option maxRecDepth 100000 in
set_option maxHeartbeats 1600000 in
theorem heldSc_any (A : Option Addr) (n c : Nat) (k0 : Nat) (ys xs : List ScE) (w : World) (H : SlSc w A n ys) (hy : ys = mkZ k0 xs xs.length) (hl : xs.length = n) (hn : n ≤ 1048576) (hk0 : 1 ≤ k0 ∧ k0 ≤ 1000000) :
    Calls Try.prog 28 #[.slice A n c, .int .i64 (k0 : Int)] w fun e w' => e = .returned (.int .i64 ((k0 + 2 * n : Nat) : Int)) ∧ Below w.heap.size w w' := by
  obtain ⟨hk1, hk2⟩ := hk0
  have HY := Lib.hid (And.intro hy hl)
  clear hy hl
  go_enter Try.func28, Try.ntmps28
  go_wp2_with fail
  go_loopg [1, 5] n (fun gh x y wr => ∃ k : Nat, k ≤ n ∧ gh = n - k ∧ x = .int .i64 ((k0 + 2 * k : Nat) : Int) ∧ y = .int .i64 k ∧ Below w.heap.size w wr)
  case atStart => exact ⟨0, by omega, by omega, by simp, rfl, Below.refl _ _⟩
  case round =>
    obtain ⟨k, hk, rfl, rfl, rfl, hbr⟩ := hrel
    by_cases hlt : k < n
    · obtain ⟨b, off, rfl, hbl, c0, c1⟩ := (H.below hbr).get hlt
      obtain ⟨K, hK⟩ : ∃ K : Nat, k0 + 2 * k = K := ⟨_, rfl⟩
      have hat : ys.getD k ScE.zero = ⟨mtS K, ((K + 1 : Nat) : Int)⟩ := by
        rw [HY.out.1, mkZ_at (by rw [HY.out.2]; exact hlt) (by rw [HY.out.2]; exact hlt), hK]
      rw [hat] at c0 c1
      rw [hK]
      have HM := Lib.hid (fun W => markText_any K W ⟨by omega, by omega⟩)
      have i1 : (k : Int) < (n : Int) := by omega
      have hcast : ((K + 1 : Nat) : Int) = (K : Int) + 1 := by omega
      dsimp only at c0 c1
      rw [hcast] at c1
      clear H hat hcast HY
      generalize mtS K = S at *
      go_wp2_with fail
      refine wp_region_bel (by kernel_rfl) (by kernel_rfl) ?_
      repeat (go_big_quiet_step (((go_at_call 50; exact calm_of (HM.out _)))))
      refine wpQuiet_nil ?_
      intro w2 hw'
      obtain ⟨tq, hw''⟩ := hw'
      have hw2 := tq.2
      rw [← hw''] at hw2
      clear hw'' tq
      obtain ⟨hcw2, hfw2⟩ := bcell hw2
      try (have hzw2 : w.heap.size < w2.heap.size := by (have h := hw2.size; (try simp at h); omega))
      try (have hyw2 : w.heap.size + 1 < w2.heap.size := by (have h := hw2.size; (try simp at h); omega))
      try (have hxw2 : w.heap.size + 1 + 1 < w2.heap.size := by (have h := hw2.size; (try simp at h); omega))
      try (have hvw2 : w.heap.size + 1 + 1 + 1 < w2.heap.size := by (have h := hw2.size; (try simp at h); omega))
      have c2 := cell_of hw2 c1
      have hbl2 := Nat.lt_of_lt_of_le hbl hw2.size
      go_wp2_with fail
      go_roundg (n - (k + 1))
      case rel => exact ⟨k + 1, by omega, rfl, by go_num, by go_num, bw_trans hbr hw2⟩
      case measure => omega
    · have hkk : k = n := by omega
      subst hkk
      clear H
      go_wp2
      go_ret
      exact ⟨rfl, hbr⟩

theorem soL_facts {s : ByteArray} {e : Int} : (soL s e).length ≤ 60 := by
  cases h1 : lnB s 60
  · rw [(so_1 h1).2]; simp
  cases h2 : inB e 1 100
  · rw [(so_2 h1 h2).2]; simp
  have h60 := (lnB_of h1).2.2
  cases h3 : vsB (scP s e s.size) (scP s e s.size).length
  · rw [(so_5 h1 h2 h3).2]; simp
  · rw [(so_0 h1 h2 h3).2]
    have := scP_len s e s.size
    omega

set_option maxRecDepth 100000 in
set_option maxHeartbeats 3200000 in
theorem law_ScenesOf (s : ByteArray) (e : Int) (w : World) (hm : s.size ≤ 9223372036854775807) :
    Calls Try.prog 8 #[.string s, .int .i64 e] w fun en w' => en = .returned (.bool true) ∧ Below w.heap.size w w' := by
  by_cases hn : s.size ≤ 1048576
  case neg =>
    have hni : ¬ ((s.size : Int) ≤ 1048576) := by omega
    go_enter Try.func8, Try.ntmps8
    go_wp2
    go_ret
    exact ⟨rfl, Below.refl _ _⟩
  have hni : (s.size : Int) ≤ 1048576 := by omega
  have HS := Lib.hid (fun W => sScenesOf_any s e W hn)
  have HI := Lib.hid (fun W => iScenesOf_any s e W hn)
  have hlen := soL_facts (s := s) (e := e)
  generalize soL s e = ys at *
  generalize soC s e = C at *
  have HZ := Lib.hid (mkZ_len 1 ys ys.length)
  go_enter Try.func8, Try.ntmps8
  go_wp2_with fail
  refine (HS.out _).mono ?_
  rintro e w1 ⟨V0, rfl, O0, hb1⟩
  obtain ⟨A0, c0, rfl⟩ := O0.form
  go_wp2_with fail
  refine (HI.out _).mono ?_
  rintro e w2 ⟨V1, rfl, O1, hb2⟩
  obtain ⟨A1, c1, rfl⟩ := O1.form
  have G1 := Lib.hid O0.sl.2
  have hB0 : w.heap.size ≤ w1.heap.size := hb1.size
  have hq2 := hb2
  have hbw2 := bw_trans hb1 hb2
  clear O0
  go_wp2_with fail
  refine (SceqS_any A1 A0 ys.length c1 c0 ys _ O1.sl.2 (G1.out.below hq2) (by omega)).mono ?_
  rintro e w3 ⟨rfl, hb3⟩
  have O3 := O1.below hb3
  have hq3 := bw_trans hq2 hb3
  have hbw3 := bw_trans hbw2 hb3
  clear O1 hb3 hbw2 hq2 hb2 hb1
  go_wp2_with fail
  refine (markSc_any A1 ys.length c1 w1.heap.size 1 ys _ O3 (by omega) ⟨by omega, by omega⟩ hq3.size).mono ?_
  rintro e w4 ⟨rfl, O4, hb4⟩
  have hq4 := bw_from hq3 hb4
  have hbw4 := bw_from hbw3 (hb4.mono hB0)
  have hS4 : ∀ W, Below w4.heap.size w4 W → SlSc W A1 ys.length (mkZ 1 ys ys.length) := fun W hW => by
    have h := (O4.below hW).sl.2
    rw [HZ.out] at h
    exact h
  have HS4 := Lib.hid hS4
  have hqn : ¬ (((1 + 2 * ys.length : Nat) : Int) < 0) := by omega
  have HQ4 := Lib.hid hq4
  clear O3 hq3 hbw3 hS4 O4 hb4 hq4
  obtain ⟨M, hM⟩ : ∃ M, 1 + 2 * ys.length = M := ⟨_, rfl⟩
  have hh := fun W (hW : Below w4.heap.size w4 W) => heldSc_any A1 ys.length c1 1 (mkZ 1 ys ys.length) ys W (HS4.out W hW) rfl rfl (by omega) ⟨by omega, by omega⟩
  rw [hM] at hh hqn ⊢
  have HH := Lib.hid hh
  clear hh hM
  go_wp2_with fail
  refine (HH.out _ (Below.refl _ _)).mono ?_
  rintro e w5 ⟨rfl, hb5⟩
  have hbw5 := bw_trans hbw4 hb5
  clear hbw4
  go_wp2_with fail
  refine (HI.out _).mono ?_
  rintro e w6 ⟨V6, rfl, O6, hb6⟩
  obtain ⟨A6, c6, rfl⟩ := O6.form
  have hb46 := bw_trans hb5 hb6
  have hbw6 := bw_trans hbw5 hb6
  clear hbw5 hb5 hb6
  go_wp2_with fail
  refine (SceqS_any A6 A0 ys.length c6 c0 ys _ O6.sl.2 (G1.out.below (bw_trans HQ4.out hb46)) (by omega)).mono ?_
  rintro e w7 ⟨rfl, hb7⟩
  have hb47 := bw_trans hb46 hb7
  have hbw7 := bw_trans hbw6 hb7
  clear hb46 hb7 hbw6 O6
  go_wp2_with fail
  refine (HH.out _ hb47).mono ?_
  rintro e w8 ⟨rfl, hb8⟩
  have hbw8 := bw_trans hbw7 hb8
  clear hbw7 hb8 hb47
  go_wp2
  go_ret
  exact ⟨rfl, hbw8⟩
end Go.Proofs.Ytnjndlngkoadfaa
