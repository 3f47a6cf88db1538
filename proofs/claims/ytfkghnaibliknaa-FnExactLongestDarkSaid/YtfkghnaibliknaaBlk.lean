/-
  LongestDark: in the program and in the reference; the law.
-/
import Derived.Test.YtfkghnaibliknaaBlj
import Derived.IntWalk
namespace Go.Proofs.Ytfkghnaibliknaa
open Go.RowKit

theorem ld_bd {m o : Int} (h : vBl m o = true) : (1 ≤ m ∧ m ≤ 12) ∧ (1 ≤ o ∧ o ≤ 999) := by
  obtain ⟨h1, h2, _⟩ := vBl_true.1 h
  exact ⟨h1, by omega⟩
set_option maxRecDepth 100000 in
set_option maxHeartbeats 2000000 in
theorem longestDark_any (m o n d : Int) (w : World) :
    Calls Try.prog 38 #[.agg #[.int .i64 m, .int .i64 o], .agg #[.int .i64 n, .int .i64 d]] w fun e w' => e = .returned (.tuple #[.agg #[.int .i64 (ldT m o n d).1, .int .i64 (ldT m o n d).2.1], .int .i64 (ldT m o n d).2.2]) ∧ Below w.heap.size w w' := by
  rcases rc_three (vBl m o) n d 1 with ⟨h1, _⟩ | ⟨h1, _⟩ | ⟨h1, h2, h3⟩
  case inl =>
    go_enter Try.func38, Try.ntmps38
    go_wp2_with fail
    refine wp_region_bel (by kernel_rfl) (by kernel_rfl) ?_
    repeat (go_big_quiet_step ((first | (go_at_call 16; exact calm_of (validBlades_any _ _ _)) | (go_at_call 51; exact calm_of (rateCode_is h1 _)))))
    refine wpQuiet_nil ?_
    intro w1 hw'
    obtain ⟨tq, hw''⟩ := hw'
    have hw1 := tq.2
    rw [← hw''] at hw1
    clear hw'' tq
    obtain ⟨hcw1, hfw1⟩ := bcell hw1
    try (have hzw1 : w.heap.size < w1.heap.size := by (have h := hw1.size; (try simp at h); omega))
    try (have hyw1 : w.heap.size + 1 < w1.heap.size := by (have h := hw1.size; (try simp at h); omega))
    try (have hxw1 : w.heap.size + 1 + 1 < w1.heap.size := by (have h := hw1.size; (try simp at h); omega))
    try (have hvw1 : w.heap.size + 1 + 1 + 1 < w1.heap.size := by (have h := hw1.size; (try simp at h); omega))
    go_wp2
    refine bodyPost_ret (v := .tuple #[.agg #[.int .i64 0, .int .i64 0], .int .i64 1]) (by simp [results, Try.results38, go_sem, *]) rfl ⟨by simp [ldT, h1], ?_⟩
    repeat (first | exact Below.refl _ _ | refine bw_drew ?_ | refine bw_drewN ?_ _ | refine bw_set ?_ (by simp; try omega) _ | refine bw_alloc ?_ _ | refine bw_trans ?_ (by assumption) | assumption)
  case inr.inl =>
    go_enter Try.func38, Try.ntmps38
    go_wp2_with fail
    refine wp_region_bel (by kernel_rfl) (by kernel_rfl) ?_
    repeat (go_big_quiet_step ((first | (go_at_call 16; exact calm_of (validBlades_any _ _ _)) | (go_at_call 51; exact calm_of (rateCode_is h1 _)))))
    refine wpQuiet_nil ?_
    intro w1 hw'
    obtain ⟨tq, hw''⟩ := hw'
    have hw1 := tq.2
    rw [← hw''] at hw1
    clear hw'' tq
    obtain ⟨hcw1, hfw1⟩ := bcell hw1
    try (have hzw1 : w.heap.size < w1.heap.size := by (have h := hw1.size; (try simp at h); omega))
    try (have hyw1 : w.heap.size + 1 < w1.heap.size := by (have h := hw1.size; (try simp at h); omega))
    try (have hxw1 : w.heap.size + 1 + 1 < w1.heap.size := by (have h := hw1.size; (try simp at h); omega))
    try (have hvw1 : w.heap.size + 1 + 1 + 1 < w1.heap.size := by (have h := hw1.size; (try simp at h); omega))
    go_wp2
    refine bodyPost_ret (v := .tuple #[.agg #[.int .i64 0, .int .i64 0], .int .i64 2]) (by simp [results, Try.results38, go_sem, *]) rfl ⟨by simp [ldT, h1], ?_⟩
    repeat (first | exact Below.refl _ _ | refine bw_drew ?_ | refine bw_drewN ?_ _ | refine bw_set ?_ (by simp; try omega) _ | refine bw_alloc ?_ _ | refine bw_trans ?_ (by assumption) | assumption)
  case inr.inr =>
    obtain ⟨hv, ⟨n1, n2⟩, ⟨d1, d2⟩, _⟩ := rc_zero h2 h3
    obtain ⟨⟨m1, m2⟩, ⟨o1, o2⟩⟩ := ld_bd hv
    have q1 : 0 ≤ (1000 - o) / m := Int.ediv_nonneg (by omega) (by omega)
    have q2 : (1000 - o) / m ≤ 999 := Int.le_trans (Int.ediv_le_self _ (by omega)) (by omega)
    obtain ⟨p1, p2⟩ := mul_bd (a := (1000 - o) / m) (b := d) (A := 1000) (B := 1000) (by omega) (by omega) (by omega) (by omega)
    have s1 : 0 ≤ 1000 - o := by omega
    clear h2 h3 hv
    go_enter Try.func38, Try.ntmps38
    go_wp2_with fail
    refine wp_region_bel (by kernel_rfl) (by kernel_rfl) ?_
    repeat (go_big_quiet_step ((first | (go_at_call 16; exact calm_of (validBlades_any _ _ _)) | (go_at_call 51; exact calm_of (rateCode_is h1 _)))))
    refine wpQuiet_nil ?_
    intro w1 hw'
    obtain ⟨tq, hw''⟩ := hw'
    have hw1 := tq.2
    rw [← hw''] at hw1
    clear hw'' tq
    obtain ⟨hcw1, hfw1⟩ := bcell hw1
    try (have hzw1 : w.heap.size < w1.heap.size := by (have h := hw1.size; (try simp at h); omega))
    try (have hyw1 : w.heap.size + 1 < w1.heap.size := by (have h := hw1.size; (try simp at h); omega))
    try (have hxw1 : w.heap.size + 1 + 1 < w1.heap.size := by (have h := hw1.size; (try simp at h); omega))
    try (have hvw1 : w.heap.size + 1 + 1 + 1 < w1.heap.size := by (have h := hw1.size; (try simp at h); omega))
    go_wp2_with fail
    have hq0 : w.heap.size < w1.heap.size := by omega
    have hq1 : w.heap.size + 1 < w1.heap.size := by omega
    have hq2 : w.heap.size + 2 < w1.heap.size := by (have h := hw1.size; simp at h; omega)
    have k0 : w1.cell? ⟨w.heap.size, 0, none⟩ = some (.int .i64 m) := cell_of hw1 (by go_simp)
    have k1 : w1.cell? ⟨w.heap.size, 1, none⟩ = some (.int .i64 o) := cell_of hw1 (by go_simp)
    have k2 : w1.cell? ⟨w.heap.size + 1, 0, none⟩ = some (.int .i64 n) := cell_of hw1 (by go_simp)
    have k3 : w1.cell? ⟨w.heap.size + 1, 1, none⟩ = some (.int .i64 d) := cell_of hw1 (by go_simp)
    have hq3 : w.heap.size + 1 + 1 < w1.heap.size := by omega
    have hlo := fun W => lowest_any ((1000 - o) / m * d) (1000 * n) W ⟨by omega, by omega⟩ ⟨by omega, by omega⟩
    have HLO := Lib.hid hlo
    clear hlo
    have hm0 : (m == 0) = false := by simp; omega
    have hm1 : m ≠ 0 := by omega
    have hm2 : ¬ m = 0 := by omega
    have u1 : IntKind.i64.wrap (1000 - o) = 1000 - o := IntWalk.i64_in _ (by omega)
    have u2 : (1000 - o).tdiv m = (1000 - o) / m := Int.tdiv_eq_ediv_of_nonneg s1
    have u3 : IntKind.i64.wrap ((1000 - o) / m * d) = (1000 - o) / m * d := IntWalk.i64_in _ (by clear u1 u2; omega)
    have u4 : IntKind.i64.wrap (1000 * n) = 1000 * n := IntWalk.i64_in _ (by clear u1 u2 u3; omega)
    have u6 : IntKind.i64.wrap ((1000 - o).tdiv m) = (1000 - o) / m := by rw [u2]; exact IntWalk.i64_in _ (by clear u1 u2 u3 u4; omega)
    have u5 : IntKind.i64.wrap ((1000 - o) / m) = (1000 - o) / m := IntWalk.i64_in _ (by clear u1 u2 u3 u4 u6; omega)
    go_region_held3 (fun w' => w'.cell? ⟨w.heap.size, 0, none⟩ = some (.int .i64 m) ∧ w'.cell? ⟨w.heap.size, 1, none⟩ = some (.int .i64 o) ∧ w'.cell? ⟨w.heap.size + 1, 0, none⟩ = some (.int .i64 n) ∧ w'.cell? ⟨w.heap.size + 1, 1, none⟩ = some (.int .i64 d))
      (((try dsimp only); (repeat' apply And.intro) <;> first | assumption | go_simp))
      (first | (go_at_call 47; refine (HLO.out _).mono ?_; rintro e w2 ⟨rfl, hb2⟩; (have hs2 : w1.heap.size ≤ w2.heap.size := hb2.size); (have hr0 := Nat.lt_of_lt_of_le hq0 hs2); (have hr1 := Nat.lt_of_lt_of_le hq1 hs2); (have hr2 := Nat.lt_of_lt_of_le hq3 hs2); (have hb2' := bw_trans ((Below.refl _ w1).drew) hb2); (have he0 := cell_of hb2' k0); (have he1 := cell_of hb2' k1); (have he2 := cell_of hb2' k2); (have he3 := cell_of hb2' k3); (obtain ⟨hc2, hf2⟩ := bcell hb2')))
    clear u1 u2 u3 u4 u5 u6
    go_wp2
    refine bodyPost_ret (v := .tuple #[.agg #[.int .i64 (lowNum ((1000 - o) / m * d) (1000 * n)), .int .i64 (lowDen ((1000 - o) / m * d) (1000 * n))], .int .i64 0]) (by simp [results, Try.results38, go_sem, *]) rfl ⟨by simp [ldT, h1], ?_⟩
    repeat (first | exact Below.refl _ _ | refine bw_drew ?_ | refine bw_drewN ?_ _ | refine bw_set ?_ (by simp; try omega) _ | refine bw_alloc ?_ _ | refine bw_trans ?_ (by assumption) | assumption)

set_option maxHeartbeats 800000 in
theorem sLongestDark_any (m o n d : Int) (w : World) :
    Calls Try.prog 37 #[.agg #[.int .i64 m, .int .i64 o], .agg #[.int .i64 n, .int .i64 d]] w fun e w' => e = .returned (.tuple #[.agg #[.int .i64 (ldT m o n d).1, .int .i64 (ldT m o n d).2.1], .int .i64 (ldT m o n d).2.2]) ∧ Below w.heap.size w w' := by
  rcases rc_three (vBl m o) n d 1 with ⟨h1, _⟩ | ⟨h1, _⟩ | ⟨h1, h2, h3⟩
  case inl =>
    go_enter Try.func37, Try.ntmps37
    go_wp2_with (first | (go_at_call 53; refine (l09Code_is h1 _ _ _ (by go_simp) (by go_simp)).mono ?_; rintro e w1 ⟨rfl, hb1⟩; obtain ⟨hc1, hf1⟩ := bcell hb1; try (have hz1 : w.heap.size < w1.heap.size := by (have h := hb1.size; (try simp at h); omega)); try (have hy1 : w.heap.size + 1 < w1.heap.size := by (have h := hb1.size; (try simp at h); omega)); try (have hx1 : w.heap.size + 1 + 1 < w1.heap.size := by (have h := hb1.size; (try simp at h); omega)); try (have hv1 : w.heap.size + 1 + 1 + 1 < w1.heap.size := by (have h := hb1.size; (try simp at h); omega)); try (have hp1 : w.heap.size ≤ w1.heap.size := by omega)))
    refine bodyPost_ret (v := .tuple #[.agg #[.int .i64 0, .int .i64 0], .int .i64 1]) (by simp [results, Try.results37, go_sem, *]) rfl ⟨by simp [ldT, h1], ?_⟩
    repeat (first | exact Below.refl _ _ | refine bw_drew ?_ | refine bw_drewN ?_ _ | refine bw_set ?_ (by simp; try omega) _ | refine bw_alloc ?_ _ | refine bw_trans ?_ (by assumption) | assumption)
  case inr.inl =>
    go_enter Try.func37, Try.ntmps37
    go_wp2_with (first | (go_at_call 53; refine (l09Code_is h1 _ _ _ (by go_simp) (by go_simp)).mono ?_; rintro e w1 ⟨rfl, hb1⟩; obtain ⟨hc1, hf1⟩ := bcell hb1; try (have hz1 : w.heap.size < w1.heap.size := by (have h := hb1.size; (try simp at h); omega)); try (have hy1 : w.heap.size + 1 < w1.heap.size := by (have h := hb1.size; (try simp at h); omega)); try (have hx1 : w.heap.size + 1 + 1 < w1.heap.size := by (have h := hb1.size; (try simp at h); omega)); try (have hv1 : w.heap.size + 1 + 1 + 1 < w1.heap.size := by (have h := hb1.size; (try simp at h); omega)); try (have hp1 : w.heap.size ≤ w1.heap.size := by omega)))
    refine bodyPost_ret (v := .tuple #[.agg #[.int .i64 0, .int .i64 0], .int .i64 2]) (by simp [results, Try.results37, go_sem, *]) rfl ⟨by simp [ldT, h1], ?_⟩
    repeat (first | exact Below.refl _ _ | refine bw_drew ?_ | refine bw_drewN ?_ _ | refine bw_set ?_ (by simp; try omega) _ | refine bw_alloc ?_ _ | refine bw_trans ?_ (by assumption) | assumption)
  case inr.inr =>
    obtain ⟨hv, ⟨n1, n2⟩, ⟨d1, d2⟩, _⟩ := rc_zero h2 h3
    obtain ⟨⟨m1, m2⟩, ⟨o1, o2⟩⟩ := ld_bd hv
    have q1 : 0 ≤ (1000 - o) / m := Int.ediv_nonneg (by omega) (by omega)
    have q2 : (1000 - o) / m ≤ 999 := Int.le_trans (Int.ediv_le_self _ (by omega)) (by omega)
    obtain ⟨p1, p2⟩ := mul_bd (a := (1000 - o) / m) (b := d) (A := 1000) (B := 1000) (by omega) (by omega) (by omega) (by omega)
    have s1 : 0 ≤ 1000 - o := by omega
    clear h2 h3 hv
    go_enter Try.func37, Try.ntmps37
    go_wp2_with (first | (go_at_call 53; refine (l09Code_is h1 _ _ _ (by go_simp) (by go_simp)).mono ?_; rintro e w1 ⟨rfl, hb1⟩; obtain ⟨hc1, hf1⟩ := bcell hb1; try (have hz1 : w.heap.size < w1.heap.size := by (have h := hb1.size; (try simp at h); omega)); try (have hy1 : w.heap.size + 1 < w1.heap.size := by (have h := hb1.size; (try simp at h); omega)); try (have hx1 : w.heap.size + 1 + 1 < w1.heap.size := by (have h := hb1.size; (try simp at h); omega)); try (have hv1 : w.heap.size + 1 + 1 + 1 < w1.heap.size := by (have h := hb1.size; (try simp at h); omega)); try (have hp1 : w.heap.size ≤ w1.heap.size := by omega)) | (go_at_call 46; refine (l02Make_any _ _ _ ⟨by omega, by omega⟩ ⟨by omega, by omega⟩).mono ?_; rintro e w1 ⟨rfl, hb1⟩; obtain ⟨hc1, hf1⟩ := bcell hb1; try (have hz1 : w.heap.size < w1.heap.size := by (have h := hb1.size; (try simp at h); omega)); try (have hy1 : w.heap.size + 1 < w1.heap.size := by (have h := hb1.size; (try simp at h); omega)); try (have hx1 : w.heap.size + 1 + 1 < w1.heap.size := by (have h := hb1.size; (try simp at h); omega)); try (have hv1 : w.heap.size + 1 + 1 + 1 < w1.heap.size := by (have h := hb1.size; (try simp at h); omega)); try (have hp1 : w.heap.size ≤ w1.heap.size := by omega)))
    refine bodyPost_ret (v := .tuple #[.agg #[.int .i64 (lowNum ((1000 - o) / m * d) (1000 * n)), .int .i64 (lowDen ((1000 - o) / m * d) (1000 * n))], .int .i64 0]) (by simp [results, Try.results37, go_sem, *]) rfl ⟨by simp [ldT, h1], ?_⟩
    repeat (first | exact Below.refl _ _ | refine bw_drew ?_ | refine bw_drewN ?_ _ | refine bw_set ?_ (by simp; try omega) _ | refine bw_alloc ?_ _ | refine bw_trans ?_ (by assumption) | assumption)

set_option maxRecDepth 100000 in
set_option maxHeartbeats 2000000 in
theorem law_LongestDark (m o n d : Int) (w : World) :
    Calls Try.prog 13 #[.agg #[.int .i64 m, .int .i64 o], .agg #[.int .i64 n, .int .i64 d]] w fun e w' => e = .returned (.bool true) ∧ Below w.heap.size w w' := by
  go_enter Try.func13, Try.ntmps13
  go_upto_region 1 with fail
  obtain ⟨W, hW⟩ : ∃ W, ((w.alloc (.cells #[.int .i64 m, .int .i64 o] 23)).alloc (.cells #[.int .i64 n, .int .i64 d] 44)) = W := ⟨_, rfl⟩
  have k0 : W.cell? ⟨w.heap.size, 0, none⟩ = some (.int .i64 m) := by subst hW; go_simp
  have k1 : W.cell? ⟨w.heap.size, 1, none⟩ = some (.int .i64 o) := by subst hW; go_simp
  have k2 : W.cell? ⟨w.heap.size + 1, 0, none⟩ = some (.int .i64 n) := by subst hW; go_simp
  have k3 : W.cell? ⟨w.heap.size + 1, 1, none⟩ = some (.int .i64 d) := by subst hW; go_simp
  have hwW : Below w.heap.size w W := by subst hW; exact bw_alloc (bw_alloc (Below.refl _ _) _) _
  have hz : w.heap.size + 1 < W.heap.size := by subst hW; simp
  have hz0 : w.heap.size < W.heap.size := by omega
  rw [hW]
  clear hW
  go_cut [5, 6] (fun s5 s6 wx => ∃ g : Nat, s5 = .pointer (some ⟨g, 0, none⟩) ∧ s6 = .int .i64 (ldT m o n d).2.2 ∧ wx.cell? ⟨g, 0, none⟩ = some (.int .i64 (ldT m o n d).1) ∧ wx.cell? ⟨g, 1, none⟩ = some (.int .i64 (ldT m o n d).2.1) ∧ g < wx.heap.size ∧ Below W.heap.size W wx)
  case first =>
    go_region_held3 (fun w' => w'.cell? ⟨w.heap.size, 0, none⟩ = some (.int .i64 m) ∧ w'.cell? ⟨w.heap.size, 1, none⟩ = some (.int .i64 o) ∧ w'.cell? ⟨w.heap.size + 1, 0, none⟩ = some (.int .i64 n) ∧ w'.cell? ⟨w.heap.size + 1, 1, none⟩ = some (.int .i64 d))
      (((try dsimp only); (repeat' apply And.intro) <;> first | assumption | go_simp))
      (first | (go_at_call 15; refine (toBlades_any m o _).mono ?_; rintro e wa ⟨rfl, hba⟩; (have hBa : Below W.heap.size W wa := by first | exact bw_trans ((Below.refl _ _).drew) hba | exact bw_trans (by assumption) hba | exact bw_trans (bw_alloc (by assumption) _) hba | exact bw_trans (bw_alloc ((Below.refl _ _).drew) _) hba | exact bw_trans (Below.refl _ _) hba); (have hsa := hBa.size); (have hq0a : w.heap.size < wa.heap.size := by omega); (have hq1a : w.heap.size + 1 < wa.heap.size := by omega); (have he0a := cell_of hBa k0); (have he1a := cell_of hBa k1); (have he2a := cell_of hBa k2); (have he3a := cell_of hBa k3); (obtain ⟨hca, hfa⟩ := bcell hba); (try (have hga := lt_of_alloc hba; (try simp only [World.heap_drew] at hga))); (try (have hga : W.heap.size < wa.heap.size := by (have h := hba.size; simp at h; omega)))) | (go_at_call 29; refine (toFraction_any n d _).mono ?_; rintro e wb ⟨rfl, hbb⟩; (have hBb : Below W.heap.size W wb := by first | exact bw_trans ((Below.refl _ _).drew) hbb | exact bw_trans (by assumption) hbb | exact bw_trans (bw_alloc (by assumption) _) hbb | exact bw_trans (bw_alloc ((Below.refl _ _).drew) _) hbb | exact bw_trans (Below.refl _ _) hbb); (have hsb := hBb.size); (have hq0b : w.heap.size < wb.heap.size := by omega); (have hq1b : w.heap.size + 1 < wb.heap.size := by omega); (have he0b := cell_of hBb k0); (have he1b := cell_of hBb k1); (have he2b := cell_of hBb k2); (have he3b := cell_of hBb k3); (obtain ⟨hcb, hfb⟩ := bcell hbb); (try (have hgb := lt_of_alloc hbb; (try simp only [World.heap_drew] at hgb))); (try (have hg0b := Nat.lt_of_lt_of_le hga hbb.size))) | (go_at_call 37; refine (sLongestDark_any m o n d _).mono ?_; rintro e wc ⟨rfl, hbc⟩; (have hBc : Below W.heap.size W wc := by first | exact bw_trans ((Below.refl _ _).drew) hbc | exact bw_trans (by assumption) hbc | exact bw_trans (bw_alloc (by assumption) _) hbc | exact bw_trans (bw_alloc ((Below.refl _ _).drew) _) hbc | exact bw_trans (Below.refl _ _) hbc); (have hsc := hBc.size); (have hq0c : w.heap.size < wc.heap.size := by omega); (have hq1c : w.heap.size + 1 < wc.heap.size := by omega); (have he0c := cell_of hBc k0); (have he1c := cell_of hBc k1); (have he2c := cell_of hBc k2); (have he3c := cell_of hBc k3); (obtain ⟨hcc, hfc⟩ := bcell hbc); (try (have hgc := lt_of_alloc hbc; (try simp only [World.heap_drew] at hgc))); (try (have hg0c := Nat.lt_of_lt_of_le hg0b hbc.size)); (try (have hg1c := Nat.lt_of_lt_of_le hgb hbc.size))))
    all_goals (go_wp2_with fail; go_meet; exact ⟨_, rfl, rfl, by go_simp, by go_simp, by simp; try omega, by (repeat (first | exact Below.refl _ _ | refine bw_drew ?_ | refine bw_drewN ?_ _ | refine bw_set ?_ (by simp; try omega) _ | refine bw_alloc ?_ _ | refine bw_trans ?_ (by assumption) | assumption))⟩)
  case rest =>
    obtain ⟨g, rfl, rfl, h0, h1, hg, hB⟩ := hcut
    obtain ⟨V, rfl⟩ : ∃ V : World, V = wc := ⟨_, rfl⟩
    have hwV := bw_trans hwW hB
    replace k0 := cell_of hB k0
    replace k1 := cell_of hB k1
    replace k2 := cell_of hB k2
    replace k3 := cell_of hB k3
    have hzV : w.heap.size + 1 < V.heap.size := by (have h := hB.size; omega)
    have hzV0 : w.heap.size < V.heap.size := by omega
    clear hz hz0 hB hwW
    go_upto_region 2 with fail
    go_cut [7, 8] (fun s7 s8 wx => ∃ g' : Nat, s7 = .pointer (some ⟨g', 0, none⟩) ∧ s8 = .int .i64 (ldT m o n d).2.2 ∧ wx.cell? ⟨g', 0, none⟩ = some (.int .i64 (ldT m o n d).1) ∧ wx.cell? ⟨g', 1, none⟩ = some (.int .i64 (ldT m o n d).2.1) ∧ g' < wx.heap.size ∧ Below V.heap.size V wx)
    case first =>
      go_region_held3 (fun w' => w'.cell? ⟨w.heap.size, 0, none⟩ = some (.int .i64 m) ∧ w'.cell? ⟨w.heap.size, 1, none⟩ = some (.int .i64 o) ∧ w'.cell? ⟨w.heap.size + 1, 0, none⟩ = some (.int .i64 n) ∧ w'.cell? ⟨w.heap.size + 1, 1, none⟩ = some (.int .i64 d))
        (((try dsimp only); (repeat' apply And.intro) <;> first | assumption | go_simp))
        (first | (go_at_call 15; refine (toBlades_any m o _).mono ?_; rintro e wa ⟨rfl, hba⟩; (have hBa : Below V.heap.size V wa := by first | exact bw_trans ((Below.refl _ _).drew) hba | exact bw_trans (by assumption) hba | exact bw_trans (bw_alloc (by assumption) _) hba | exact bw_trans (bw_alloc ((Below.refl _ _).drew) _) hba | exact bw_trans (Below.refl _ _) hba); (have hsa := hBa.size); (have hq0a : w.heap.size < wa.heap.size := by omega); (have hq1a : w.heap.size + 1 < wa.heap.size := by omega); (have he0a := cell_of hBa k0); (have he1a := cell_of hBa k1); (have he2a := cell_of hBa k2); (have he3a := cell_of hBa k3); (obtain ⟨hca, hfa⟩ := bcell hba); (try (have hga := lt_of_alloc hba; (try simp only [World.heap_drew] at hga))); (try (have hga : V.heap.size < wa.heap.size := by (have h := hba.size; simp at h; omega)))) | (go_at_call 29; refine (toFraction_any n d _).mono ?_; rintro e wb ⟨rfl, hbb⟩; (have hBb : Below V.heap.size V wb := by first | exact bw_trans ((Below.refl _ _).drew) hbb | exact bw_trans (by assumption) hbb | exact bw_trans (bw_alloc (by assumption) _) hbb | exact bw_trans (bw_alloc ((Below.refl _ _).drew) _) hbb | exact bw_trans (Below.refl _ _) hbb); (have hsb := hBb.size); (have hq0b : w.heap.size < wb.heap.size := by omega); (have hq1b : w.heap.size + 1 < wb.heap.size := by omega); (have he0b := cell_of hBb k0); (have he1b := cell_of hBb k1); (have he2b := cell_of hBb k2); (have he3b := cell_of hBb k3); (obtain ⟨hcb, hfb⟩ := bcell hbb); (try (have hgb := lt_of_alloc hbb; (try simp only [World.heap_drew] at hgb))); (try (have hg0b := Nat.lt_of_lt_of_le hga hbb.size))) | (go_at_call 38; refine (longestDark_any m o n d _).mono ?_; rintro e wc ⟨rfl, hbc⟩; (have hBc : Below V.heap.size V wc := by first | exact bw_trans ((Below.refl _ _).drew) hbc | exact bw_trans (by assumption) hbc | exact bw_trans (bw_alloc (by assumption) _) hbc | exact bw_trans (bw_alloc ((Below.refl _ _).drew) _) hbc | exact bw_trans (Below.refl _ _) hbc); (have hsc := hBc.size); (have hq0c : w.heap.size < wc.heap.size := by omega); (have hq1c : w.heap.size + 1 < wc.heap.size := by omega); (have he0c := cell_of hBc k0); (have he1c := cell_of hBc k1); (have he2c := cell_of hBc k2); (have he3c := cell_of hBc k3); (obtain ⟨hcc, hfc⟩ := bcell hbc); (try (have hgc := lt_of_alloc hbc; (try simp only [World.heap_drew] at hgc))); (try (have hg0c := Nat.lt_of_lt_of_le hg0b hbc.size)); (try (have hg1c := Nat.lt_of_lt_of_le hgb hbc.size))))
      all_goals (go_wp2_with fail; go_meet; exact ⟨_, rfl, rfl, by go_simp, by go_simp, by simp; try omega, by (repeat (first | exact Below.refl _ _ | refine bw_drew ?_ | refine bw_drewN ?_ _ | refine bw_set ?_ (by simp; try omega) _ | refine bw_alloc ?_ _ | refine bw_trans ?_ (by assumption) | assumption))⟩)
    case rest =>
      obtain ⟨g', rfl, rfl, h0', h1', hg', hB⟩ := hcut
      replace h0 := cell_of hB h0
      replace h1 := cell_of hB h1
      clear k0 k1 k2 k3
      generalize ldT m o n d = F at *
      go_wp2_with fail
      refine (eqFraction_any _ _ _).mono ?_
      rintro e w9 ⟨rfl, hb9⟩
      go_wp2
      go_ret
      exact ⟨rfl, bw_trans (bw_trans hwV hB) hb9⟩
end Go.Proofs.Ytfkghnaibliknaa
