/-
  BestOffset: in the program and in the reference; the law.
-/
import Derived.Test.YtfkghnaibliknaaBld
namespace Go.Proofs.Ytfkghnaibliknaa
open Go.RowKit

set_option maxRecDepth 100000 in
set_option maxHeartbeats 800000 in
theorem bestOffset_any (m o m2 o2 : Int) (w : World) :
    Calls Try.prog 24 #[.agg #[.int .i64 m, .int .i64 o], .agg #[.int .i64 m2, .int .i64 o2]] w fun e w' => e = .returned (.tuple #[.int .i64 (boB m o m2 o2), .int .i64 (boM m o m2 o2), .int .i64 (boC m o m2 o2)]) ∧ Below w.heap.size w w' := by
  rcases bo_cases m o m2 o2 with h1 | ⟨h1, h2⟩ | ⟨h1, h2⟩
  case inl =>
    go_enter Try.func24, Try.ntmps24
    go_wp2_with (first | (go_at_call 16; refine (validBlades_is (by assumption) _).mono ?_; rintro e w1 ⟨rfl, hb1⟩; obtain ⟨hc1, hf1⟩ := bcell hb1; try (have hz1 : w.heap.size < w1.heap.size := by (have h := hb1.size; (try simp at h); omega)); try (have hy1 : w.heap.size + 1 < w1.heap.size := by (have h := hb1.size; (try simp at h); omega)); try (have hx1 : w.heap.size + 1 + 1 < w1.heap.size := by (have h := hb1.size; (try simp at h); omega)); try (have hv1 : w.heap.size + 1 + 1 + 1 < w1.heap.size := by (have h := hb1.size; (try simp at h); omega))))
    go_ret3
    refine ⟨by simp [boB, boM, boC, boV, *], ?_⟩
    repeat (first | exact Below.refl _ _ | refine bw_drew ?_ | refine bw_drewN ?_ _ | refine bw_set ?_ (by simp; try omega) _ | refine bw_alloc ?_ _ | refine bw_trans ?_ (by assumption) | assumption)
  case inr.inl =>
    go_enter Try.func24, Try.ntmps24
    go_wp2_with (first | (go_at_call 16; refine (validBlades_is (by assumption) _).mono ?_; rintro e w1 ⟨rfl, hb1⟩; obtain ⟨hc1, hf1⟩ := bcell hb1; try (have hz1 : w.heap.size < w1.heap.size := by (have h := hb1.size; (try simp at h); omega)); try (have hy1 : w.heap.size + 1 < w1.heap.size := by (have h := hb1.size; (try simp at h); omega)); try (have hx1 : w.heap.size + 1 + 1 < w1.heap.size := by (have h := hb1.size; (try simp at h); omega)); try (have hv1 : w.heap.size + 1 + 1 + 1 < w1.heap.size := by (have h := hb1.size; (try simp at h); omega))))
    go_ret3
    refine ⟨by simp [boB, boM, boC, boV, *], ?_⟩
    repeat (first | exact Below.refl _ _ | refine bw_drew ?_ | refine bw_drewN ?_ _ | refine bw_set ?_ (by simp; try omega) _ | refine bw_alloc ?_ _ | refine bw_trans ?_ (by assumption) | assumption)
  case inr.inr =>
    obtain ⟨hm, hdv, ho, hdv'⟩ := vBl_true.1 h1
    obtain ⟨hm2, hdv2, ho2, hdv2'⟩ := vBl_true.1 h2
    have HD := Lib.hid hdv2
    clear hdv hdv2 hdv' hdv2'
    go_enter Try.func24, Try.ntmps24
    go_wp2_with (first | (go_at_call 16; refine (validBlades_is (by assumption) _).mono ?_; rintro e w1 ⟨rfl, hb1⟩; obtain ⟨hc1, hf1⟩ := bcell hb1; try (have hz1 : w.heap.size < w1.heap.size := by (have h := hb1.size; (try simp at h); omega)); try (have hy1 : w.heap.size + 1 < w1.heap.size := by (have h := hb1.size; (try simp at h); omega)); try (have hx1 : w.heap.size + 1 + 1 < w1.heap.size := by (have h := hb1.size; (try simp at h); omega)); try (have hv1 : w.heap.size + 1 + 1 + 1 < w1.heap.size := by (have h := hb1.size; (try simp at h); omega))))
    go_loopw [7, 8, 19] (fun x y z wr => ∃ k : Nat, k ≤ 1000 ∧ x = .int .i64 (bestTo (bothN m o m2 o2) k).1 ∧ y = .int .i64 (bestTo (bothN m o m2 o2) k).2 ∧ z = .int .i64 k ∧ Below ((w.alloc (.cells #[.int .i64 m, .int .i64 o] 25)).alloc (.cells #[.int .i64 m2, .int .i64 o2] 25)).heap.size ((w.alloc (.cells #[.int .i64 m, .int .i64 o] 25)).alloc (.cells #[.int .i64 m2, .int .i64 o2] 25)) wr) (fun _ _ z _ => (1000 - intOf z).toNat)
    case atStart => exact ⟨0, by omega, rfl, rfl, by simp, by first | exact bw_trans ‹_› ‹_› | assumption⟩
    case round =>
      obtain ⟨k, hk, rfl, rfl, rfl, hbr⟩ := hrel
      have hc0 : wr.cell? ⟨w.heap.size, 0, none⟩ = some (.int .i64 m) := cell_of hbr (by go_simp)
      have hc1 : wr.cell? ⟨w.heap.size, 1, none⟩ = some (.int .i64 o) := cell_of hbr (by go_simp)
      have hc2 : wr.cell? ⟨w.heap.size + 1, 0, none⟩ = some (.int .i64 m2) := cell_of hbr (by go_simp)
      have hc3 : wr.cell? ⟨w.heap.size + 1, 1, none⟩ = some (.int .i64 o2) := cell_of hbr (by go_simp)
      have hzr : w.heap.size + 1 < wr.heap.size := by have h := hbr.size; simp at h; omega
      have hzs : w.heap.size < wr.heap.size := by omega
      have H1 := Lib.hid h1
      have H2 := Lib.hid h2
      clear h1 h2
      by_cases hlt : k < 1000
      · by_cases hgt : (bestTo (bothN m o m2 o2) k).2 < bothN m o m2 o2 k
        · have HB := Lib.hid (bestTo_yes hgt)
          go_wp2_with (first | (go_at_call 45; refine (bothOpen_any m o m2 o2 k _ hm ho hm2 ho2 HD ⟨by omega, by omega⟩).mono ?_; rintro e w1 ⟨rfl, hb1⟩; obtain ⟨hc1, hf1⟩ := bcell hb1; try (have hz1 : w.heap.size < w1.heap.size := by (have h := hb1.size; (try simp at h); omega)); try (have hy1 : w.heap.size + 1 < w1.heap.size := by (have h := hb1.size; (try simp at h); omega)); try (have hx1 : w.heap.size + 1 + 1 < w1.heap.size := by (have h := hb1.size; (try simp at h); omega)); try (have hv1 : w.heap.size + 1 + 1 + 1 < w1.heap.size := by (have h := hb1.size; (try simp at h); omega))))
          go_roundw
          case rel => exact ⟨k + 1, by omega, by rw [HB.out], by rw [HB.out], by go_num, bw_trans hbr hb1⟩
          case measure => simp [intOf]; omega
        · have HB := Lib.hid (bestTo_no hgt)
          go_wp2_with (first | (go_at_call 45; refine (bothOpen_any m o m2 o2 k _ hm ho hm2 ho2 HD ⟨by omega, by omega⟩).mono ?_; rintro e w1 ⟨rfl, hb1⟩; obtain ⟨hc1, hf1⟩ := bcell hb1; try (have hz1 : w.heap.size < w1.heap.size := by (have h := hb1.size; (try simp at h); omega)); try (have hy1 : w.heap.size + 1 < w1.heap.size := by (have h := hb1.size; (try simp at h); omega)); try (have hx1 : w.heap.size + 1 + 1 < w1.heap.size := by (have h := hb1.size; (try simp at h); omega)); try (have hv1 : w.heap.size + 1 + 1 + 1 < w1.heap.size := by (have h := hb1.size; (try simp at h); omega))))
          go_roundw
          case rel => exact ⟨k + 1, by omega, by rw [HB.out], by rw [HB.out], by go_num, bw_trans hbr hb1⟩
          case measure => simp [intOf]; omega
      · have hkk : k = 1000 := by omega
        subst hkk
        go_wp2
        go_ret3
        refine ⟨by simp [boB, boM, boC, boV, H1.out, H2.out], ?_⟩
        exact bw_trans (bw_alloc (bw_alloc (Below.refl _ _) _) _) hbr

set_option maxRecDepth 100000 in
set_option maxHeartbeats 800000 in
theorem sBestOffset_any (m o m2 o2 : Int) (w : World) :
    Calls Try.prog 23 #[.agg #[.int .i64 m, .int .i64 o], .agg #[.int .i64 m2, .int .i64 o2]] w fun e w' => e = .returned (.tuple #[.int .i64 (boB m o m2 o2), .int .i64 (boM m o m2 o2), .int .i64 (boC m o m2 o2)]) ∧ Below w.heap.size w w' := by
  rcases bo_cases m o m2 o2 with h1 | ⟨h1, h2⟩ | ⟨h1, h2⟩
  case inl =>
    go_enter Try.func23, Try.ntmps23
    go_wp2_with fail
    refine ((l09Ok_is h1 _ _ _ (by go_simp) (by go_simp))).mono ?_
    rintro e w1 ⟨rfl, hb1⟩
    obtain ⟨hc1, hf1⟩ := bcell hb1
    try (have hz1 : w.heap.size < w1.heap.size := by (have h := hb1.size; (try simp at h); omega))
    try (have hy1 : w.heap.size + 1 < w1.heap.size := by (have h := hb1.size; (try simp at h); omega))
    try (have hx1 : w.heap.size + 1 + 1 < w1.heap.size := by (have h := hb1.size; (try simp at h); omega))
    try (have hv1 : w.heap.size + 1 + 1 + 1 < w1.heap.size := by (have h := hb1.size; (try simp at h); omega))
    go_wp2
    go_ret3
    refine ⟨by simp [boB, boM, boC, boV, *], ?_⟩
    repeat (first | exact Below.refl _ _ | refine bw_drew ?_ | refine bw_drewN ?_ _ | refine bw_set ?_ (by simp; try omega) _ | refine bw_alloc ?_ _ | refine bw_trans ?_ (by assumption) | assumption)
  case inr.inl =>
    go_enter Try.func23, Try.ntmps23
    go_wp2_with fail
    refine ((l09Ok_is h1 _ _ _ (by go_simp) (by go_simp))).mono ?_
    rintro e w1 ⟨rfl, hb1⟩
    obtain ⟨hc1, hf1⟩ := bcell hb1
    try (have hz1 : w.heap.size < w1.heap.size := by (have h := hb1.size; (try simp at h); omega))
    try (have hy1 : w.heap.size + 1 < w1.heap.size := by (have h := hb1.size; (try simp at h); omega))
    try (have hx1 : w.heap.size + 1 + 1 < w1.heap.size := by (have h := hb1.size; (try simp at h); omega))
    try (have hv1 : w.heap.size + 1 + 1 + 1 < w1.heap.size := by (have h := hb1.size; (try simp at h); omega))
    go_wp2_with fail
    refine ((l09Ok_is h2 _ _ _ (by go_simp) (by go_simp))).mono ?_
    rintro e w2 ⟨rfl, hb2⟩
    obtain ⟨hc2, hf2⟩ := bcell hb2
    try (have hz2 : w.heap.size < w2.heap.size := by (have h := hb2.size; (try simp at h); omega))
    try (have hy2 : w.heap.size + 1 < w2.heap.size := by (have h := hb2.size; (try simp at h); omega))
    try (have hx2 : w.heap.size + 1 + 1 < w2.heap.size := by (have h := hb2.size; (try simp at h); omega))
    try (have hv2 : w.heap.size + 1 + 1 + 1 < w2.heap.size := by (have h := hb2.size; (try simp at h); omega))
    go_wp2
    go_ret3
    refine ⟨by simp [boB, boM, boC, boV, *], ?_⟩
    repeat (first | exact Below.refl _ _ | refine bw_drew ?_ | refine bw_drewN ?_ _ | refine bw_set ?_ (by simp; try omega) _ | refine bw_alloc ?_ _ | refine bw_trans ?_ (by assumption) | assumption)
  case inr.inr =>
    obtain ⟨hm, hdv, ho, hdv'⟩ := vBl_true.1 h1
    obtain ⟨hm2, hdv2, ho2, hdv2'⟩ := vBl_true.1 h2
    clear hdv hdv2 hdv' hdv2'
    go_enter Try.func23, Try.ntmps23
    go_wp2_with fail
    refine ((l09Ok_is h1 _ _ _ (by go_simp) (by go_simp))).mono ?_
    rintro e w1 ⟨rfl, hb1⟩
    obtain ⟨hc1, hf1⟩ := bcell hb1
    try (have hz1 : w.heap.size < w1.heap.size := by (have h := hb1.size; (try simp at h); omega))
    try (have hy1 : w.heap.size + 1 < w1.heap.size := by (have h := hb1.size; (try simp at h); omega))
    try (have hx1 : w.heap.size + 1 + 1 < w1.heap.size := by (have h := hb1.size; (try simp at h); omega))
    try (have hv1 : w.heap.size + 1 + 1 + 1 < w1.heap.size := by (have h := hb1.size; (try simp at h); omega))
    go_wp2_with fail
    refine ((l09Ok_is h2 _ _ _ (by go_simp) (by go_simp))).mono ?_
    rintro e w2 ⟨rfl, hb2⟩
    obtain ⟨hc2, hf2⟩ := bcell hb2
    try (have hz2 : w.heap.size < w2.heap.size := by (have h := hb2.size; (try simp at h); omega))
    try (have hy2 : w.heap.size + 1 < w2.heap.size := by (have h := hb2.size; (try simp at h); omega))
    try (have hx2 : w.heap.size + 1 + 1 < w2.heap.size := by (have h := hb2.size; (try simp at h); omega))
    try (have hv2 : w.heap.size + 1 + 1 + 1 < w2.heap.size := by (have h := hb2.size; (try simp at h); omega))
    go_wp2_with fail
    go_loopw [7, 8, 9] (fun x y z wr => ∃ k : Nat, k ≤ 1000 ∧ x = .int .i64 (bestTo (bothN m o m2 o2) k).1 ∧ y = .int .i64 (bestTo (bothN m o m2 o2) k).2 ∧ z = .int .i64 k ∧ Below ((w.alloc (.cells #[.int .i64 m, .int .i64 o] 25)).alloc (.cells #[.int .i64 m2, .int .i64 o2] 25)).heap.size ((w.alloc (.cells #[.int .i64 m, .int .i64 o] 25)).alloc (.cells #[.int .i64 m2, .int .i64 o2] 25)) wr) (fun _ _ z _ => (1000 - intOf z).toNat)
    case atStart => exact ⟨0, by omega, rfl, rfl, by simp, bw_trans hb1 hb2⟩
    case round =>
      obtain ⟨k, hk, rfl, rfl, rfl, hbr⟩ := hrel
      have hc0 : wr.cell? ⟨w.heap.size, 0, none⟩ = some (.int .i64 m) := cell_of hbr (by go_simp)
      have hc1 : wr.cell? ⟨w.heap.size, 1, none⟩ = some (.int .i64 o) := cell_of hbr (by go_simp)
      have hc2 : wr.cell? ⟨w.heap.size + 1, 0, none⟩ = some (.int .i64 m2) := cell_of hbr (by go_simp)
      have hc3 : wr.cell? ⟨w.heap.size + 1, 1, none⟩ = some (.int .i64 o2) := cell_of hbr (by go_simp)
      have H1 := Lib.hid h1
      have H2 := Lib.hid h2
      clear h1 h2
      by_cases hlt : k < 1000
      · by_cases hgt : (bestTo (bothN m o m2 o2) k).2 < bothN m o m2 o2 k
        · have HB := Lib.hid (bestTo_yes hgt)
          go_wp2_with fail
          refine (l09Both_any m o m2 o2 k _ _ _ _ _ hm ho hm2 ho2 ⟨by omega, by omega⟩ hc0 hc1 hc2 hc3).mono ?_
          rintro e w3 ⟨rfl, hb3⟩
          go_wp2_with fail
          go_roundw
          case rel => exact ⟨k + 1, by omega, by rw [HB.out], by rw [HB.out], by go_num, bw_trans hbr hb3⟩
          case measure => simp [intOf]; omega
        · have HB := Lib.hid (bestTo_no hgt)
          go_wp2_with fail
          refine (l09Both_any m o m2 o2 k _ _ _ _ _ hm ho hm2 ho2 ⟨by omega, by omega⟩ hc0 hc1 hc2 hc3).mono ?_
          rintro e w3 ⟨rfl, hb3⟩
          go_wp2_with fail
          go_roundw
          case rel => exact ⟨k + 1, by omega, by rw [HB.out], by rw [HB.out], by go_num, bw_trans hbr hb3⟩
          case measure => simp [intOf]; omega
      · have hkk : k = 1000 := by omega
        subst hkk
        go_wp2
        go_ret3
        refine ⟨by simp [boB, boM, boC, boV, H1.out, H2.out], ?_⟩
        exact bw_trans (bw_alloc (bw_alloc (Below.refl _ _) _) _) hbr

set_option maxHeartbeats 400000 in
theorem law_BestOffset (m o m2 o2 : Int) (w : World) :
    Calls Try.prog 7 #[.agg #[.int .i64 m, .int .i64 o], .agg #[.int .i64 m2, .int .i64 o2]] w fun e w' => e = .returned (.bool true) ∧ Below w.heap.size w w' := by
  go_enter Try.func7, Try.ntmps7
  go_wp2_with fail
  refine wp_region_bel (by kernel_rfl) (by kernel_rfl) ?_
  repeat (go_big_quiet_step ((first | (go_at_call 15; exact calm_of (toBlades_any _ _ _)) | (go_at_call 23; exact calm_of (sBestOffset_any _ _ _ _ _)))))
  refine wpQuiet_nil ?_
  intro w1 hw'
  obtain ⟨tq, hw''⟩ := hw'
  have hw1 := tq.2
  rw [← hw''] at hw1
  clear hw'' tq
  obtain ⟨hcw1, hfw1⟩ := bcell hw1
  try (have hzw1 : w.heap.size < w1.heap.size := by (have h := hw1.size; (try simp at h); omega))
  try (have hyw1 : w.heap.size + 1 < w1.heap.size := by (have h := hw1.size; (try simp at h); omega))
  try (have hxw1 : w.heap.size + 1 + 1 < w1.heap.size := by (have h := hw1.size; (try simp at h); omega))
  try (have hvw1 : w.heap.size + 1 + 1 + 1 < w1.heap.size := by (have h := hw1.size; (try simp at h); omega))
  go_wp2_with fail
  refine wp_region_bel (by kernel_rfl) (by kernel_rfl) ?_
  repeat (go_big_quiet_step ((first | (go_at_call 15; exact calm_of (toBlades_any _ _ _)) | (go_at_call 24; exact calm_of (bestOffset_any _ _ _ _ _)))))
  refine wpQuiet_nil ?_
  intro w2 hw'
  obtain ⟨tq, hw''⟩ := hw'
  have hw2 := tq.2
  rw [← hw''] at hw2
  clear hw'' tq
  obtain ⟨hcw2, hfw2⟩ := bcell hw2
  try (have hzw2 : w.heap.size < w2.heap.size := by (have h := hw2.size; (try simp at h); omega))
  try (have hyw2 : w.heap.size + 1 < w2.heap.size := by (have h := hw2.size; (try simp at h); omega))
  try (have hxw2 : w.heap.size + 1 + 1 < w2.heap.size := by (have h := hw2.size; (try simp at h); omega))
  try (have hvw2 : w.heap.size + 1 + 1 + 1 < w2.heap.size := by (have h := hw2.size; (try simp at h); omega))
  go_wp2
  go_ret
  refine ⟨rfl, ?_⟩
  repeat (first | exact Below.refl _ _ | refine bw_drew ?_ | refine bw_drewN ?_ _ | refine bw_set ?_ (by simp; try omega) _ | refine bw_alloc ?_ _ | refine bw_trans ?_ (by assumption) | assumption)
end Go.Proofs.Ytfkghnaibliknaa
