/-
  The program's reader of a drum: the walk.
-/
import Derived.Test.YtjpjmfdadidopaaDoorRe
namespace Go.Proofs.YtjpjmfdadidopaaDoor
open Go.RowKit

set_option maxHeartbeats 3200000 in
set_option maxRecDepth 100000 in
theorem readDrum_any (s : ByteArray) (w : World) (hs : s.size ≤ 1048576) (hE : Env w) :
    Calls Tryd.prog 6 #[.string s] w fun e w' => ∃ o, e = .returned (retDr o) ∧ RP s o ∧ Below w.heap.size w w' := by
  have HE := Lib.hid hE
  clear hE
  obtain ⟨⟨U, R, f1⟩, hc1⟩ : ∃ x, Lib.cut s.data.toList [120] = x := ⟨_, rfl⟩
  obtain ⟨⟨H, T, f2⟩, hc2⟩ : ∃ x, Lib.cut R [47] = x := ⟨_, rfl⟩
  have hsl : s.data.toList.length = s.size := rfl
  have lU : (⟨U.toArray⟩ : ByteArray).size ≤ 1048576 := by
    have h := cut_len1 s.data.toList [120]; rw [hc1] at h; exact Nat.le_trans h (by omega)
  have lR : (⟨R.toArray⟩ : ByteArray).size ≤ 1048576 := by
    have h := cut_len2 s.data.toList [120]; rw [hc1] at h; exact Nat.le_trans h (by omega)
  have lH : (⟨H.toArray⟩ : ByteArray).size ≤ 1048576 := by
    have h := cut_len1 R [47]; rw [hc2] at h; exact Nat.le_trans h lR
  have lT : (⟨T.toArray⟩ : ByteArray).size ≤ 1048576 := by
    have h := cut_len2 R [47]; rw [hc2] at h; exact Nat.le_trans h lR
  have HC1 := Lib.hid hc1
  have HC2 := Lib.hid hc2
  clear hc1 hc2
  have hA : Below w.heap.size w (w.alloc (.cells #[.int .i64 0, .int .i64 0, .int .i64 0] 23)) := bw_alloc (Below.refl _ _) _
  go_enter Tryd.func6, Tryd.ntmps6
  go_wp2_with fail
  refine ((cut_any s 120 _ hs (HE.out.below hA) HC1.out)).mono ?_
  rintro e w1 ⟨rfl, hb1⟩
  obtain ⟨hc1, hf1⟩ := bcell hb1
  try (have hz1 : w.heap.size < w1.heap.size := by (have h := hb1.size; (try simp at h); omega))
  try (have hy1 : w.heap.size + 1 < w1.heap.size := by (have h := hb1.size; (try simp at h); omega))
  try (have hx1 : w.heap.size + 1 + 1 < w1.heap.size := by (have h := hb1.size; (try simp at h); omega))
  try (have hv1 : w.heap.size + 1 + 1 + 1 < w1.heap.size := by (have h := hb1.size; (try simp at h); omega))
  try (have hp1 : w.heap.size ≤ w1.heap.size := by omega)
  have hA1 := bw_trans hA hb1
  go_wp2_with fail
  refine ((cut_any ⟨R.toArray⟩ 47 _ lR (HE.out.below hA1) HC2.out)).mono ?_
  rintro e w2 ⟨rfl, hb2⟩
  obtain ⟨hc2, hf2⟩ := bcell hb2
  try (have hz2 : w.heap.size < w2.heap.size := by (have h := hb2.size; (try simp at h); omega))
  try (have hy2 : w.heap.size + 1 < w2.heap.size := by (have h := hb2.size; (try simp at h); omega))
  try (have hx2 : w.heap.size + 1 + 1 < w2.heap.size := by (have h := hb2.size; (try simp at h); omega))
  try (have hv2 : w.heap.size + 1 + 1 + 1 < w2.heap.size := by (have h := hb2.size; (try simp at h); omega))
  try (have hp2 : w.heap.size ≤ w2.heap.size := by omega)
  have hA2 := bw_trans hA1 hb2
  go_wp2_with fail
  refine (readDecimal_any _ _ lU (HE.out.below hA2)).mono ?_
  rintro e w3 ⟨o1, rfl, d1, hb3⟩
  have D1 := Lib.hid d1
  have hA3 := bw_trans hA2 hb3
  clear d1
  unfold retD
  go_wp2_with fail
  refine (readDecimal_any _ _ lH (HE.out.below hA3)).mono ?_
  rintro e w4 ⟨o2, rfl, d2, hb4⟩
  have D2 := Lib.hid d2
  have hA4 := bw_trans hA3 hb4
  clear d2
  unfold retD
  go_wp2_with fail
  refine (readDecimal_any _ _ lT (HE.out.below hA4)).mono ?_
  rintro e w5 ⟨o3, rfl, d3, hb5⟩
  have D3 := Lib.hid d3
  have hA5 := bw_trans hA4 hb5
  clear d3
  unfold retD
  have hz5 : w.heap.size < w5.heap.size := by
    have h1 := hb1.size; have h2 := hb2.size; have h3 := hb3.size; have h4 := hb4.size; have h5 := hb5.size
    simp at h1
    omega
  have hB5 := bw_trans (bw_trans (bw_trans (bw_trans hb1 hb2) hb3) hb4) hb5
  obtain ⟨hcB, hfB⟩ := bcell hB5
  have hzB : w.heap.size < (w.alloc (.cells #[.int .i64 0, .int .i64 0, .int .i64 0] 23)).heap.size := by simp
  have hz5' : w.heap.size < w5.heap.size + 1 := by omega
  have hzn : w.heap.size ≠ w5.heap.size := by omega
  rcases o1 with _ | x
  · go_wp2
    exact bodyPost_ret (v := retDr none) (by simp [results, Tryd.results6, go_sem, retDr, *]) rfl ⟨none, rfl, rp_none1 (fun r h t hk e => by have hx := cut_key HC1.out HC2.out D1.out D2.out D3.out r h t hk e; simp at hx), (by repeat (first | exact Below.refl _ _ | exact hA5 | refine bw_set ?_ (by simp; try omega) _ | refine bw_alloc ?_ _ | refine bw_trans ?_ hb7))⟩
  rcases o2 with _ | y
  · go_wp2
    exact bodyPost_ret (v := retDr none) (by simp [results, Tryd.results6, go_sem, retDr, *]) rfl ⟨none, rfl, rp_none1 (fun r h t hk e => by have hx := cut_key HC1.out HC2.out D1.out D2.out D3.out r h t hk e; simp at hx), (by repeat (first | exact Below.refl _ _ | exact hA5 | refine bw_set ?_ (by simp; try omega) _ | refine bw_alloc ?_ _ | refine bw_trans ?_ hb7))⟩
  rcases o3 with _ | z
  · go_wp2
    exact bodyPost_ret (v := retDr none) (by simp [results, Tryd.results6, go_sem, retDr, *]) rfl ⟨none, rfl, rp_none1 (fun r h t hk e => by have hx := cut_key HC1.out HC2.out D1.out D2.out D3.out r h t hk e; simp at hx), (by repeat (first | exact Below.refl _ _ | exact hA5 | refine bw_set ?_ (by simp; try omega) _ | refine bw_alloc ?_ _ | refine bw_trans ?_ hb7))⟩
  simp only [Option.getD_some, Option.isSome_some]
  by_cases he : drumT x y z = s
  · have hse : ((drumT x y z).toList == s.toList) = true := by rw [he]; exact str_same s
    have HQ := Lib.hid he
    clear he
    go_wp2_with (go_at_call 10; refine (drumText_any x y z _ ((HE.out.below hA5).below (by first | exact bw_alloc (Below.refl _ _) _ | exact bw_set (bw_alloc (Below.refl _ _) _) (by simp) _)).1).mono ?_; rintro e w7 ⟨rfl, hb7⟩; obtain ⟨hc7, hf7⟩ := bcell hb7; have hz7 : w5.heap.size < w7.heap.size := by (have h := hb7.size; simp at h; omega))
    exact bodyPost_ret (v := retDr (some (x, y, z))) (by simp [results, Tryd.results6, go_sem, retDr, *]) rfl ⟨(some (x, y, z)), rfl, rp_some HC1.out HC2.out D1.out D2.out D3.out HQ.out, (by repeat (first | exact Below.refl _ _ | exact hA5 | refine bw_set ?_ (by simp; try omega) _ | refine bw_alloc ?_ _ | refine bw_trans ?_ hb7))⟩
  · have hse := str_ne he
    have HQ := Lib.hid he
    clear he
    go_wp2_with (go_at_call 10; refine (drumText_any x y z _ ((HE.out.below hA5).below (by first | exact bw_alloc (Below.refl _ _) _ | exact bw_set (bw_alloc (Below.refl _ _) _) (by simp) _)).1).mono ?_; rintro e w7 ⟨rfl, hb7⟩; obtain ⟨hc7, hf7⟩ := bcell hb7; have hz7 : w5.heap.size < w7.heap.size := by (have h := hb7.size; simp at h; omega))
    exact bodyPost_ret (v := retDr none) (by simp [results, Tryd.results6, go_sem, retDr, *]) rfl ⟨none, rfl, rp_none1 (fun r h t hk e => by obtain ⟨a, b, c⟩ := cut_key HC1.out HC2.out D1.out D2.out D3.out r h t hk e; cases a; cases b; cases c; exact HQ.out (by rw [e]; unfold drumT; rw [if_pos hk])), (by repeat (first | exact Below.refl _ _ | exact hA5 | refine bw_set ?_ (by simp; try omega) _ | refine bw_alloc ?_ _ | refine bw_trans ?_ hb7))⟩
end Go.Proofs.YtjpjmfdadidopaaDoor
