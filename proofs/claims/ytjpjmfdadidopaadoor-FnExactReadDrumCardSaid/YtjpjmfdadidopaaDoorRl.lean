/-
  The reference's reader of a drum: the walk.
-/
import Derived.Test.YtjpjmfdadidopaaDoorRk
namespace Go.Proofs.YtjpjmfdadidopaaDoor
open Go.RowKit

theorem l01Split_47 (s : ByteArray) (w : World) (hs : s.size ≤ 1048576) :
    Calls Tryd.prog 11 #[.string s, .int .u8 47] w fun e w' => ∃ g c xs, e = .returned (.slice (some ⟨g, 0, none⟩) xs.length c) ∧ OwnT w' w.heap.size (.slice (some ⟨g, 0, none⟩) xs.length c) xs ∧ xs.map (fun x => x.data.toList) = spl 47 [] s.data.toList ∧ Below w.heap.size w w' := l01Split_any s 47 w hs
theorem l01Split_120 (s : ByteArray) (w : World) (hs : s.size ≤ 1048576) :
    Calls Tryd.prog 11 #[.string s, .int .u8 120] w fun e w' => ∃ g c xs, e = .returned (.slice (some ⟨g, 0, none⟩) xs.length c) ∧ OwnT w' w.heap.size (.slice (some ⟨g, 0, none⟩) xs.length c) xs ∧ xs.map (fun x => x.data.toList) = spl 120 [] s.data.toList ∧ Below w.heap.size w w' := l01Split_any s 120 w hs
set_option maxHeartbeats 3200000 in
set_option maxRecDepth 100000 in
theorem sReadDrum_any (s : ByteArray) (w : World) (hs : s.size ≤ 1048576) :
    Calls Tryd.prog 5 #[.string s] w fun e w' => ∃ o, e = .returned (retDr o) ∧ RP s o ∧ Below w.heap.size w w' := by
  have hA : Below w.heap.size w (w.alloc (.cells #[.int .i64 0, .int .i64 0, .int .i64 0] 23)) := bw_alloc (Below.refl _ _) _
  go_enter Tryd.func5, Tryd.ntmps5
  go_wp2_with fail
  refine (l01Split_47 s _ hs).mono ?_
  rintro e w1 ⟨g1, c1, ws, rfl, hW, hw, hb1⟩
  have hA1 := bw_trans hA hb1
  obtain ⟨hcq1, hfq1⟩ := bcell hb1
  have hz1 : w.heap.size < w1.heap.size := by have h := hb1.size; simp at h; omega
  have hp := part_size hw 1048576 hs
  have HW := Lib.hid hw
  have HOW := Lib.hid hW
  clear hw hW
  by_cases hl : ws.length = 2
  · obtain ⟨a, c, rfl⟩ : ∃ a c, ws = [a, c] := by
      match ws, hl with
      | [a, c], _ => exact ⟨a, c, rfl⟩
    have ka := HOW.out.cells 0 (by simp)
    have kc := HOW.out.cells 1 (by simp)
    simp only [List.getElem_cons_zero, List.getElem_cons_succ] at ka kc
    have pa := hp a (by simp)
    have pc := hp c (by simp)
    clear hp hl
    go_wp2_with fail
    refine (l01Split_120 a _ pa).mono ?_
    rintro e w2 ⟨g2, c2, vs, rfl, hV, hv, hb2⟩
    have hA2 := bw_trans hA1 hb2
    have kc2 := cell_of hb2 kc
    have hz2 : w.heap.size < w2.heap.size := by have h := hb2.size; omega
    have hB2 := bw_trans hb1 hb2
    obtain ⟨hcq2, hfq2⟩ := bcell hB2
    have hp := part_size hv 1048576 pa
    have HV := Lib.hid hv
    have HOV := Lib.hid hV
    clear hv hV
    by_cases hl : vs.length = 2
    · obtain ⟨u, v, rfl⟩ : ∃ u v, vs = [u, v] := by
        match vs, hl with
        | [u, v], _ => exact ⟨u, v, rfl⟩
      have ku := HOV.out.cells 0 (by simp)
      have kv := HOV.out.cells 1 (by simp)
      simp only [List.getElem_cons_zero, List.getElem_cons_succ] at ku kv
      have pu := hp u (by simp)
      have pv := hp v (by simp)
      clear hp hl
      go_wp2_with fail
      refine (l01Number_any u _ pu).mono ?_
      rintro e w3 ⟨o1, rfl, d1, hb3⟩
      have D1 := Lib.hid d1
      clear d1
      have hA3 := bw_trans hA2 hb3
      have kv3 := cell_of hb3 kv
      have kc3 := cell_of hb3 kc2
      have hz3 : w.heap.size < w3.heap.size := by have h := hb3.size; omega
      unfold retD
      go_wp2_with fail
      refine (l01Number_any v _ pv).mono ?_
      rintro e w4 ⟨o2, rfl, d2, hb4⟩
      have D2 := Lib.hid d2
      clear d2
      have hA4 := bw_trans hA3 hb4
      have kc4 := cell_of hb4 kc3
      have hz4 : w.heap.size < w4.heap.size := by have h := hb4.size; omega
      unfold retD
      go_wp2_with fail
      refine (l01Number_any c _ pc).mono ?_
      rintro e w5 ⟨o3, rfl, d3, hb5⟩
      have D3 := Lib.hid d3
      clear d3
      have hA5 := bw_trans hA4 hb5
      unfold retD
      have hz5 : w.heap.size < w5.heap.size := by have h := hb5.size; omega
      have hB5 := bw_trans (bw_trans (bw_trans hB2 hb3) hb4) hb5
      obtain ⟨hcB, hfB⟩ := bcell hB5
      have hzB : w.heap.size < (w.alloc (.cells #[.int .i64 0, .int .i64 0, .int .i64 0] 23)).heap.size := by simp
      have hz5' : w.heap.size < w5.heap.size + 1 := by omega
      have hzn : w.heap.size ≠ w5.heap.size := by omega
      clear hcq1 hfq1 hcq2 hfq2
      rcases o1 with _ | x
      · go_wp2
        exact bodyPost_ret (v := retDr none) (by simp [results, Tryd.results5, go_sem, retDr, *]) rfl ⟨none, rfl, rp_none1 (fun r h t hk e => by have hx := spl_key HW.out HV.out D1.out D2.out D3.out hk e; simp at hx), (by repeat (first | exact Below.refl _ _ | exact hA5 | refine bw_set ?_ (by simp; try omega) _ | refine bw_alloc ?_ _))⟩
      rcases o2 with _ | y
      · go_wp2
        exact bodyPost_ret (v := retDr none) (by simp [results, Tryd.results5, go_sem, retDr, *]) rfl ⟨none, rfl, rp_none1 (fun r h t hk e => by have hx := spl_key HW.out HV.out D1.out D2.out D3.out hk e; simp at hx), (by repeat (first | exact Below.refl _ _ | exact hA5 | refine bw_set ?_ (by simp; try omega) _ | refine bw_alloc ?_ _))⟩
      rcases o3 with _ | z
      · go_wp2
        exact bodyPost_ret (v := retDr none) (by simp [results, Tryd.results5, go_sem, retDr, *]) rfl ⟨none, rfl, rp_none1 (fun r h t hk e => by have hx := spl_key HW.out HV.out D1.out D2.out D3.out hk e; simp at hx), (by repeat (first | exact Below.refl _ _ | exact hA5 | refine bw_set ?_ (by simp; try omega) _ | refine bw_alloc ?_ _))⟩
      simp only [Option.getD_some, Option.isSome_some]
      rcases hk : drumOk x y z
      · go_wp2_with (go_at_call 13; refine (l07Ok_any _ x y z _ (by go_simp) (by go_simp) (by go_simp)).mono ?_; rintro e w' ⟨rfl, rfl⟩; rw [hk])
        exact bodyPost_ret (v := retDr none) (by simp [results, Tryd.results5, go_sem, retDr, *]) rfl ⟨none, rfl, rp_none1 (fun r h t hk2 e => by obtain ⟨a1, b1, c1⟩ := spl_key HW.out HV.out D1.out D2.out D3.out hk2 e; cases a1; cases b1; cases c1; rw [hk] at hk2; cases hk2), (by repeat (first | exact Below.refl _ _ | exact hA5 | refine bw_set ?_ (by simp; try omega) _ | refine bw_alloc ?_ _))⟩
      · go_wp2_with (go_at_call 13; refine (l07Ok_any _ x y z _ (by go_simp) (by go_simp) (by go_simp)).mono ?_; rintro e w' ⟨rfl, rfl⟩; rw [hk])
        exact bodyPost_ret (v := retDr (some (x, y, z))) (by simp [results, Tryd.results5, go_sem, retDr, *]) rfl ⟨(some (x, y, z)), rfl, spl_some HW.out HV.out D1.out D2.out D3.out hk, (by repeat (first | exact Below.refl _ _ | exact hA5 | refine bw_set ?_ (by simp; try omega) _ | refine bw_alloc ?_ _))⟩
    · have hlb : ((vs.length : Int) != 2) = true := by simp only [bne_iff_ne, ne_eq]; omega
      clear hl hp
      go_wp2
      exact bodyPost_ret (v := retDr none) (by simp [results, Tryd.results5, go_sem, retDr, *]) rfl ⟨none, rfl, rp_len2 HW.out HV.out (by intro h; rw [h] at hlb; revert hlb; decide), (by repeat (first | exact Below.refl _ _ | exact hA2 | refine bw_set ?_ (by simp; try omega) _))⟩
  · have hlb : ((ws.length : Int) != 2) = true := by simp only [bne_iff_ne, ne_eq]; omega
    clear hl hp
    go_wp2
    exact bodyPost_ret (v := retDr none) (by simp [results, Tryd.results5, go_sem, retDr, *]) rfl ⟨none, rfl, rp_len HW.out (by intro h; rw [h] at hlb; revert hlb; decide), (by repeat (first | exact Below.refl _ _ | exact hA1 | refine bw_set ?_ (by simp; try omega) _))⟩
end Go.Proofs.YtjpjmfdadidopaaDoor
