/-
  The law of the flicker rate: two arguments that are structs, a result that is one.
-/
import Derived.Test.YtfkghnaibliknaaBlh
import Derived.Deep.RegionHeld3
import Derived.Deep.DeepCutAuto
namespace Go.Proofs.Ytfkghnaibliknaa
open Go.RowKit

theorem lt_of_alloc {a b : World} {o : Obj} (h : Below (a.alloc o).heap.size (a.alloc o) b) : a.heap.size < b.heap.size := by
  have := h.size; simp at this; omega

set_option maxRecDepth 100000 in
set_option maxHeartbeats 2000000 in
theorem law_FlickerRate (m o n d : Int) (w : World) :
    Calls Try.prog 12 #[.agg #[.int .i64 m, .int .i64 o], .agg #[.int .i64 n, .int .i64 d]] w fun e w' => e = .returned (.bool true) ∧ Below w.heap.size w w' := by
  go_enter Try.func12, Try.ntmps12
  go_upto_region 1 with fail
  obtain ⟨W, hW⟩ : ∃ W, ((w.alloc (.cells #[.int .i64 m, .int .i64 o] 23)).alloc (.cells #[.int .i64 n, .int .i64 d] 44)) = W := ⟨_, rfl⟩
  have k0 : W.cell? ⟨w.heap.size, 0, none⟩ = some (.int .i64 m) := by subst hW; go_simp
  have k1 : W.cell? ⟨w.heap.size, 1, none⟩ = some (.int .i64 o) := by subst hW; go_simp
  have k2 : W.cell? ⟨w.heap.size + 1, 0, none⟩ = some (.int .i64 n) := by subst hW; go_simp
  have k3 : W.cell? ⟨w.heap.size + 1, 1, none⟩ = some (.int .i64 d) := by subst hW; go_simp
  have hwW : Below w.heap.size w W := by subst hW; exact bw_alloc (bw_alloc (Below.refl _ _) _) _
  have hz : w.heap.size + 1 < W.heap.size := by subst hW; simp
  have hz0 : w.heap.size < W.heap.size := by omega
  rw [hW]
  clear hW
  go_cut [5, 6] (fun s5 s6 wx => ∃ g : Nat, s5 = .pointer (some ⟨g, 0, none⟩) ∧ s6 = .int .i64 (frT m o n d).2.2 ∧ wx.cell? ⟨g, 0, none⟩ = some (.int .i64 (frT m o n d).1) ∧ wx.cell? ⟨g, 1, none⟩ = some (.int .i64 (frT m o n d).2.1) ∧ g < wx.heap.size ∧ Below W.heap.size W wx)
  case first =>
    go_region_held3 (fun w' => w'.cell? ⟨w.heap.size, 0, none⟩ = some (.int .i64 m) ∧ w'.cell? ⟨w.heap.size, 1, none⟩ = some (.int .i64 o) ∧ w'.cell? ⟨w.heap.size + 1, 0, none⟩ = some (.int .i64 n) ∧ w'.cell? ⟨w.heap.size + 1, 1, none⟩ = some (.int .i64 d))
      (((try dsimp only); (repeat' apply And.intro) <;> first | assumption | go_simp))
      (first | (go_at_call 15; refine (toBlades_any m o _).mono ?_; rintro e wa ⟨rfl, hba⟩; (have hBa : Below W.heap.size W wa := by first | exact bw_trans ((Below.refl _ _).drew) hba | exact bw_trans (by assumption) hba | exact bw_trans (bw_alloc (by assumption) _) hba | exact bw_trans (bw_alloc ((Below.refl _ _).drew) _) hba | exact bw_trans (Below.refl _ _) hba); (have hsa := hBa.size); (have hq0a : w.heap.size < wa.heap.size := by omega); (have hq1a : w.heap.size + 1 < wa.heap.size := by omega); (have he0a := cell_of hBa k0); (have he1a := cell_of hBa k1); (have he2a := cell_of hBa k2); (have he3a := cell_of hBa k3); (obtain ⟨hca, hfa⟩ := bcell hba); (try (have hga := lt_of_alloc hba; (try simp only [World.heap_drew] at hga))); (try (have hga : W.heap.size < wa.heap.size := by (have h := hba.size; simp at h; omega)))) | (go_at_call 29; refine (toFraction_any n d _).mono ?_; rintro e wb ⟨rfl, hbb⟩; (have hBb : Below W.heap.size W wb := by first | exact bw_trans ((Below.refl _ _).drew) hbb | exact bw_trans (by assumption) hbb | exact bw_trans (bw_alloc (by assumption) _) hbb | exact bw_trans (bw_alloc ((Below.refl _ _).drew) _) hbb | exact bw_trans (Below.refl _ _) hbb); (have hsb := hBb.size); (have hq0b : w.heap.size < wb.heap.size := by omega); (have hq1b : w.heap.size + 1 < wb.heap.size := by omega); (have he0b := cell_of hBb k0); (have he1b := cell_of hBb k1); (have he2b := cell_of hBb k2); (have he3b := cell_of hBb k3); (obtain ⟨hcb, hfb⟩ := bcell hbb); (try (have hgb := lt_of_alloc hbb; (try simp only [World.heap_drew] at hgb))); (try (have hg0b := Nat.lt_of_lt_of_le hga hbb.size))) | (go_at_call 35; refine (sFlickerRate_any m o n d _).mono ?_; rintro e wc ⟨rfl, hbc⟩; (have hBc : Below W.heap.size W wc := by first | exact bw_trans ((Below.refl _ _).drew) hbc | exact bw_trans (by assumption) hbc | exact bw_trans (bw_alloc (by assumption) _) hbc | exact bw_trans (bw_alloc ((Below.refl _ _).drew) _) hbc | exact bw_trans (Below.refl _ _) hbc); (have hsc := hBc.size); (have hq0c : w.heap.size < wc.heap.size := by omega); (have hq1c : w.heap.size + 1 < wc.heap.size := by omega); (have he0c := cell_of hBc k0); (have he1c := cell_of hBc k1); (have he2c := cell_of hBc k2); (have he3c := cell_of hBc k3); (obtain ⟨hcc, hfc⟩ := bcell hbc); (try (have hgc := lt_of_alloc hbc; (try simp only [World.heap_drew] at hgc))); (try (have hg0c := Nat.lt_of_lt_of_le hg0b hbc.size)); (try (have hg1c := Nat.lt_of_lt_of_le hgb hbc.size))))
    all_goals (go_wp2_with fail; go_meet; exact ⟨_, rfl, rfl, by go_simp, by go_simp, by simp; try omega, by (repeat (first | exact Below.refl _ _ | refine bw_drew ?_ | refine bw_drewN ?_ _ | refine bw_set ?_ (by simp; try omega) _ | refine bw_alloc ?_ _ | refine bw_trans ?_ (by assumption) | assumption))⟩)
  case rest =>
    obtain ⟨g, rfl, rfl, h0, h1, hg, hB⟩ := hcut
    obtain ⟨V, rfl⟩ : ∃ V : World, V = wc := ⟨_, rfl⟩
    have hwV := bw_trans hwW hB
    replace k0 := cell_of hB k0
    replace k1 := cell_of hB k1
    replace k2 := cell_of hB k2
    replace k3 := cell_of hB k3
    have hzV : w.heap.size + 1 < V.heap.size := by (have h := hB.size; omega)
    have hzV0 : w.heap.size < V.heap.size := by omega
    clear hz hz0 hB hwW
    go_upto_region 2 with fail
    go_cut [7, 8] (fun s7 s8 wx => ∃ g' : Nat, s7 = .pointer (some ⟨g', 0, none⟩) ∧ s8 = .int .i64 (frT m o n d).2.2 ∧ wx.cell? ⟨g', 0, none⟩ = some (.int .i64 (frT m o n d).1) ∧ wx.cell? ⟨g', 1, none⟩ = some (.int .i64 (frT m o n d).2.1) ∧ g' < wx.heap.size ∧ Below V.heap.size V wx)
    case first =>
      go_region_held3 (fun w' => w'.cell? ⟨w.heap.size, 0, none⟩ = some (.int .i64 m) ∧ w'.cell? ⟨w.heap.size, 1, none⟩ = some (.int .i64 o) ∧ w'.cell? ⟨w.heap.size + 1, 0, none⟩ = some (.int .i64 n) ∧ w'.cell? ⟨w.heap.size + 1, 1, none⟩ = some (.int .i64 d))
        (((try dsimp only); (repeat' apply And.intro) <;> first | assumption | go_simp))
        (first | (go_at_call 15; refine (toBlades_any m o _).mono ?_; rintro e wa ⟨rfl, hba⟩; (have hBa : Below V.heap.size V wa := by first | exact bw_trans ((Below.refl _ _).drew) hba | exact bw_trans (by assumption) hba | exact bw_trans (bw_alloc (by assumption) _) hba | exact bw_trans (bw_alloc ((Below.refl _ _).drew) _) hba | exact bw_trans (Below.refl _ _) hba); (have hsa := hBa.size); (have hq0a : w.heap.size < wa.heap.size := by omega); (have hq1a : w.heap.size + 1 < wa.heap.size := by omega); (have he0a := cell_of hBa k0); (have he1a := cell_of hBa k1); (have he2a := cell_of hBa k2); (have he3a := cell_of hBa k3); (obtain ⟨hca, hfa⟩ := bcell hba); (try (have hga := lt_of_alloc hba; (try simp only [World.heap_drew] at hga))); (try (have hga : V.heap.size < wa.heap.size := by (have h := hba.size; simp at h; omega)))) | (go_at_call 29; refine (toFraction_any n d _).mono ?_; rintro e wb ⟨rfl, hbb⟩; (have hBb : Below V.heap.size V wb := by first | exact bw_trans ((Below.refl _ _).drew) hbb | exact bw_trans (by assumption) hbb | exact bw_trans (bw_alloc (by assumption) _) hbb | exact bw_trans (bw_alloc ((Below.refl _ _).drew) _) hbb | exact bw_trans (Below.refl _ _) hbb); (have hsb := hBb.size); (have hq0b : w.heap.size < wb.heap.size := by omega); (have hq1b : w.heap.size + 1 < wb.heap.size := by omega); (have he0b := cell_of hBb k0); (have he1b := cell_of hBb k1); (have he2b := cell_of hBb k2); (have he3b := cell_of hBb k3); (obtain ⟨hcb, hfb⟩ := bcell hbb); (try (have hgb := lt_of_alloc hbb; (try simp only [World.heap_drew] at hgb))); (try (have hg0b := Nat.lt_of_lt_of_le hga hbb.size))) | (go_at_call 36; refine (flickerRate_any m o n d _).mono ?_; rintro e wc ⟨rfl, hbc⟩; (have hBc : Below V.heap.size V wc := by first | exact bw_trans ((Below.refl _ _).drew) hbc | exact bw_trans (by assumption) hbc | exact bw_trans (bw_alloc (by assumption) _) hbc | exact bw_trans (bw_alloc ((Below.refl _ _).drew) _) hbc | exact bw_trans (Below.refl _ _) hbc); (have hsc := hBc.size); (have hq0c : w.heap.size < wc.heap.size := by omega); (have hq1c : w.heap.size + 1 < wc.heap.size := by omega); (have he0c := cell_of hBc k0); (have he1c := cell_of hBc k1); (have he2c := cell_of hBc k2); (have he3c := cell_of hBc k3); (obtain ⟨hcc, hfc⟩ := bcell hbc); (try (have hgc := lt_of_alloc hbc; (try simp only [World.heap_drew] at hgc))); (try (have hg0c := Nat.lt_of_lt_of_le hg0b hbc.size)); (try (have hg1c := Nat.lt_of_lt_of_le hgb hbc.size))))
      all_goals (go_wp2_with fail; go_meet; exact ⟨_, rfl, rfl, by go_simp, by go_simp, by simp; try omega, by (repeat (first | exact Below.refl _ _ | refine bw_drew ?_ | refine bw_drewN ?_ _ | refine bw_set ?_ (by simp; try omega) _ | refine bw_alloc ?_ _ | refine bw_trans ?_ (by assumption) | assumption))⟩)
    case rest =>
      obtain ⟨g', rfl, rfl, h0', h1', hg', hB⟩ := hcut
      replace h0 := cell_of hB h0
      replace h1 := cell_of hB h1
      clear k0 k1 k2 k3
      generalize frT m o n d = F at *
      go_wp2_with fail
      refine (eqFraction_any _ _ _).mono ?_
      rintro e w9 ⟨rfl, hb9⟩
      go_wp2
      go_ret
      exact ⟨rfl, bw_trans (bw_trans hwV hB) hb9⟩
end Go.Proofs.Ytfkghnaibliknaa
