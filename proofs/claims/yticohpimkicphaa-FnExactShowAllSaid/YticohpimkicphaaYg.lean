/-
  Slides: moves in the reference; the codes of a slide, places and a move.
-/
import Derived.Test.YticohpimkicphaaYf
namespace Go.Proofs.Yticohpimkicphaa
open Go.RowKit

/-- Places if they are there, else none. -/
def GivesMv (ok : Bool) (qs : List Int) (w : World) (e : Ending) (w' : World) : Prop :=
  ∃ A n c, e = .returned (.tuple #[.slice A n c, .bool ok]) ∧ (ok = true → OwnI w' w.heap.size (.slice A n c) qs) ∧ Below w.heap.size w w'

set_option maxRecDepth 100000 in
set_option maxHeartbeats 1600000 in
theorem l13Move_any (g : Nat) (A : Option Addr) (n c : Nat) (ss : List Int) (B : Option Addr) (m d : Nat) (bs : List BrE) (P : Option Addr) (e : Nat) (ps : List Int) (mv : Nat) (w : World) (HD : SdP w g A n c ss B m d bs) (HP : SlI w P n ps) (hn : n ≤ 4) (hm : m ≤ 8) (hst : stBd ss n) (hbd : brBd bs m n) (hpl : plB ss ps n = true) (hmv : mv < 2 * n) :
    Calls Try.prog 63 #[.pointer (some ⟨g, 0, none⟩), .slice P n e, .int .i64 (mv : Int)] w (GivesMv (mvOk ss n bs ps mv) (mvL ps mv) w) := by
  have hl := HP.length
  have hPL := mv_pl hpl (mv := mv) (by omega)
  have hat := mv_at (ps := ps) (mv := mv) (i := mv / 2) (by omega)
  rw [if_pos rfl] at hat
  obtain ⟨p1, p2⟩ := (pl_at hpl).2 (mv / 2) (by omega)
  obtain ⟨q1, q2⟩ := hst (mv / 2) (by omega)
  have HCL := Lib.hid (l00Own_any P n e ps w HP ⟨by omega, by omega⟩)
  have HMY := Lib.hid (fun A' c' W (hW : Below w.heap.size w W) (h : SlI W A' n (mvL ps mv)) => l13May_any g A n c ss B m d bs A' n c' (mvL ps mv) W (HD.below hW) h (by omega) (by omega) hbd)
  have hlen := mv_len ps mv
  have hdiv : (mv : Int).tdiv 2 = ((mv / 2 : Nat) : Int) := by rw [Int.tdiv_eq_ediv_of_nonneg (by omega)]; omega
  have hmod : (mv : Int).tmod 2 = ((mv % 2 : Nat) : Int) := by rw [Int.tmod_eq_emod_of_nonneg (by omega)]; omega
  have hgl : mv / 2 < n := by omega
  have hgi : ((mv / 2 : Nat) : Int) < (n : Int) := by omega
  unfold mvOk
  have HMV := Lib.hid (show mvL ps mv = ps.set (mv / 2) (if mv % 2 = 0 then ps.getD (mv / 2) 0 + 1 else ps.getD (mv / 2) 0 - 1) from rfl)
  have hc0 := HD.1
  have hgz := HD.2.2.2.2
  obtain ⟨bS, oS, rfl, hbS, hcS⟩ := HD.2.2.1.get (k := mv / 2) hgl
  clear HD HP hst hbd hpl
  rw [hPL]
  obtain ⟨R, hR⟩ : ∃ R, inB ((mvL ps mv).getD (mv / 2) 0) 0 (ss.getD (mv / 2) 0 - 1) = R := ⟨_, rfl⟩
  rw [hR]
  clear hPL
  generalize myB bs (mvL ps mv) = Y at *
  generalize mvL ps mv = qs at *
  obtain ⟨G, hG⟩ : ∃ G, mv / 2 = G := ⟨_, rfl⟩
  rw [hG] at hdiv p1 p2 q1 q2 hgl hgi HMV hat hcS hR
  obtain ⟨r, hr⟩ : ∃ r, mv % 2 = r := ⟨_, rfl⟩
  rw [hr] at hmod HMV hat
  have hr2 : r < 2 := by omega
  rw [hat] at hR
  have HR := Lib.hid hR
  clear hat hR
  go_enter Try.func63, Try.ntmps63
  go_wp2_with fail
  refine HCL.out.mono ?_
  rintro e w1 ⟨V, rfl, GV, hb1⟩
  have hs1 := hb1.size
  obtain ⟨A', c', rfl⟩ := GV.form
  rw [hl] at GV ⊢
  obtain ⟨g', rfl, hBg, hnl, hcc, hff, hput⟩ := GV.put (k := G) (by rw [hl]; exact hgl)
  have hd0 := cell_of hb1 hc0
  have hdS := cell_of hb1 hcS
  have hne1 : ¬ g' = g := by omega
  have hne2 : ¬ g = g' := by omega
  have hne3 : ¬ g' = bS := by omega
  have hne4 : ¬ bS = g' := by omega
  have hl1 : g < w1.heap.size := by omega
  have hl2 : bS < w1.heap.size := by omega
  have hl3 : g' < w1.heap.size := World.block_lt_of_cell? w1 _ hcc
  clear hs1 HCL hnl hc0 hcS
  generalize ss.getD G 0 = S at *
  by_cases hr0 : r = 0
  · subst hr0
    have HQ := Lib.hid (hput (ps.getD G 0 + 1))
    have hqs : ps.set G (ps.getD G 0 + 1) = qs := by rw [HMV.out]; simp
    rw [hqs] at HQ
    have hin := HR.out
    rw [if_pos rfl] at hin
    clear hput hqs HMV HR
    generalize ps.getD G 0 = u at *
    have hbs : Below w.heap.size w (w1.setCell ⟨g', G, none⟩ (.int .i64 (u + 1))) := bw_set hb1 (by simp <;> omega) _
    have hq := HQ.out
    have hsq : SlI (w1.setCell ⟨g', G, none⟩ (.int .i64 (u + 1))) (some ⟨g', 0, none⟩) n qs := by
      have h := hq.sl; rw [← h.1] at h; exact h.2
    have HSQ := Lib.hid hsq
    have HBS := Lib.hid hbs
    have hx0 : (w1.setCell ⟨g', G, none⟩ (.int .i64 (u + 1))).cell? ⟨g, 0, none⟩ = some (.slice (some ⟨bS, oS, none⟩) n c) := by rw [cell_other (by simp <;> omega)]; exact hd0
    have hxS : (w1.setCell ⟨g', G, none⟩ (.int .i64 (u + 1))).cell? ⟨bS, oS + G, none⟩ = some (.int .i64 S) := by rw [cell_other (by simp <;> omega)]; exact hdS
    have hxQ : (w1.setCell ⟨g', G, none⟩ (.int .i64 (u + 1))).cell? ⟨g', G, none⟩ = some (.int .i64 (u + 1)) := by apply World.cell?_setCell_same'; rw [hcc]; rfl
    have hz1 : (w1.setCell ⟨g', G, none⟩ (.int .i64 (u + 1))).heap.size = w1.heap.size := by simp
    have HZ := Lib.hid hz1
    have HX := Lib.hid (And.intro hx0 (And.intro hxS hxQ))
    clear hx0 hxS hxQ hz1 hbs hsq hq
    have HMY2 := Lib.hid (fun (t : Bel (w1.setCell ⟨g', G, none⟩ (.int .i64 (u + 1)))) => HMY.out (some ⟨g', 0, none⟩) c' t.1 (bw_trans HBS.out t.2) (HSQ.out.below t.2))
    go_wp2_with fail
    generalize hwv : (w1.setCell ⟨g', G, none⟩ (.int .i64 (u + 1))) = wv at *
    obtain ⟨hx0, hxS, hxQ⟩ := HX.out
    have hv1 : g < wv.heap.size := by rw [HZ.out]; exact hl1
    have hv2 : bS < wv.heap.size := by rw [HZ.out]; exact hl2
    have hv3 : g' < wv.heap.size := by rw [HZ.out]; exact hl3
    clear hwv hcc hff hd0 hdS HMY HX HZ
    cases R
    · skip
      refine wp_region_bel (by kernel_rfl) (by kernel_rfl) ?_
      repeat (go_big_quiet_step (((go_at_call 62; exact calm_same (l00In_is hin _)))))
      refine wpQuiet_nil ?_
      intro w2 hw'
      obtain ⟨tq, hw''⟩ := hw'
      have hw2 := tq.2
      rw [← hw''] at hw2
      clear hw'' tq
      obtain ⟨hcw2, hfw2⟩ := bcell hw2
      try (have hzw2 : w.heap.size < w2.heap.size := by (have h := hw2.size; (try simp at h); omega))
      try (have hyw2 : w.heap.size + 1 < w2.heap.size := by (have h := hw2.size; (try simp at h); omega))
      try (have hxw2 : w.heap.size + 1 + 1 < w2.heap.size := by (have h := hw2.size; (try simp at h); omega))
      try (have hvw2 : w.heap.size + 1 + 1 + 1 < w2.heap.size := by (have h := hw2.size; (try simp at h); omega))
      clear HMY2
      go_wp2
      go_ret2
      exact ⟨none, 0, 0, rfl, fun h => (by cases h), bw_trans HBS.out hw2⟩
    cases Y
    · skip
      refine wp_region_bel (by kernel_rfl) (by kernel_rfl) ?_
      repeat (go_big_quiet_step (((first | (go_at_call 62; exact calm_same (l00In_is hin _)) | (go_at_call 42; exact calm_of (HMY2.out _))))))
      refine wpQuiet_nil ?_
      intro w2 hw'
      obtain ⟨tq, hw''⟩ := hw'
      have hw2 := tq.2
      rw [← hw''] at hw2
      clear hw'' tq
      obtain ⟨hcw2, hfw2⟩ := bcell hw2
      try (have hzw2 : w.heap.size < w2.heap.size := by (have h := hw2.size; (try simp at h); omega))
      try (have hyw2 : w.heap.size + 1 < w2.heap.size := by (have h := hw2.size; (try simp at h); omega))
      try (have hxw2 : w.heap.size + 1 + 1 < w2.heap.size := by (have h := hw2.size; (try simp at h); omega))
      try (have hvw2 : w.heap.size + 1 + 1 + 1 < w2.heap.size := by (have h := hw2.size; (try simp at h); omega))
      clear HMY2
      go_wp2
      go_ret2
      exact ⟨none, 0, 0, rfl, fun h => (by cases h), bw_trans HBS.out hw2⟩
    · skip
      refine wp_region_bel (by kernel_rfl) (by kernel_rfl) ?_
      repeat (go_big_quiet_step (((first | (go_at_call 62; exact calm_same (l00In_is hin _)) | (go_at_call 42; exact calm_of (HMY2.out _))))))
      refine wpQuiet_nil ?_
      intro w2 hw'
      obtain ⟨tq, hw''⟩ := hw'
      have hw2 := tq.2
      rw [← hw''] at hw2
      clear hw'' tq
      obtain ⟨hcw2, hfw2⟩ := bcell hw2
      try (have hzw2 : w.heap.size < w2.heap.size := by (have h := hw2.size; (try simp at h); omega))
      try (have hyw2 : w.heap.size + 1 < w2.heap.size := by (have h := hw2.size; (try simp at h); omega))
      try (have hxw2 : w.heap.size + 1 + 1 < w2.heap.size := by (have h := hw2.size; (try simp at h); omega))
      try (have hvw2 : w.heap.size + 1 + 1 + 1 < w2.heap.size := by (have h := hw2.size; (try simp at h); omega))
      clear HMY2
      go_wp2
      go_ret2
      exact ⟨_, _, _, rfl, fun _ => (HQ.out.below hw2), bw_trans HBS.out hw2⟩
  · obtain rfl : r = 1 := by omega
    have HQ := Lib.hid (hput (ps.getD G 0 - 1))
    have hqs : ps.set G (ps.getD G 0 - 1) = qs := by rw [HMV.out]; simp
    rw [hqs] at HQ
    have hin := HR.out
    rw [if_neg (by omega)] at hin
    clear hput hqs HMV HR
    generalize ps.getD G 0 = u at *
    have hbs : Below w.heap.size w (w1.setCell ⟨g', G, none⟩ (.int .i64 (u - 1))) := bw_set hb1 (by simp <;> omega) _
    have hq := HQ.out
    have hsq : SlI (w1.setCell ⟨g', G, none⟩ (.int .i64 (u - 1))) (some ⟨g', 0, none⟩) n qs := by
      have h := hq.sl; rw [← h.1] at h; exact h.2
    have HSQ := Lib.hid hsq
    have HBS := Lib.hid hbs
    have hx0 : (w1.setCell ⟨g', G, none⟩ (.int .i64 (u - 1))).cell? ⟨g, 0, none⟩ = some (.slice (some ⟨bS, oS, none⟩) n c) := by rw [cell_other (by simp <;> omega)]; exact hd0
    have hxS : (w1.setCell ⟨g', G, none⟩ (.int .i64 (u - 1))).cell? ⟨bS, oS + G, none⟩ = some (.int .i64 S) := by rw [cell_other (by simp <;> omega)]; exact hdS
    have hxQ : (w1.setCell ⟨g', G, none⟩ (.int .i64 (u - 1))).cell? ⟨g', G, none⟩ = some (.int .i64 (u - 1)) := by apply World.cell?_setCell_same'; rw [hcc]; rfl
    have hz1 : (w1.setCell ⟨g', G, none⟩ (.int .i64 (u - 1))).heap.size = w1.heap.size := by simp
    have HZ := Lib.hid hz1
    have HX := Lib.hid (And.intro hx0 (And.intro hxS hxQ))
    clear hx0 hxS hxQ hz1 hbs hsq hq
    have HMY2 := Lib.hid (fun (t : Bel (w1.setCell ⟨g', G, none⟩ (.int .i64 (u - 1)))) => HMY.out (some ⟨g', 0, none⟩) c' t.1 (bw_trans HBS.out t.2) (HSQ.out.below t.2))
    go_wp2_with fail
    generalize hwv : (w1.setCell ⟨g', G, none⟩ (.int .i64 (u - 1))) = wv at *
    obtain ⟨hx0, hxS, hxQ⟩ := HX.out
    have hv1 : g < wv.heap.size := by rw [HZ.out]; exact hl1
    have hv2 : bS < wv.heap.size := by rw [HZ.out]; exact hl2
    have hv3 : g' < wv.heap.size := by rw [HZ.out]; exact hl3
    clear hwv hcc hff hd0 hdS HMY HX HZ
    cases R
    · skip
      refine wp_region_bel (by kernel_rfl) (by kernel_rfl) ?_
      repeat (go_big_quiet_step (((go_at_call 62; exact calm_same (l00In_is hin _)))))
      refine wpQuiet_nil ?_
      intro w2 hw'
      obtain ⟨tq, hw''⟩ := hw'
      have hw2 := tq.2
      rw [← hw''] at hw2
      clear hw'' tq
      obtain ⟨hcw2, hfw2⟩ := bcell hw2
      try (have hzw2 : w.heap.size < w2.heap.size := by (have h := hw2.size; (try simp at h); omega))
      try (have hyw2 : w.heap.size + 1 < w2.heap.size := by (have h := hw2.size; (try simp at h); omega))
      try (have hxw2 : w.heap.size + 1 + 1 < w2.heap.size := by (have h := hw2.size; (try simp at h); omega))
      try (have hvw2 : w.heap.size + 1 + 1 + 1 < w2.heap.size := by (have h := hw2.size; (try simp at h); omega))
      clear HMY2
      go_wp2
      go_ret2
      exact ⟨none, 0, 0, rfl, fun h => (by cases h), bw_trans HBS.out hw2⟩
    cases Y
    · skip
      refine wp_region_bel (by kernel_rfl) (by kernel_rfl) ?_
      repeat (go_big_quiet_step (((first | (go_at_call 62; exact calm_same (l00In_is hin _)) | (go_at_call 42; exact calm_of (HMY2.out _))))))
      refine wpQuiet_nil ?_
      intro w2 hw'
      obtain ⟨tq, hw''⟩ := hw'
      have hw2 := tq.2
      rw [← hw''] at hw2
      clear hw'' tq
      obtain ⟨hcw2, hfw2⟩ := bcell hw2
      try (have hzw2 : w.heap.size < w2.heap.size := by (have h := hw2.size; (try simp at h); omega))
      try (have hyw2 : w.heap.size + 1 < w2.heap.size := by (have h := hw2.size; (try simp at h); omega))
      try (have hxw2 : w.heap.size + 1 + 1 < w2.heap.size := by (have h := hw2.size; (try simp at h); omega))
      try (have hvw2 : w.heap.size + 1 + 1 + 1 < w2.heap.size := by (have h := hw2.size; (try simp at h); omega))
      clear HMY2
      go_wp2
      go_ret2
      exact ⟨none, 0, 0, rfl, fun h => (by cases h), bw_trans HBS.out hw2⟩
    · skip
      refine wp_region_bel (by kernel_rfl) (by kernel_rfl) ?_
      repeat (go_big_quiet_step (((first | (go_at_call 62; exact calm_same (l00In_is hin _)) | (go_at_call 42; exact calm_of (HMY2.out _))))))
      refine wpQuiet_nil ?_
      intro w2 hw'
      obtain ⟨tq, hw''⟩ := hw'
      have hw2 := tq.2
      rw [← hw''] at hw2
      clear hw'' tq
      obtain ⟨hcw2, hfw2⟩ := bcell hw2
      try (have hzw2 : w.heap.size < w2.heap.size := by (have h := hw2.size; (try simp at h); omega))
      try (have hyw2 : w.heap.size + 1 < w2.heap.size := by (have h := hw2.size; (try simp at h); omega))
      try (have hxw2 : w.heap.size + 1 + 1 < w2.heap.size := by (have h := hw2.size; (try simp at h); omega))
      try (have hvw2 : w.heap.size + 1 + 1 + 1 < w2.heap.size := by (have h := hw2.size; (try simp at h); omega))
      clear HMY2
      go_wp2
      go_ret2
      exact ⟨_, _, _, rfl, fun _ => (HQ.out.below hw2), bw_trans HBS.out hw2⟩


/-- A slice of slices of integers. -/
def SlSS (w : World) (A : Option Addr) (n : Nat) (pls : List (List Int)) : Prop :=
  pls.length = n ∧ (0 < n → ∃ b off, A = some ⟨b, off, none⟩ ∧ b < w.heap.size ∧ ∀ k, k < n → ∃ A' c', w.cell? ⟨b, off + k, none⟩ = some (.slice A' (pls.getD k []).length c') ∧ SlI w A' (pls.getD k []).length (pls.getD k []) ∧ (pls.getD k []).length ≤ 1048576)
theorem SlSS.get {w : World} {A : Option Addr} {n k : Nat} {pls : List (List Int)} (h : SlSS w A n pls) (hk : k < n) : ∃ b off, A = some ⟨b, off, none⟩ ∧ b < w.heap.size ∧ ∃ A' c', w.cell? ⟨b, off + k, none⟩ = some (.slice A' (pls.getD k []).length c') ∧ SlI w A' (pls.getD k []).length (pls.getD k []) ∧ (pls.getD k []).length ≤ 1048576 := by
  obtain ⟨b, off, e, hl, hc⟩ := h.2 (by omega)
  exact ⟨b, off, e, hl, hc k hk⟩
theorem SlSS.below {w w' : World} {A : Option Addr} {n : Nat} {pls : List (List Int)} (h : SlSS w A n pls) (hb : Below w.heap.size w w') : SlSS w' A n pls :=
  ⟨h.1, fun hn => by
    obtain ⟨b, off, e, hl, hc⟩ := h.2 hn
    refine ⟨b, off, e, Nat.lt_of_lt_of_le hl hb.size, fun k hk => ?_⟩
    obtain ⟨A', c', h1, h2, h3⟩ := hc k hk
    exact ⟨A', c', cell_of hb h1, h2.below hb, h3⟩⟩

set_option maxHeartbeats 800000 in
theorem saIdx_any (p : List Int → Bool) (q1 : Value) (A : Option Addr) (n c : Nat) (pls : List (List Int)) (w : World) (H : SlSS w A n pls) (hn : n ≤ 1048576)
    (hcl : ∀ k, k < n → ∀ W, Below w.heap.size w W → ∀ A' c', SlI W A' (pls.getD k []).length (pls.getD k []) → (pls.getD k []).length ≤ 1048576 → Calls Try.prog 73 #[.slice A' (pls.getD k []).length c', q1] W fun e w' => e = .returned (.bool (p (pls.getD k []))) ∧ Below W.heap.size W w') :
    Calls Try.prog 69 #[.slice A n c, .func (.func 73) #[] #[q1]] w fun e w' => e = .returned (.int .i64 (gidx p pls)) ∧ Below w.heap.size w w' := by
  have HL := Lib.hid H.1
  have HC := Lib.hid hcl
  clear hcl
  go_enter Try.func69, Try.ntmps69
  go_wp2_with fail
  go_loopw [8] (fun x wr => ∃ k : Nat, k ≤ n ∧ x = .int .i64 k ∧ Hid (∀ j, j < k → p (pls.getD j []) = false) ∧ Below w.heap.size w wr) (fun x _ => (n - (intOf x).toNat))
  case atStart => exact ⟨0, by omega, rfl, fun j hj => absurd hj (by omega), Below.refl _ _⟩
  case round =>
    obtain ⟨k, hk, rfl, hno, hbr⟩ := hrel
    by_cases hlt : k < n
    · obtain ⟨b, off, rfl, hbl, A', c', hc, hsl, hle⟩ := (H.below hbr).get hlt
      have HCK := Lib.hid (HC.out k hlt _ hbr A' c' hsl hle)
      clear H HC hsl
      cases hp : p (pls.getD k [])
      · have hn' : ∀ j, j < k + 1 → p (pls.getD j []) = false := fun j hj => by
          rcases Nat.lt_or_ge j k with h | h
          · exact hno.out j h
          · have : j = k := by omega
            subst this; exact hp
        have HN := Lib.hid hn'
        rw [hp] at HCK
        clear hn' hp
        generalize (pls.getD k []).length = q at *
        go_wp2_with fail
        refine HCK.out.mono ?_
        rintro e w1 ⟨rfl, hb1⟩
        go_wp2_with fail
        go_roundw
        case rel => exact ⟨k + 1, by omega, by go_num, HN.out, bw_trans hbr hb1⟩
        case measure => simp [intOf]; omega
      · have HF := Lib.hid (gidx_at (by rw [HL.out]; exact hlt) hp hno.out)
        rw [hp] at HCK
        clear hp
        generalize (pls.getD k []).length = q at *
        go_wp2_with fail
        refine HCK.out.mono ?_
        rintro e w1 ⟨rfl, hb1⟩
        go_wp2
        go_ret
        exact ⟨ret_int (by rw [HF.out]), bw_trans hbr hb1⟩
    · have hkk : k = n := by omega
      subst hkk
      have HF := Lib.hid (gidx_none (fun j hj => hno.out j (by rw [← HL.out]; exact hj)))
      clear H
      go_wp2
      go_ret
      exact ⟨ret_int (by rw [HF.out]), hbr⟩

set_option maxHeartbeats 800000 in
theorem saCon_any (p : List Int → Bool) (q1 : Value) (A : Option Addr) (n c : Nat) (pls : List (List Int)) (w : World) (H : SlSS w A n pls) (hn : n ≤ 1048576) {b : Bool} (hb : pls.any p = b)
    (hcl : ∀ k, k < n → ∀ W, Below w.heap.size w W → ∀ A' c', SlI W A' (pls.getD k []).length (pls.getD k []) → (pls.getD k []).length ≤ 1048576 → Calls Try.prog 73 #[.slice A' (pls.getD k []).length c', q1] W fun e w' => e = .returned (.bool (p (pls.getD k []))) ∧ Below W.heap.size W w') :
    Calls Try.prog 47 #[.slice A n c, .func (.func 73) #[] #[q1]] w fun e w' => e = .returned (.bool b) ∧ Below w.heap.size w w' := by
  have HF := Lib.hid (gidx_any p pls)
  have HB := Lib.hid hb
  clear hb
  go_enter Try.func47, Try.ntmps47
  go_wp2_with fail
  refine (saIdx_any p q1 A n c pls w H hn hcl).mono ?_
  rintro e w1 ⟨rfl, hb1⟩
  go_wp2
  go_ret
  exact ⟨ret_bool (by rw [← HB.out, ← HF.out]), hb1⟩

set_option maxHeartbeats 800000 in
theorem sbIdx_any (p : List Int → Bool) (q1 : Value) (A : Option Addr) (n c : Nat) (pls : List (List Int)) (w : World) (H : SlSS w A n pls) (hn : n ≤ 1048576)
    (hcl : ∀ k, k < n → ∀ W, Below w.heap.size w W → ∀ A' c', SlI W A' (pls.getD k []).length (pls.getD k []) → (pls.getD k []).length ≤ 1048576 → Calls Try.prog 74 #[.slice A' (pls.getD k []).length c', q1] W fun e w' => e = .returned (.bool (p (pls.getD k []))) ∧ Below W.heap.size W w') :
    Calls Try.prog 69 #[.slice A n c, .func (.func 74) #[] #[q1]] w fun e w' => e = .returned (.int .i64 (gidx p pls)) ∧ Below w.heap.size w w' := by
  have HL := Lib.hid H.1
  have HC := Lib.hid hcl
  clear hcl
  go_enter Try.func69, Try.ntmps69
  go_wp2_with fail
  go_loopw [8] (fun x wr => ∃ k : Nat, k ≤ n ∧ x = .int .i64 k ∧ Hid (∀ j, j < k → p (pls.getD j []) = false) ∧ Below w.heap.size w wr) (fun x _ => (n - (intOf x).toNat))
  case atStart => exact ⟨0, by omega, rfl, fun j hj => absurd hj (by omega), Below.refl _ _⟩
  case round =>
    obtain ⟨k, hk, rfl, hno, hbr⟩ := hrel
    by_cases hlt : k < n
    · obtain ⟨b, off, rfl, hbl, A', c', hc, hsl, hle⟩ := (H.below hbr).get hlt
      have HCK := Lib.hid (HC.out k hlt _ hbr A' c' hsl hle)
      clear H HC hsl
      cases hp : p (pls.getD k [])
      · have hn' : ∀ j, j < k + 1 → p (pls.getD j []) = false := fun j hj => by
          rcases Nat.lt_or_ge j k with h | h
          · exact hno.out j h
          · have : j = k := by omega
            subst this; exact hp
        have HN := Lib.hid hn'
        rw [hp] at HCK
        clear hn' hp
        generalize (pls.getD k []).length = q at *
        go_wp2_with fail
        refine HCK.out.mono ?_
        rintro e w1 ⟨rfl, hb1⟩
        go_wp2_with fail
        go_roundw
        case rel => exact ⟨k + 1, by omega, by go_num, HN.out, bw_trans hbr hb1⟩
        case measure => simp [intOf]; omega
      · have HF := Lib.hid (gidx_at (by rw [HL.out]; exact hlt) hp hno.out)
        rw [hp] at HCK
        clear hp
        generalize (pls.getD k []).length = q at *
        go_wp2_with fail
        refine HCK.out.mono ?_
        rintro e w1 ⟨rfl, hb1⟩
        go_wp2
        go_ret
        exact ⟨ret_int (by rw [HF.out]), bw_trans hbr hb1⟩
    · have hkk : k = n := by omega
      subst hkk
      have HF := Lib.hid (gidx_none (fun j hj => hno.out j (by rw [← HL.out]; exact hj)))
      clear H
      go_wp2
      go_ret
      exact ⟨ret_int (by rw [HF.out]), hbr⟩

set_option maxHeartbeats 800000 in
theorem sbCon_any (p : List Int → Bool) (q1 : Value) (A : Option Addr) (n c : Nat) (pls : List (List Int)) (w : World) (H : SlSS w A n pls) (hn : n ≤ 1048576) {b : Bool} (hb : pls.any p = b)
    (hcl : ∀ k, k < n → ∀ W, Below w.heap.size w W → ∀ A' c', SlI W A' (pls.getD k []).length (pls.getD k []) → (pls.getD k []).length ≤ 1048576 → Calls Try.prog 74 #[.slice A' (pls.getD k []).length c', q1] W fun e w' => e = .returned (.bool (p (pls.getD k []))) ∧ Below W.heap.size W w') :
    Calls Try.prog 47 #[.slice A n c, .func (.func 74) #[] #[q1]] w fun e w' => e = .returned (.bool b) ∧ Below w.heap.size w w' := by
  have HF := Lib.hid (gidx_any p pls)
  have HB := Lib.hid hb
  clear hb
  go_enter Try.func47, Try.ntmps47
  go_wp2_with fail
  refine (sbIdx_any p q1 A n c pls w H hn hcl).mono ?_
  rintro e w1 ⟨rfl, hb1⟩
  go_wp2
  go_ret
  exact ⟨ret_bool (by rw [← HB.out, ← HF.out]), hb1⟩

theorem saClos_any (g : Nat) (A : Option Addr) (n c : Nat) (ss : List Int) (bv : Value) (P : Option Addr) (k e : Nat) (ps : List Int) (w : World) (h0 : w.cell? ⟨g, 0, none⟩ = some (.slice A n c)) (h1 : w.cell? ⟨g, 1, none⟩ = some bv) (HS : SlI w A n ss) (HP : SlI w P k ps) (hn : n ≤ 1048576) (hk : k ≤ 1048576) (hst : stBd ss n) :
    Calls Try.prog 73 #[.slice P k e, .pointer (some ⟨g, 0, none⟩)] w fun e w' => e = .returned (.bool (!plB ss ps n)) ∧ Below w.heap.size w w' := by
  have HK := Lib.hid (placesOk_any A n c ss bv P k e ps w HS HP hn hk hst)
  clear HS HP hst
  generalize plB ss ps n = R at *
  go_enter Try.func73, Try.ntmps73
  go_wp2_with fail
  refine HK.out.mono ?_
  rintro e w1 ⟨rfl, hb1⟩
  go_wp2
  go_ret
  exact ⟨rfl, hb1⟩
theorem sbClos_any (g : Nat) (av : Value) (B : Option Addr) (m d : Nat) (bs : List BrE) (P : Option Addr) (n e : Nat) (ps : List Int) (w : World) (h0 : w.cell? ⟨g, 0, none⟩ = some av) (h1 : w.cell? ⟨g, 1, none⟩ = some (.slice B m d)) (HB : SlBr w B m bs) (HP : SlI w P n ps) (hm : m ≤ 1048576) (hn : n ≤ 1048576) (hbd : brBd bs m n) :
    Calls Try.prog 74 #[.slice P n e, .pointer (some ⟨g, 0, none⟩)] w fun e w' => e = .returned (.bool (!myB bs ps)) ∧ Below w.heap.size w w' := by
  have HK := Lib.hid (mayStand_any av B m d bs P n e ps w HB HP hm hn hbd)
  clear HB HP hbd
  generalize myB bs ps = R at *
  go_enter Try.func74, Try.ntmps74
  go_wp2_with fail
  refine HK.out.mono ?_
  rintro e w1 ⟨rfl, hb1⟩
  go_wp2
  go_ret
  exact ⟨rfl, hb1⟩

/-- The code of a slide, several places and a move. -/
def scC (ss : List Int) (n : Nat) (bs : List BrE) (m : Nat) (pls : List (List Int)) (mv : Int) : Int :=
  if vsB ss n bs m then (if pls.any (fun p => !plB ss p n) || !inB mv 0 (2 * (n : Int) - 1) then 2 else if pls.any (fun p => !myB bs p) then 9 else 0) else 1
theorem sc_ok {ss : List Int} {n : Nat} {bs : List BrE} {m : Nat} {pls : List (List Int)} {mv : Int} (h : scC ss n bs m pls mv = 0) : vsB ss n bs m = true ∧ (∀ p ∈ pls, plB ss p n = true ∧ myB bs p = true) ∧ inB mv 0 (2 * (n : Int) - 1) = true := by
  unfold scC at h
  cases hv : vsB ss n bs m
  · rw [hv] at h; simp at h
  rw [hv] at h
  simp only [if_true] at h
  split at h
  · cases h
  · rename_i h1
    split at h
    · cases h
    · rename_i h2
      simp only [Bool.or_eq_true, not_or, Bool.not_eq_true, List.any_eq_false, Bool.not_eq_true'] at h1 h2
      exact ⟨rfl, fun p hp => ⟨by have := h1.1 p hp; simpa using this, by have := h2 p hp; simpa using this⟩, by simpa using h1.2⟩

set_option maxRecDepth 100000 in
set_option maxHeartbeats 1600000 in
theorem slideCode_any (A : Option Addr) (n c : Nat) (ss : List Int) (B : Option Addr) (m d : Nat) (bs : List BrE) (mv : Int) (P : Option Addr) (k e : Nat) (pls : List (List Int)) (w : World) (HS : SlI w A n ss) (HB : SlBr w B m bs) (HP : SlSS w P k pls) (hn : n ≤ 1048576) (hm : m ≤ 1048576) (hk : k ≤ 1048576) :
    Calls Try.prog 54 #[.agg #[.slice A n c, .slice B m d], .int .i64 mv, .slice P k e] w fun e w' => e = .returned (.int .i64 (scC ss n bs m pls mv)) ∧ Below w.heap.size w w' := by
  have hb0 : Below w.heap.size w (w.alloc (.cells #[.slice A n c, .slice B m d] 33)) := bw_alloc (Below.refl _ _) _
  have HK := Lib.hid (validSlide_any A n c ss B m d bs (w.alloc (.cells #[.slice A n c, .slice B m d] 33)) (HS.below hb0) (HB.below hb0) hn hm)
  have HLS := HS.length
  have HLB := HB.1
  unfold scC
  cases hv : vsB ss n bs m
  · rw [hv] at HK
    simp only [Bool.false_eq_true, if_false]
    clear hv HLS HLB HS HB HP
    go_enter Try.func54, Try.ntmps54
    go_wp2_with fail
    refine HK.out.mono ?_
    rintro e w1 ⟨rfl, hb1⟩
    go_wp2
    go_ret
    exact ⟨rfl, bw_trans hb0 hb1⟩
  obtain ⟨n1, n4, hst, m8, hbd⟩ := vs_at HLS HLB hv
  rw [hv] at HK
  simp only [if_true]
  have HA := Lib.hid (fun W (hW : Below w.heap.size w W) (h0 : W.cell? ⟨w.heap.size, 0, none⟩ = some (.slice A n c)) (h1 : W.cell? ⟨w.heap.size, 1, none⟩ = some (.slice B m d)) b hb => saCon_any (fun p => !plB ss p n) (.pointer (some ⟨w.heap.size, 0, none⟩)) P k e pls W (HP.below hW) hk (b := b) hb
    (fun j hj W2 hW2 A' c' hsl hle => saClos_any w.heap.size A n c ss (.slice B m d) A' _ c' (pls.getD j []) W2 (cell_of hW2 h0) (cell_of hW2 h1) ((HS.below hW).below hW2) hsl hn hle hst))
  cases hp : pls.any (fun p => !plB ss p n)
  case true =>
    have HQ := Lib.hid (fun W hW h0 h1 => HA.out W hW h0 h1 _ hp)
    simp only [Bool.true_or, if_true]
    clear hv HLS HLB HS HB HP hst hbd hp HA
    go_enter Try.func54, Try.ntmps54
    go_wp2_with fail
    refine HK.out.mono ?_
    rintro e w1 ⟨rfl, hb1⟩
    have hc0 : w1.cell? ⟨w.heap.size, 0, none⟩ = some (.slice A n c) := cell_of hb1 (by go_simp)
    have hc1 : w1.cell? ⟨w.heap.size, 1, none⟩ = some (.slice B m d) := cell_of hb1 (by go_simp)
    go_wp2_with fail
    refine (HQ.out _ (bw_trans hb0 hb1) hc0 hc1).mono ?_
    rintro e w2 ⟨rfl, hb2⟩
    go_wp2
    go_ret
    exact ⟨rfl, bw_trans (bw_trans hb0 hb1) hb2⟩
  have HQ := Lib.hid (fun W hW h0 h1 => HA.out W hW h0 h1 _ hp)
  rw [Bool.false_or]
  cases hin : inB mv 0 (2 * (n : Int) - 1)
  · simp only [Bool.not_false, if_true]
    clear hv HLS HLB HS HB HP hst hbd hp HA
    go_enter Try.func54, Try.ntmps54
    go_wp2_with fail
    refine HK.out.mono ?_
    rintro e w1 ⟨rfl, hb1⟩
    have hc0 : w1.cell? ⟨w.heap.size, 0, none⟩ = some (.slice A n c) := cell_of hb1 (by go_simp)
    have hc1 : w1.cell? ⟨w.heap.size, 1, none⟩ = some (.slice B m d) := cell_of hb1 (by go_simp)
    go_wp2_with fail
    refine (HQ.out _ (bw_trans hb0 hb1) hc0 hc1).mono ?_
    rintro e w2 ⟨rfl, hb2⟩
    have hd0 := cell_of hb2 hc0
    have hd1 := cell_of hb2 hc1
    go_wp2_with (go_at_call 59; refine (within_is hin _).mono ?_; rintro e w1 ⟨rfl, rfl⟩)
    go_ret
    exact ⟨rfl, bw_trans (bw_trans hb0 hb1) hb2⟩
  simp only [Bool.not_true, Bool.false_eq_true, if_false]
  have hpall : ∀ p ∈ pls, p.length = n := fun p hpm => by
    have h1 := List.any_eq_false.1 hp p hpm
    exact (pl_at (by simpa using h1)).1
  have HMS := Lib.hid (fun W (hW : Below w.heap.size w W) (h0 : W.cell? ⟨w.heap.size, 0, none⟩ = some (.slice A n c)) (h1 : W.cell? ⟨w.heap.size, 1, none⟩ = some (.slice B m d)) => sbCon_any (fun p => !myB bs p) (.pointer (some ⟨w.heap.size, 0, none⟩)) P k e pls W (HP.below hW) hk rfl
    (fun j hj W2 hW2 A' c' hsl hle => sbClos_any w.heap.size (.slice A n c) B m d bs A' _ c' (pls.getD j []) W2 (cell_of hW2 h0) (cell_of hW2 h1) ((HB.below hW).below hW2) hsl hm hle
      (by
        have hjl : j < pls.length := by rw [HP.1]; exact hj
        have hm2 : pls.getD j [] ∈ pls := by
          rw [List.getD_eq_getElem?_getD, List.getElem?_eq_getElem hjl]; exact List.getElem_mem hjl
        rw [hpall _ hm2]; exact hbd)))
  clear hv HLS HLB HS HB HP hst hbd hp HA hpall
  generalize pls.any (fun p => !myB bs p) = R at *
  cases R
  · simp only [Bool.false_eq_true, if_false]
    go_enter Try.func54, Try.ntmps54
    go_wp2_with fail
    refine HK.out.mono ?_
    rintro e w1 ⟨rfl, hb1⟩
    have hc0 : w1.cell? ⟨w.heap.size, 0, none⟩ = some (.slice A n c) := cell_of hb1 (by go_simp)
    have hc1 : w1.cell? ⟨w.heap.size, 1, none⟩ = some (.slice B m d) := cell_of hb1 (by go_simp)
    go_wp2_with fail
    refine (HQ.out _ (bw_trans hb0 hb1) hc0 hc1).mono ?_
    rintro e w2 ⟨rfl, hb2⟩
    have hd0 := cell_of hb2 hc0
    have hd1 := cell_of hb2 hc1
    go_wp2_with (go_at_call 59; refine (within_is hin _).mono ?_; rintro e w1 ⟨rfl, rfl⟩)
    refine (HMS.out _ (bw_trans (bw_trans hb0 hb1) hb2) hd0 hd1).mono ?_
    rintro e w3 ⟨rfl, hb3⟩
    go_wp2
    go_ret
    exact ⟨rfl, bw_trans (bw_trans (bw_trans hb0 hb1) hb2) hb3⟩
  · simp only [if_true]
    go_enter Try.func54, Try.ntmps54
    go_wp2_with fail
    refine HK.out.mono ?_
    rintro e w1 ⟨rfl, hb1⟩
    have hc0 : w1.cell? ⟨w.heap.size, 0, none⟩ = some (.slice A n c) := cell_of hb1 (by go_simp)
    have hc1 : w1.cell? ⟨w.heap.size, 1, none⟩ = some (.slice B m d) := cell_of hb1 (by go_simp)
    go_wp2_with fail
    refine (HQ.out _ (bw_trans hb0 hb1) hc0 hc1).mono ?_
    rintro e w2 ⟨rfl, hb2⟩
    have hd0 := cell_of hb2 hc0
    have hd1 := cell_of hb2 hc1
    go_wp2_with (go_at_call 59; refine (within_is hin _).mono ?_; rintro e w1 ⟨rfl, rfl⟩)
    refine (HMS.out _ (bw_trans (bw_trans hb0 hb1) hb2) hd0 hd1).mono ?_
    rintro e w3 ⟨rfl, hb3⟩
    go_wp2
    go_ret
    exact ⟨rfl, bw_trans (bw_trans (bw_trans hb0 hb1) hb2) hb3⟩

set_option maxRecDepth 100000 in
set_option maxHeartbeats 1600000 in
theorem l13Code_any (g : Nat) (A : Option Addr) (n c : Nat) (ss : List Int) (B : Option Addr) (m d : Nat) (bs : List BrE) (P : Option Addr) (k e : Nat) (ps : List Int) (w : World) (HD : SdP w g A n c ss B m d bs) (HP : SlI w P k ps) (hn : n ≤ 1048576) (hm : m ≤ 1048576) (hk : k ≤ 1048576) :
    Calls Try.prog 53 #[.pointer (some ⟨g, 0, none⟩), .slice P k e] w fun e w' => e = .returned (.int .i64 (if vsB ss n bs m then (if plB ss ps n then (if myB bs ps then 0 else 9) else 2) else 1)) ∧ Below w.heap.size w w' := by
  have HK := Lib.hid (l13Ok_any g A n c ss B m d bs w HD hn hm)
  have HLS := HD.2.2.1.length
  have HLB := HD.2.2.2.1.1
  have HLP := HP.length
  cases hv : vsB ss n bs m
  · rw [hv] at HK
    simp only [Bool.false_eq_true, if_false]
    clear hv HLS HLB HLP HD HP
    go_enter Try.func53, Try.ntmps53
    go_wp2_with fail
    refine HK.out.mono ?_
    rintro e w1 ⟨rfl, hb1⟩
    go_wp2
    go_ret
    exact ⟨rfl, hb1⟩
  obtain ⟨n1, n4, hst, m8, hbd⟩ := vs_at HLS HLB hv
  rw [hv] at HK
  simp only [if_true]
  have HPL := Lib.hid (fun W hW => l13Places_any g A n c ss B m d bs P k e ps W (HD.below hW) (HP.below hW) hn hk hst)
  cases hp : plB ss ps n
  · rw [hp] at HPL
    simp only [Bool.false_eq_true, if_false]
    clear hv HLS HLB HLP HD HP hst hbd hp
    go_enter Try.func53, Try.ntmps53
    go_wp2_with fail
    refine HK.out.mono ?_
    rintro e w1 ⟨rfl, hb1⟩
    go_wp2_with fail
    refine (HPL.out _ hb1).mono ?_
    rintro e w2 ⟨rfl, hb2⟩
    go_wp2
    go_ret
    exact ⟨rfl, bw_trans hb1 hb2⟩
  rw [hp] at HPL
  simp only [if_true]
  have hkn : k = n := by rw [← HLP]; exact (pl_at hp).1
  subst hkn
  have HMY := Lib.hid (fun W hW => l13May_any g A k c ss B m d bs P k e ps W (HD.below hW) (HP.below hW) hm hk hbd)
  clear hv HLS HLB HLP HD HP hst hbd hp
  cases hmy : myB bs ps
  · rw [hmy] at HMY
    clear hmy
    simp only [Bool.false_eq_true, if_false]
    go_enter Try.func53, Try.ntmps53
    go_wp2_with fail
    refine HK.out.mono ?_
    rintro e w1 ⟨rfl, hb1⟩
    go_wp2_with fail
    refine (HPL.out _ hb1).mono ?_
    rintro e w2 ⟨rfl, hb2⟩
    go_wp2_with fail
    refine (HMY.out _ (bw_trans hb1 hb2)).mono ?_
    rintro e w3 ⟨rfl, hb3⟩
    go_wp2
    go_ret
    exact ⟨rfl, bw_trans (bw_trans hb1 hb2) hb3⟩
  · rw [hmy] at HMY
    clear hmy
    simp only [if_true]
    go_enter Try.func53, Try.ntmps53
    go_wp2_with fail
    refine HK.out.mono ?_
    rintro e w1 ⟨rfl, hb1⟩
    go_wp2_with fail
    refine (HPL.out _ hb1).mono ?_
    rintro e w2 ⟨rfl, hb2⟩
    go_wp2_with fail
    refine (HMY.out _ (bw_trans hb1 hb2)).mono ?_
    rintro e w3 ⟨rfl, hb3⟩
    go_wp2
    go_ret
    exact ⟨rfl, bw_trans (bw_trans hb1 hb2) hb3⟩
end Go.Proofs.Yticohpimkicphaa
