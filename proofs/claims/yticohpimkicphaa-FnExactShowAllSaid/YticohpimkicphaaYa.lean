/-
  Slides: the law's own conversions, sizes, comparing.
-/
import Derived.Test.YticohpimkicphaaSb
import Derived.Test.YticohpimkicphaaSbM
import Derived.Test.YticohpimkicphaaRow
import Derived.Test.YticohpimkicphaaRowE
import Derived.Test.YticohpimkicphaaApp
import Derived.Test.YticohpimkicphaaMk
namespace Go.Proofs.Yticohpimkicphaa
open Go.RowKit

theorem szI_any (A : Option Addr) (n c : Nat) (l : Int) (w : World) (hn : n ≤ 9223372036854775807) (hl : 0 ≤ l ∧ l ≤ 1048576) :
    Calls Try.prog 38 #[.slice A n c, .int .i64 l] w fun e w' => e = .returned (.int .i64 (if l - (n : Int) < 0 then -1 else l - (n : Int))) ∧ Below w.heap.size w w' := by
  obtain ⟨h1, h2⟩ := hl
  by_cases h : l - (n : Int) < 0
  · rw [if_pos h]
    go_enter Try.func38, Try.ntmps38
    go_wp2
    go_ret
    exact ⟨rfl, Below.refl _ _⟩
  · rw [if_neg h]
    go_enter Try.func38, Try.ntmps38
    go_wp2
    go_ret
    exact ⟨rfl, Below.refl _ _⟩
theorem szB_any (A : Option Addr) (n c : Nat) (l : Int) (w : World) (hn : n ≤ 9223372036854775807) (hl : 0 ≤ l ∧ l ≤ 1048576) :
    Calls Try.prog 39 #[.slice A n c, .int .i64 l] w fun e w' => e = .returned (.int .i64 (if l - (n : Int) < 0 then -1 else l - (n : Int))) ∧ Below w.heap.size w w' := by
  obtain ⟨h1, h2⟩ := hl
  by_cases h : l - (n : Int) < 0
  · rw [if_pos h]
    go_enter Try.func39, Try.ntmps39
    go_wp2
    go_ret
    exact ⟨rfl, Below.refl _ _⟩
  · rw [if_neg h]
    go_enter Try.func39, Try.ntmps39
    go_wp2
    go_ret
    exact ⟨rfl, Below.refl _ _⟩
/-- What is left of l behind a slide. -/
def szD (l : Int) (n m : Nat) : Int := if l - (n : Int) < 0 then -1 else if l - (n : Int) - (m : Int) < 0 then -1 else l - (n : Int) - (m : Int)
theorem szD_le {l : Int} {n m : Nat} (hl : l ≤ 1048576) : szD l n m ≤ 1048576 ∧ -1 ≤ szD l n m := by unfold szD; split <;> (try split) <;> omega
theorem szD_ok {l : Int} {n m : Nat} (hl : l ≤ 1048576) (h : ¬ szD l n m < 0) : n ≤ 1048576 ∧ m ≤ 1048576 := by unfold szD at h; split at h <;> (try split at h) <;> omega
theorem szSlide_any (A : Option Addr) (n c : Nat) (B : Option Addr) (m d : Nat) (l : Int) (w : World) (hn : n ≤ 9223372036854775807) (hm : m ≤ 9223372036854775807) (hl : 0 ≤ l ∧ l ≤ 1048576) :
    Calls Try.prog 11 #[.agg #[.slice A n c, .slice B m d], .int .i64 l] w fun e w' => e = .returned (.int .i64 (szD l n m)) ∧ Below w.heap.size w w' := by
  have HI := Lib.hid (fun W => szI_any A n c l W hn hl)
  unfold szD
  by_cases h : l - (n : Int) < 0
  · rw [if_pos h]
    rw [if_pos h] at HI
    go_enter Try.func11, Try.ntmps11
    go_wp2_with fail
    refine (HI.out _).mono ?_
    rintro e w1 ⟨rfl, hb1⟩
    go_wp2
    go_ret
    exact ⟨rfl, bw_trans (bw_alloc (Below.refl _ _) _) hb1⟩
  · rw [if_neg h]
    rw [if_neg h] at HI
    have HB := Lib.hid (fun W => szB_any B m d (l - (n : Int)) W hm (by omega))
    have h0 : ¬ (l - (n : Int) < 0) := h
    generalize l - (n : Int) = k at *
    by_cases h2 : k - (m : Int) < 0
    · rw [if_pos h2]
      rw [if_pos h2] at HB
      go_enter Try.func11, Try.ntmps11
      go_wp2_with fail
      refine (HI.out _).mono ?_
      rintro e w1 ⟨rfl, hb1⟩
      have hc1 : w1.cell? ⟨w.heap.size, 1, none⟩ = some (.slice B m d) := cell_of hb1 (by go_simp)
      go_wp2_with fail
      refine (HB.out _).mono ?_
      rintro e w2 ⟨rfl, hb2⟩
      go_wp2
      go_ret
      exact ⟨rfl, bw_trans (bw_trans (bw_alloc (Below.refl _ _) _) hb1) hb2⟩
    · rw [if_neg h2]
      rw [if_neg h2] at HB
      go_enter Try.func11, Try.ntmps11
      go_wp2_with fail
      refine (HI.out _).mono ?_
      rintro e w1 ⟨rfl, hb1⟩
      have hc1 : w1.cell? ⟨w.heap.size, 1, none⟩ = some (.slice B m d) := cell_of hb1 (by go_simp)
      go_wp2_with fail
      refine (HB.out _).mono ?_
      rintro e w2 ⟨rfl, hb2⟩
      go_wp2
      go_ret
      exact ⟨rfl, bw_trans (bw_trans (bw_alloc (Below.refl _ _) _) hb1) hb2⟩

theorem OwnI.setOther {w : World} {B : Nat} {v : Value} {xs : List Int} (h : OwnI w B v xs) {p : Addr} (hne : v.ownBlock ≠ some p.block) (u : Value) : OwnI (w.setCell p u) B v xs :=
  World.ownsRow.kept h (only_setCell (only_refl w (some p.block)) (.inl rfl) u) (.inr hne)
theorem cell_other {w : World} {p q : Addr} {x : Value} (e : p.block ≠ q.block) : (w.setCell p x).cell? q = w.cell? q := by
  apply World.cell?_setCell_other; intro h; exact e (by rw [h])
theorem SlBr.moved {w w' : World} {g m : Nat} {bs : List BrE} (h : SlBr w (some ⟨g, 0, none⟩) m bs) (hs : w.heap.size ≤ w'.heap.size) (hc : ∀ j, w'.cell? ⟨g, j, none⟩ = w.cell? ⟨g, j, none⟩) : SlBr w' (some ⟨g, 0, none⟩) m bs := by
  refine ⟨h.1, fun hm => ?_⟩
  obtain ⟨b, off, e, hl, hh⟩ := h.2 hm
  injection e with e
  injection e with e1 e2
  subst e1; subst e2
  refine ⟨g, 0, rfl, Nat.lt_of_lt_of_le hl hs, fun k hk => ?_⟩
  rw [hc, hc, hc, hc]
  exact hh k hk
/-- A fresh copy of a slide: its two rows lie in the blocks g1 and g2. -/
def NewD (w w' : World) (g1 g2 n m : Nat) (ss : List Int) (bs : List BrE) : Prop :=
  w.heap.size ≤ g1 ∧ g1 < g2 ∧ g2 < w'.heap.size ∧ OwnI w' g1 (.slice (some ⟨g1, 0, none⟩) n n) ss ∧ SlBr w' (some ⟨g2, 0, none⟩) m bs ∧ (∀ j, w'.frozen? ⟨g2, j, none⟩ = false) ∧ Below w.heap.size w w'
theorem NewD.sl {w w' : World} {g1 g2 n m : Nat} {ss : List Int} {bs : List BrE} (h : NewD w w' g1 g2 n m ss bs) : SlI w' (some ⟨g1, 0, none⟩) n ss := by
  have h2 := h.2.2.2.1.sl; rw [← h2.1] at h2; exact h2.2
theorem NewD.br {w w' : World} {g1 g2 n m : Nat} {ss : List Int} {bs : List BrE} (h : NewD w w' g1 g2 n m ss bs) : SlBr w' (some ⟨g2, 0, none⟩) m bs := h.2.2.2.2.1
theorem NewD.bel {w w' : World} {g1 g2 n m : Nat} {ss : List Int} {bs : List BrE} (h : NewD w w' g1 g2 n m ss bs) : Below w.heap.size w w' := h.2.2.2.2.2.2

set_option maxHeartbeats 800000 in
theorem toSlide_any (A : Option Addr) (n c : Nat) (ss : List Int) (B : Option Addr) (m d : Nat) (bs : List BrE) (w : World) (HS : SlI w A n ss) (HB : SlBr w B m bs) (hn : n ≤ 1048576) (hm : m ≤ 1048576) :
    Calls Try.prog 14 #[.agg #[.slice A n c, .slice B m d]] w fun e w' => ∃ g1 g2, e = .returned (.agg #[.slice (some ⟨g1, 0, none⟩) n n, .slice (some ⟨g2, 0, none⟩) m m]) ∧ NewD w w' g1 g2 n m ss bs := by
  have HI := Lib.hid (fun W (hW : Below w.heap.size w W) => toInts_any A n c ss W (HS.below hW) hn)
  have HF := Lib.hid (fun W (hW : Below w.heap.size w W) => BrtoSF_any B m d bs W (HB.below hW) hm)
  have HL := Lib.hid HS.length
  clear HS HB
  go_enter Try.func14, Try.ntmps14
  go_wp2_with fail
  refine (HI.out _ (by (repeat (first | exact Below.refl _ _ | refine bw_drew ?_ | refine bw_drewN ?_ _ | refine bw_set ?_ (by simp; try omega) _ | refine bw_alloc ?_ _ | refine bw_trans ?_ (by assumption) | assumption)))).mono ?_
  rintro e w1 ⟨rfl, hw1⟩
  have hb1 : Below w.heap.size w w1 := by rw [hw1]; (repeat (first | exact Below.refl _ _ | refine bw_drew ?_ | refine bw_drewN ?_ _ | refine bw_set ?_ (by simp; try omega) _ | refine bw_alloc ?_ _ | refine bw_trans ?_ (by assumption) | assumption))
  have hz1 : w1.heap.size = w.heap.size + 4 := by rw [hw1]; simp
  have Ho := OwnI.made (w := ((w.alloc (.cells #[.slice A n c, .slice B m d] 25)).alloc (.cells #[.slice none 0 0, .slice none 0 0] 33)).alloc (.cells #[.slice none 0 0, .slice none 0 0] 33)) HL.out hn
  rw [← hw1] at Ho
  have hc1 : w1.cell? ⟨w.heap.size, 1, none⟩ = some (.slice B m d) := by rw [hw1]; go_simp
  have hc2 : w1.cell? ⟨w.heap.size + 1 + 1, 0, none⟩ = some (.slice none 0 0) := by rw [hw1]; go_simp
  have hc3 : w1.cell? ⟨w.heap.size + 1 + 1, 1, none⟩ = some (.slice none 0 0) := by rw [hw1]; go_simp
  have hc4 : w1.cell? ⟨w.heap.size + 1, 0, none⟩ = some (.slice none 0 0) := by rw [hw1]; go_simp
  have hc5 : w1.cell? ⟨w.heap.size + 1, 1, none⟩ = some (.slice none 0 0) := by rw [hw1]; go_simp
  have hf2 : w1.frozen? ⟨w.heap.size + 1 + 1, 0, none⟩ = false := by rw [hw1]; go_simp
  have hf3 : w1.frozen? ⟨w.heap.size + 1 + 1, 1, none⟩ = false := by rw [hw1]; go_simp
  have hf4 : w1.frozen? ⟨w.heap.size + 1, 0, none⟩ = false := by rw [hw1]; go_simp
  have hf5 : w1.frozen? ⟨w.heap.size + 1, 1, none⟩ = false := by rw [hw1]; go_simp
  clear hw1 HI
  go_wp2_with fail
  have hbs : Below w.heap.size w (w1.setCell ⟨w.heap.size + 1 + 1, 0, none⟩ (.slice (some ⟨w.heap.size + 1 + 1 + 1, 0, none⟩) n n)) := bw_set hb1 (by simp; omega) _
  refine (HF.out _ hbs).mono ?_
  rintro e w2 ⟨rfl, X2, F2, Z2, hb2⟩
  have hz2 : (w1.setCell ⟨w.heap.size + 1 + 1, 0, none⟩ (.slice (some ⟨w.heap.size + 1 + 1 + 1, 0, none⟩) n n)).heap.size = w.heap.size + 4 := by simp [hz1]
  have hd1 : w2.cell? ⟨w.heap.size + 1 + 1, 0, none⟩ = some (.slice (some ⟨w.heap.size + 1 + 1 + 1, 0, none⟩) n n) := cell_of hb2 (by go_simp)
  have hd2 : w2.cell? ⟨w.heap.size + 1 + 1, 1, none⟩ = some (.slice none 0 0) := cell_of hb2 (by go_simp)
  have hd3 : w2.cell? ⟨w.heap.size + 1, 0, none⟩ = some (.slice none 0 0) := cell_of hb2 (by go_simp)
  have hd4 : w2.cell? ⟨w.heap.size + 1, 1, none⟩ = some (.slice none 0 0) := cell_of hb2 (by go_simp)
  have hfz : ∀ b o, b < w.heap.size + 4 → w2.frozen? ⟨b, o, none⟩ = w1.frozen? ⟨b, o, none⟩ := fun b o hb => by
    rw [hb2.frozen (p := ⟨b, o, none⟩) (by rw [hz2]; exact hb)]; simp
  have he2 : w2.frozen? ⟨w.heap.size + 1 + 1, 1, none⟩ = false := by rw [hfz _ _ (by omega)]; exact hf3
  have he3 : w2.frozen? ⟨w.heap.size + 1, 0, none⟩ = false := by rw [hfz _ _ (by omega)]; exact hf4
  have he4 : w2.frozen? ⟨w.heap.size + 1, 1, none⟩ = false := by rw [hfz _ _ (by omega)]; exact hf5
  have Ho2 : OwnI w2 (w.heap.size + 1 + 1 + 1) (.slice (some ⟨w.heap.size + 1 + 1 + 1, 0, none⟩) n n) ss := by
    have h0 := (OwnI.setOther Ho (p := ⟨w.heap.size + 1 + 1, 0, none⟩) (by simp [Value.ownBlock]) (.slice (some ⟨w.heap.size + 1 + 1 + 1, 0, none⟩) n n)).below hb2
    simpa using h0
  rw [hz2] at Z2 ⊢
  have hbw : Below w.heap.size w w2 := bw_trans hbs hb2
  have HX := Lib.hid (show SlBr w2 (some ⟨w.heap.size + 4, 0, none⟩) m bs by rw [← hz2]; exact X2)
  have HFF := Lib.hid (show ∀ j, w2.frozen? ⟨w.heap.size + 4, j, none⟩ = false by rw [← hz2]; exact F2)
  have HO := Lib.hid Ho2
  clear X2 F2 Ho2 Ho hbs hb2 hz2 hfz HF
  go_wp2
  refine bodyPost_ret (v := .agg #[.slice (some ⟨w.heap.size + 1 + 1 + 1, 0, none⟩) n n, .slice (some ⟨w.heap.size + 4, 0, none⟩) m m]) (by simp [results, Try.results14, go_sem, *]) rfl ⟨w.heap.size + 1 + 1 + 1, w.heap.size + 4, rfl, by omega, by omega, by simpa using Z2, ?_, ?_, ?_, ?_⟩
  · exact (((HO.out.setOther (by simp [Value.ownBlock] <;> omega) _).setOther (by simp [Value.ownBlock] <;> omega) _).setOther (by simp [Value.ownBlock] <;> omega) _)
  · exact HX.out.moved (by simp) (fun j => by rw [cell_other (by simp <;> omega), cell_other (by simp <;> omega), cell_other (by simp <;> omega)])
  · intro j; simpa using HFF.out j
  · exact bw_set (bw_set (bw_set hbw (by simp <;> omega) _) (by simp <;> omega) _) (by simp <;> omega) _

/-- Two slides compared. -/
theorem eqSlide_any (A : Option Addr) (n c : Nat) (ss : List Int) (B : Option Addr) (m d : Nat) (bs : List BrE) (A' : Option Addr) (c' : Nat) (B' : Option Addr) (d' : Nat) (w : World) (HS : SlI w A n ss) (HB : SlBr w B m bs) (HS' : SlI w A' n ss) (HB' : SlBr w B' m bs) (hn : n ≤ 1048576) (hm : m ≤ 1048576) :
    Calls Try.prog 18 #[.agg #[.slice A n c, .slice B m d], .agg #[.slice A' n c', .slice B' m d']] w fun e w' => e = .returned (.bool true) ∧ Below w.heap.size w w' := by
  have HI := Lib.hid (fun W (hW : Below w.heap.size w W) => eqInts_any A A' n c c' ss W (HS.below hW) (HS'.below hW) hn)
  have HF := Lib.hid (fun W (hW : Below w.heap.size w W) => BreqS_any B B' m d d' bs W (HB.below hW) (HB'.below hW) hm)
  clear HS HB HS' HB'
  go_enter Try.func18, Try.ntmps18
  go_wp2_with fail
  refine (HI.out _ (by (repeat (first | exact Below.refl _ _ | refine bw_drew ?_ | refine bw_drewN ?_ _ | refine bw_set ?_ (by simp; try omega) _ | refine bw_alloc ?_ _ | refine bw_trans ?_ (by assumption) | assumption)))).mono ?_
  rintro e w1 ⟨rfl, hb1⟩
  have hc1 : w1.cell? ⟨w.heap.size, 1, none⟩ = some (.slice B m d) := cell_of hb1 (by go_simp)
  have hc2 : w1.cell? ⟨w.heap.size + 1, 1, none⟩ = some (.slice B' m d') := cell_of hb1 (by go_simp)
  have hbw : Below w.heap.size w w1 := bw_trans (by (repeat (first | exact Below.refl _ _ | refine bw_drew ?_ | refine bw_drewN ?_ _ | refine bw_set ?_ (by simp; try omega) _ | refine bw_alloc ?_ _ | refine bw_trans ?_ (by assumption) | assumption))) hb1
  go_wp2_with fail
  refine (HF.out _ hbw).mono ?_
  rintro e w2 ⟨rfl, hb2⟩
  go_wp2
  go_ret
  exact ⟨rfl, bw_trans hbw hb2⟩

/-- The marks over a slide that the law has made. -/
theorem markSlide_any (g1 g2 n m : Nat) (ss : List Int) (bs : List BrE) (k0 : Int) (w : World) (HO : OwnI w g1 (.slice (some ⟨g1, 0, none⟩) n n) ss) (HB : SlBr w (some ⟨g2, 0, none⟩) m bs) (hf : ∀ j, w.frozen? ⟨g2, j, none⟩ = false) (hlt : g1 < g2) (hg : g2 < w.heap.size) (hn : n ≤ 1048576) (hm : m ≤ 1048576) (hk0 : 0 ≤ k0 ∧ k0 ≤ 100000000) :
    Calls Try.prog 23 #[.agg #[.slice (some ⟨g1, 0, none⟩) n n, .slice (some ⟨g2, 0, none⟩) m m], .int .i64 k0] w fun e w' => e = .returned (.int .i64 (k0 + (n : Int) + 4 * (m : Int))) ∧ Below g1 w w' ∧ ∀ B v zs, g2 < B → OwnI w B v zs → OwnI w' B v zs := by
  obtain ⟨k1, k2⟩ := hk0
  have hb0 : Below g1 w (w.alloc (.cells #[.slice (some ⟨g1, 0, none⟩) n n, .slice (some ⟨g2, 0, none⟩) m m] 33)) := (Below.refl g1 w).alloc (by omega) _
  have HM := Lib.hid (markI_any (some ⟨g1, 0, none⟩) n n g1 k0 ss _ (HO.alloc (.cells #[.slice (some ⟨g1, 0, none⟩) n n, .slice (some ⟨g2, 0, none⟩) m m] 33)) hn ⟨by omega, by omega⟩)
  have HB2 := Lib.hid (HB.below (bw_alloc (Below.refl _ _) (.cells #[.slice (some ⟨g1, 0, none⟩) n n, .slice (some ⟨g2, 0, none⟩) m m] 33)))
  have HF := Lib.hid hf
  have HK := Lib.hid (fun B v zs (h : OwnI w B v zs) => h.alloc (.cells #[.slice (some ⟨g1, 0, none⟩) n n, .slice (some ⟨g2, 0, none⟩) m m] 33))
  clear HO HB hf
  go_enter Try.func23, Try.ntmps23
  go_wp2_with fail
  refine HM.out.mono ?_
  rintro e w1 ⟨rfl, _, hg, _⟩
  replace hg : (w.alloc (.cells #[.slice (some ⟨g1, 0, none⟩) n n, .slice (some ⟨g2, 0, none⟩) m m] 33)).grownBy w1 (some g1) := hg
  have hc1 : w1.cell? ⟨w.heap.size, 1, none⟩ = some (.slice (some ⟨g2, 0, none⟩) m m) := (hg.cell_far ⟨w.heap.size, 1, none⟩ (by simp) (by simp; omega)).trans (by go_simp)
  have hs1 := hg.size
  rw [World.size_alloc] at hs1
  have X1 : SlBr w1 (some ⟨g2, 0, none⟩) m bs := HB2.out.moved hg.size (fun j => hg.cell_far ⟨g2, j, none⟩ (by simp; omega) (by simp; omega))
  have F1 : ∀ j, w1.frozen? ⟨g2, j, none⟩ = false := fun j => (hg.frozen_far ⟨g2, j, none⟩ (by simp; omega) (by simp; omega)).trans (by have h := HF.out j; go_simp)
  have hb1 := bw_from hb0 (below_grown hg (fun j hj => by injection hj with hj; omega) (by simp; omega))
  have HK1 := Lib.hid (fun B v zs (hB : g2 < B) (h : OwnI w B v zs) => (HK.out B v zs h).keptRow hg (by omega))
  have HBM := Lib.hid (Brmark_any m m g2 bs (k0 + (n : Int)) w1 X1 F1 (by omega) hm ⟨by omega, by omega⟩)
  clear X1 F1 HM HB2 HF HK hg hb0
  go_wp2_with fail
  refine HBM.out.mono ?_
  rintro e w2 ⟨rfl, hg2⟩
  have HK2 := Lib.hid (fun B v zs (hB : g2 < B) (h : OwnI w B v zs) => (HK1.out B v zs hB h).keptRow hg2 hB)
  have hb2 := bw_from hb1 (below_grown hg2 (fun j hj => by injection hj with hj; omega) (by omega))
  clear hg2 HBM HK1
  go_wp2
  go_ret
  exact ⟨rfl, hb2, HK2.out⟩
end Go.Proofs.Yticohpimkicphaa
