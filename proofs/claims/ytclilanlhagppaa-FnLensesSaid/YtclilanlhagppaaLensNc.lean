/-
  FnLenses: for every input the law returns true, and what was there reads as before.
-/
import Derived.Test.YtclilanlhagppaaLensNa
import Derived.Test.YtclilanlhagppaaLensNb
import Derived.Test.YtclilanlhagppaaLensNd
import Derived.Test.YtclilanlhagppaaLensNe
namespace Go.Proofs.Ytclilanlhagppaa
open Go.RowKit
set_option linter.unusedVariables false
set_option linter.unusedSimpArgs false

theorem mul_up {a b A B : Int} (ha : 0 ≤ a) (hA : a ≤ A) (hb : 0 ≤ b) (hB : b ≤ B) : 0 ≤ a * b ∧ a * b ≤ A * B :=
  ⟨Int.mul_nonneg ha hb, Int.mul_le_mul hA hB hb (by omega)⟩

theorem lenses_short (a1 a2 : Option Addr) (l m c1 c2 : Nat) (z1 z2 : List Int) (w : World) (h1 : IsRow .u8 w a1 l c1 z1) (h2 : IsRow .u8 w a2 m c2 z2) (hl : l ≤ 3000) (hm : m ≤ 3000) :
    Calls Try.prog 3 #[.slice a1 l c1, .slice a2 m c2] w fun e w' => e = .returned (.bool true) ∧ Below w.heap.size w w' := by
  have hlng : lng l m = false := decide_eq_false (by omega)
  have hmx : l ≤ maxLen ∧ m ≤ maxLen := by unfold maxLen; omega
  have C0 := Lib.hid (fun W => a2Long_is a1 a2 l m c1 c2 W hlng hmx.1 hmx.2)
  have CX := Lib.hid (fun W hW => a2At_any a1 l c1 z1 0 40 W (h1.below hW) hl (by omega) (by omega))
  have CY := Lib.hid (fun W hW => a2At_any a2 m c2 z2 0 200 W (h2.below hW) hm (by omega) (by omega))
  have CZ := Lib.hid (fun W hW => a2At_any a2 m c2 z2 1 200 W (h2.below hW) hm (by omega) (by omega))
  have CV := Lib.hid (fun W hW => a2At_any a2 m c2 z2 2 30 W (h2.below hW) hm (by omega) (by omega))
  obtain ⟨x1, x2⟩ := atV_bd (l := l) (zs := z1) (i := 0) (n := 40) (by omega)
  obtain ⟨y1, y2⟩ := atV_bd (l := m) (zs := z2) (i := 0) (n := 200) (by omega)
  obtain ⟨k1, k2⟩ := atV_bd (l := m) (zs := z2) (i := 1) (n := 200) (by omega)
  obtain ⟨v1, v2⟩ := atV_bd (l := m) (zs := z2) (i := 2) (n := 30) (by omega)
  generalize atV l z1 0 40 = x at *
  generalize atV m z2 0 200 = y at *
  generalize atV m z2 1 200 = z at *
  generalize atV m z2 2 30 = v at *
  obtain ⟨f, hf⟩ : ∃ f, 10 * (1 + x) = f := ⟨_, rfl⟩
  obtain ⟨o, ho⟩ : ∃ o, f + y - 20 = o := ⟨_, rfl⟩
  obtain ⟨t, ht⟩ : ∃ t, f + 10 * (1 + z) = t := ⟨_, rfl⟩
  obtain ⟨s, hs⟩ : ∃ s, 5 * (1 + v) = s := ⟨_, rfl⟩
  by_cases hn : o ≤ f
  · by_cases hp : 1 < o
    · exact lenses_nearF a1 a2 l m c1 c2 w x y f o hf ho (by omega) (by omega) (by omega) (by omega) hn hp x1 (by omega) y1 (by omega) C0 CX CY
    · exact lenses_nearN a1 a2 l m c1 c2 w x y f o hf ho (by omega) (by omega) (by omega) (by omega) hn (by omega) x1 (by omega) y1 (by omega) C0 CX CY
  · obtain ⟨N, D, g, hi, ⟨N1, N2⟩, ⟨D1, D2⟩, g1, hN, hD⟩ := im_far (f := f) (o := o) (by omega) (by omega)
    obtain ⟨E, G, he, ⟨e1, e2⟩, ⟨e3, e4⟩, hE⟩ := en_far (f := f) (t := t) (by omega) (by omega)
    obtain ⟨M, S, g', hsc, ⟨M1, M2⟩, ⟨S1, S2⟩, hM, _, _, _⟩ := sc_far (f := f) (t := t) (s := s) (by omega) (by omega) (by omega)
    have HC1 := imageAt_any f o
    have HC2 := objectFor_any f o
    have HC3 := enlargementOf_any f t
    have HC4 := screenSize_any f t s
    rw [hi] at HC1 HC2
    rw [he] at HC3
    rw [hsc] at HC4
    have hc := cross hN hD
    have hr := recip g1 hN hD
    obtain ⟨q1, q2⟩ := mul_up (a := N) (b := o - f) (A := 1000000) (B := 579) (by omega) N2 (by omega) (by omega)
    obtain ⟨q3, q4⟩ := mul_up (a := f) (b := o) (A := 400) (B := 579) (by omega) (by omega) (by omega) (by omega)
    obtain ⟨q5, q6⟩ := mul_up (a := f * o) (b := D) (A := 400 * 579) (B := 1000) q3 q4 (by omega) (by omega)
    obtain ⟨q7, q8⟩ := mul_up (a := N) (b := o) (A := 1000000) (B := 579) (by omega) N2 (by omega) (by omega)
    obtain ⟨q9, q10⟩ := mul_up (a := D) (b := o) (A := 1000) (B := 579) (by omega) D2 (by omega) (by omega)
    obtain ⟨q11, q12⟩ := mul_up (a := f) (b := N + D * o) (A := 400) (B := 1579000) (by omega) (by omega) (by omega) (by omega)
    obtain ⟨p1, p2⟩ := mul_up (a := E) (b := f) (A := 3000) (B := 400) (by omega) e2 (by omega) (by omega)
    obtain ⟨p3, p4⟩ := mul_up (a := t - f) (b := G) (A := 2000) (B := 400) (by omega) (by omega) (by omega) (by omega)
    obtain ⟨p5, p6⟩ := mul_up (a := M) (b := f) (A := 1000000) (B := 400) (by omega) M2 (by omega) (by omega)
    obtain ⟨p7, p8⟩ := mul_up (a := s) (b := t - f) (A := 150) (B := 2000) (by omega) (by omega) (by omega) (by omega)
    obtain ⟨p9, p10⟩ := mul_up (a := s * (t - f)) (b := S) (A := 150 * 2000) (B := 400) p7 p8 (by omega) (by omega)
    by_cases hS : S = 1
    · subst hS
      by_cases hM' : M ≤ 100000
      · obtain ⟨r1, r2⟩ := ff_far (f := f) (t := t) (s := s) (N := M) (by omega) (by omega) (by omega) ⟨M1, hM'⟩ (by rw [hM, Int.mul_one])
        have HC5 := focalFor_any t s M
        have HC6 := throwFor_any f s M
        rw [r1] at HC5
        rw [r2] at HC6
        exact lenses_farK a1 a2 l m c1 c2 w x y z v f o N D t s E G M 1 hf ho ht hs (by omega) (by omega) (by omega) (by omega) x1 (by omega) y1 (by omega) k1 (by omega) v1 (by omega)
          N1 N2 D1 D2 q1 (by omega) q3 (by omega) q5 (by omega) q7 (by omega) q9 (by omega) q11 (by omega) (bne_eq hc) (bne_eq hr)
          (by omega) (by omega) (by omega) (by omega) e1 e2 e3 e4 p1 (by omega) p3 (by omega) (bne_eq hE) M1 M2 S1 S2 p5 (by omega) p7 (by omega) p9 (by omega) (bne_eq hM)
          C0 CX CY CZ CV (Lib.hid HC1) (Lib.hid HC2) (Lib.hid HC3) (Lib.hid HC4) (by decide) hM' (Lib.hid HC5) (Lib.hid HC6)
      · exact lenses_farH a1 a2 l m c1 c2 w x y z v f o N D t s E G M 1 hf ho ht hs (by omega) (by omega) (by omega) (by omega) x1 (by omega) y1 (by omega) k1 (by omega) v1 (by omega)
          N1 N2 D1 D2 q1 (by omega) q3 (by omega) q5 (by omega) q7 (by omega) q9 (by omega) q11 (by omega) (bne_eq hc) (bne_eq hr)
          (by omega) (by omega) (by omega) (by omega) e1 e2 e3 e4 p1 (by omega) p3 (by omega) (bne_eq hE) M1 M2 S1 S2 p5 (by omega) p7 (by omega) p9 (by omega) (bne_eq hM)
          C0 CX CY CZ CV (Lib.hid HC1) (Lib.hid HC2) (Lib.hid HC3) (Lib.hid HC4) (by decide) (by omega)
    · exact lenses_farF a1 a2 l m c1 c2 w x y z v f o N D t s E G M S hf ho ht hs (by omega) (by omega) (by omega) (by omega) x1 (by omega) y1 (by omega) k1 (by omega) v1 (by omega)
        N1 N2 D1 D2 q1 (by omega) q3 (by omega) q5 (by omega) q7 (by omega) q9 (by omega) q11 (by omega) (bne_eq hc) (bne_eq hr)
        (by omega) (by omega) (by omega) (by omega) e1 e2 e3 e4 p1 (by omega) p3 (by omega) (bne_eq hE) M1 M2 S1 S2 p5 (by omega) p7 (by omega) p9 (by omega) (bne_eq hM)
        C0 CX CY CZ CV (Lib.hid HC1) (Lib.hid HC2) (Lib.hid HC3) (Lib.hid HC4) (by simpa using hS)

theorem IsRow.len_le {k : IntKind} {w : World} {a : Option Addr} {l c : Nat} {zs : List Int} (h : IsRow k w a l c zs) : l ≤ maxLen := by
  rcases h with ⟨_, rfl, _, _⟩ | ⟨_, _, h1, h2, _⟩
  · omega
  · omega
theorem law_FnLenses (a1 : Option Addr) (l c1 : Nat) (z1 : List Int) (a2 : Option Addr) (m c2 : Nat) (z2 : List Int) (w : World) (h1 : IsRow .u8 w a1 l c1 z1) (h2 : IsRow .u8 w a2 m c2 z2) :
    Calls Try.prog 3 #[.slice a1 l c1, .slice a2 m c2] w fun e w' => e = .returned (.bool true) ∧ Below w.heap.size w w' := by
  by_cases h : l ≤ 3000 ∧ m ≤ 3000
  · exact lenses_short a1 a2 l m c1 c2 z1 z2 w h1 h2 h.1 h.2
  · exact lenses_long a1 a2 l m c1 c2 w h1.len_le h2.len_le (decide_eq_true (by omega))
end Go.Proofs.Ytclilanlhagppaa
