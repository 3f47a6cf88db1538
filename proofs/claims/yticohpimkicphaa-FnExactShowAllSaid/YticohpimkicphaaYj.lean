/-
  Slides: all places that are reached: plain Lean.
-/
import Derived.Test.YticohpimkicphaaYf
namespace Go.Proofs.Yticohpimkicphaa
open Go.RowKit

/-- Places that are reached: the index before, the last move, the moves that lead there. -/
structure Nd where
  pl : List Int
  bf : Int
  mv : Int
  pt : List Int
def Nd.zero : Nd := ⟨[], 0, 0, []⟩
def hasN (out : List Nd) (ps : List Int) : Bool := out.any fun y => y.pl == ps
def kid (y : Nd) (i mv : Nat) : Nd := ⟨mvL y.pl mv, i, mv, y.pt ++ [(mv : Int)]⟩
def stp (ok : List Int → Nat → Bool) (y : Nd) (out : List Nd) (i mv : Nat) : List Nd := if ok y.pl mv && !hasN out (mvL y.pl mv) then out ++ [kid y i mv] else out
theorem stp_yes {ok : List Int → Nat → Bool} {y : Nd} {out : List Nd} {i mv : Nat} (h : ok y.pl mv = true) (h2 : hasN out (mvL y.pl mv) = false) : stp ok y out i mv = out ++ [kid y i mv] := if_pos (by rw [h, h2]; rfl)
theorem stp_no {ok : List Int → Nat → Bool} {y : Nd} {out : List Nd} {i mv : Nat} (h : ok y.pl mv = false) : stp ok y out i mv = out := if_neg (by rw [h]; simp)
theorem stp_old {ok : List Int → Nat → Bool} {y : Nd} {out : List Nd} {i mv : Nat} (h : hasN out (mvL y.pl mv) = true) : stp ok y out i mv = out := if_neg (by rw [h]; simp)
def inn (ok : List Int → Nat → Bool) (y : Nd) (out : List Nd) (i : Nat) : Nat → List Nd
  | 0 => out
  | k + 1 => stp ok y (inn ok y out i k) i k
theorem inn_succ (ok : List Int → Nat → Bool) (y : Nd) (out : List Nd) (i k : Nat) : inn ok y out i (k + 1) = stp ok y (inn ok y out i k) i k := rfl
def lev (ok : List Int → Nat → Bool) (n : Nat) (ps : List Int) : Nat → List Nd
  | 0 => [⟨ps, -1, -1, []⟩]
  | i + 1 => if i < (lev ok n ps i).length then inn ok ((lev ok n ps i).getD i Nd.zero) (lev ok n ps i) i (2 * n) else lev ok n ps i
theorem lev_yes {ok : List Int → Nat → Bool} {n : Nat} {ps : List Int} {i : Nat} (h : i < (lev ok n ps i).length) : lev ok n ps (i + 1) = inn ok ((lev ok n ps i).getD i Nd.zero) (lev ok n ps i) i (2 * n) := if_pos h
theorem lev_no {ok : List Int → Nat → Bool} {n : Nat} {ps : List Int} {i : Nat} (h : ¬ i < (lev ok n ps i).length) : lev ok n ps (i + 1) = lev ok n ps i := if_neg h
theorem lev_stop {ok : List Int → Nat → Bool} {n : Nat} {ps : List Int} {i j : Nat} (h : ¬ i < (lev ok n ps i).length) (hij : i ≤ j) : lev ok n ps j = lev ok n ps i := by
  induction j with
  | zero => have : i = 0 := by omega
            rw [this]
  | succ j ih =>
    rcases Nat.lt_or_ge i (j + 1) with h1 | h1
    · have h2 := ih (by omega)
      rw [lev_no (by rw [h2]; omega), h2]
    · have : i = j + 1 := by omega
      rw [this]
/-- All places that are reached. -/
def allN (ok : List Int → Nat → Bool) (n : Nat) (ps : List Int) : List Nd := lev ok n ps 256

/-- What the reference does with the chosen moves. -/
def innS (y : Nd) (out : List Nd) (i : Nat) (ms : List Int) : List Nd := ms.foldl (fun o mv => if hasN o (mvL y.pl mv.toNat) then o else o ++ [kid y i mv.toNat]) out
theorem innS_snoc (y : Nd) (out : List Nd) (i : Nat) (ms : List Int) (m : Int) : innS y out i (ms ++ [m]) = if hasN (innS y out i ms) (mvL y.pl m.toNat) then innS y out i ms else innS y out i ms ++ [kid y i m.toNat] := by
  unfold innS; rw [List.foldl_append]; rfl
theorem innS_sel (ok : List Int → Nat → Bool) (y : Nd) (out : List Nd) (i k : Nat) : innS y out i (selL (ok y.pl) k) = inn ok y out i k := by
  induction k with
  | zero => rfl
  | succ k ih =>
    cases h : ok y.pl k
    · rw [sel_no h, ih, inn_succ, stp_no h]
    · rw [sel_yes h, innS_snoc, ih, inn_succ, Int.toNat_natCast]
      cases h2 : hasN (inn ok y out i k) (mvL y.pl k)
      · rw [stp_yes h h2]; rfl
      · rw [stp_old h2]; rfl
theorem take_snoc {ms : List Int} {j : Nat} (h : j < ms.length) : ms.take (j + 1) = ms.take j ++ [ms.getD j 0] := by
  rw [List.take_add_one, List.getElem?_eq_getElem h, List.getD_eq_getElem?_getD, List.getElem?_eq_getElem h]; rfl
theorem innS_take {y : Nd} {out : List Nd} {i : Nat} {ms : List Int} {j : Nat} (h : j < ms.length) : innS y out i (ms.take (j + 1)) = if hasN (innS y out i (ms.take j)) (mvL y.pl (ms.getD j 0).toNat) then innS y out i (ms.take j) else innS y out i (ms.take j) ++ [kid y i (ms.getD j 0).toNat] := by
  rw [take_snoc h, innS_snoc]
theorem sel_mem {q : Nat → Bool} {k : Nat} {x : Int} (h : x ∈ selL q k) : ∃ j, j < k ∧ x = (j : Int) ∧ q j = true := by
  induction k with
  | zero => simp [selL] at h
  | succ k ih =>
    cases hq : q k
    · rw [sel_no hq] at h
      obtain ⟨j, h1, h2⟩ := ih h
      exact ⟨j, by omega, h2⟩
    · rw [sel_yes hq, List.mem_append] at h
      rcases h with h | h
      · obtain ⟨j, h1, h2⟩ := ih h
        exact ⟨j, by omega, h2⟩
      · simp at h; exact ⟨k, by omega, h, hq⟩
theorem sel_get {q : Nat → Bool} {k j : Nat} (h : j < (selL q k).length) : ∃ mv, mv < k ∧ (selL q k).getD j 0 = (mv : Int) ∧ q mv = true := by
  have : (selL q k).getD j 0 ∈ selL q k := by rw [List.getD_eq_getElem?_getD, List.getElem?_eq_getElem h]; exact List.getElem_mem h
  exact sel_mem this

/-- What is true of all that is reached. -/
def GdN (V : List Int → Prop) (ps : List Int) (out : List Nd) : Prop :=
  0 < out.length ∧ out.getD 0 Nd.zero = ⟨ps, -1, -1, []⟩ ∧ (∀ y ∈ out, V y.pl) ∧ (out.map Nd.pl).Nodup ∧
  ∀ j, 0 < j → j < out.length → ∃ i, i < j ∧ (out.getD j Nd.zero).bf = (i : Int) ∧ (out.getD j Nd.zero).pt = (out.getD i Nd.zero).pt ++ [(out.getD j Nd.zero).mv]
theorem getD_left {out zs : List Nd} {j : Nat} (h : j < out.length) : (out ++ zs).getD j Nd.zero = out.getD j Nd.zero := by
  rw [List.getD_eq_getElem?_getD, List.getD_eq_getElem?_getD, List.getElem?_append_left h]
theorem getD_last (out : List Nd) (z : Nd) : (out ++ [z]).getD out.length Nd.zero = z := by
  rw [List.getD_eq_getElem?_getD]; simp
theorem getD_in {out : List Nd} {j : Nat} (h : j < out.length) : out.getD j Nd.zero ∈ out := by
  rw [List.getD_eq_getElem?_getD, List.getElem?_eq_getElem h]; exact List.getElem_mem h
theorem hasN_no {out : List Nd} {ps : List Int} (h : hasN out ps = false) : ps ∉ out.map Nd.pl := by
  intro hm
  obtain ⟨y, hy, e⟩ := List.mem_map.1 hm
  have := (List.any_eq_false.1 h) y hy
  exact this (by simp [e])
theorem GdN.root {V : List Int → Prop} {ps : List Int} (h : V ps) : GdN V ps [⟨ps, -1, -1, []⟩] := by
  refine ⟨by simp, rfl, fun y hy => ?_, by simp, fun j h1 h2 => ?_⟩
  · rw [List.mem_singleton.1 hy]; exact h
  · simp at h2; omega
theorem GdN.snoc {V : List Int → Prop} {ps : List Int} {out : List Nd} (h : GdN V ps out) {i mv : Nat} (hi : i < out.length) (hv : V (mvL (out.getD i Nd.zero).pl mv)) (hn : hasN out (mvL (out.getD i Nd.zero).pl mv) = false) : GdN V ps (out ++ [kid (out.getD i Nd.zero) i mv]) := by
  obtain ⟨h1, h2, h3, h4, h5⟩ := h
  refine ⟨by rw [List.length_append]; omega, by rw [getD_left h1]; exact h2, fun y hy => ?_, ?_, fun j j0 jl => ?_⟩
  · rcases List.mem_append.1 hy with hy | hy
    · exact h3 y hy
    · rw [List.mem_singleton.1 hy]; exact hv
  · rw [List.map_append, List.nodup_append]
    refine ⟨h4, by simp, fun a ha b hb => ?_⟩
    simp at hb
    subst hb
    intro e
    subst e
    exact hasN_no hn ha
  · rw [List.length_append] at jl
    simp at jl
    rcases Nat.lt_or_ge j out.length with hj | hj
    · obtain ⟨i', a, b, c⟩ := h5 j j0 hj
      refine ⟨i', a, ?_, ?_⟩
      · rw [getD_left hj]; exact b
      · rw [getD_left hj, getD_left (by omega)]; exact c
    · have hjl : j = out.length := by omega
      subst hjl
      refine ⟨i, hi, ?_, ?_⟩
      · rw [getD_last]; rfl
      · rw [getD_last, getD_left hi]; rfl
theorem GdN.inn {V : List Int → Prop} {ok : List Int → Nat → Bool} {ps : List Int} {out : List Nd} (h : GdN V ps out) {i : Nat} (hi : i < out.length) (hV : ∀ qs mv, ok qs mv = true → V (mvL qs mv)) (k : Nat) :
    GdN V ps (inn ok (out.getD i Nd.zero) out i k) ∧ ∃ zs, inn ok (out.getD i Nd.zero) out i k = out ++ zs := by
  induction k with
  | zero => exact ⟨h, [], by simp [Proofs.Yticohpimkicphaa.inn]⟩
  | succ k ih =>
    obtain ⟨ih1, zs, ih2⟩ := ih
    rw [inn_succ]
    cases hk : ok (out.getD i Nd.zero).pl k
    · rw [stp_no hk]; exact ⟨ih1, zs, ih2⟩
    · cases hh : hasN (Proofs.Yticohpimkicphaa.inn ok (out.getD i Nd.zero) out i k) (mvL (out.getD i Nd.zero).pl k)
      · rw [stp_yes hk hh, ih2]
        rw [ih2] at ih1 hh
        refine ⟨?_, zs ++ [kid (out.getD i Nd.zero) i k], by rw [List.append_assoc]⟩
        have := ih1.snoc (i := i) (mv := k) (by rw [List.length_append]; omega) (by rw [getD_left hi]; exact hV _ _ hk) (by rw [getD_left hi]; exact hh)
        rw [getD_left hi] at this
        exact this
      · rw [stp_old hh]; exact ⟨ih1, zs, ih2⟩
theorem GdN.lev {V : List Int → Prop} {ok : List Int → Nat → Bool} {n : Nat} {ps : List Int} (h : V ps) (hV : ∀ qs mv, ok qs mv = true → V (mvL qs mv)) (i : Nat) : GdN V ps (lev ok n ps i) := by
  induction i with
  | zero => exact GdN.root h
  | succ i ih =>
    by_cases hi : i < (Proofs.Yticohpimkicphaa.lev ok n ps i).length
    · rw [lev_yes hi]; exact (ih.inn hi hV _).1
    · rw [lev_no hi]; exact ih
/-- The moves that lead to the j-th are at most j. -/
theorem GdN.pt_len {V : List Int → Prop} {ps : List Int} {out : List Nd} (h : GdN V ps out) : ∀ j, j < out.length → (out.getD j Nd.zero).pt.length ≤ j := by
  intro j
  induction j using Nat.strongRecOn with
  | ind j ih =>
    intro hj
    rcases Nat.eq_zero_or_pos j with h0 | h0
    · subst h0; rw [h.2.1]; simp
    · obtain ⟨i, a, b, c⟩ := h.2.2.2.2 j h0 hj
      have := ih i a (by omega)
      rw [c, List.length_append, List.length_singleton]
      omega

theorem nodup_le (N : Nat) : ∀ (l : List Nat), l.Nodup → (∀ x ∈ l, x < N) → l.length ≤ N := by
  induction N with
  | zero =>
    intro l _ h
    cases l with
    | nil => simp
    | cons x r => exact absurd (h x (by simp)) (by omega)
  | succ N ih =>
    intro l hd h
    by_cases hm : N ∈ l
    · have h1 := ih (l.erase N) (hd.erase N) (fun x hx => by
        have h2 := (hd.mem_erase_iff).1 hx
        have := h x h2.2
        omega)
      have h2 := List.length_erase_of_mem hm
      omega
    · have := ih l hd (fun x hx => by
        have h1 := h x hx
        have : x ≠ N := fun e => hm (e ▸ hx)
        omega)
      omega
/-- The number of places. -/
def numI (a : Int) (ps : List Int) : Int := ps.foldl (fun a p => 4 * a + p) a
def dgt (ps : List Int) : Prop := ∀ p ∈ ps, 0 ≤ p ∧ p < 4
theorem num_bd : ∀ (ps : List Int) (a : Int) (X : Nat), dgt ps → 0 ≤ a → a < X → 0 ≤ numI a ps ∧ numI a ps < (X * 4 ^ ps.length : Nat)
  | [], a, X, _, h0, h1 => by simp [numI]; omega
  | p :: r, a, X, hd, h0, h1 => by
    have hp := hd p (by simp)
    have h := num_bd r (4 * a + p) (X * 4) (fun q hq => hd q (by simp [hq])) (by omega) (by omega)
    have e : X * 4 ^ (p :: r).length = X * 4 * 4 ^ r.length := by rw [List.length_cons, Nat.pow_succ, Nat.mul_comm (4 ^ r.length) 4, Nat.mul_assoc]
    rw [e]
    exact h
theorem num_inj : ∀ (ps qs : List Int) (a b : Int), ps.length = qs.length → dgt ps → dgt qs → numI a ps = numI b qs → a = b ∧ ps = qs
  | [], [], a, b, _, _, _, h => ⟨h, rfl⟩
  | [], _ :: _, _, _, hl, _, _, _ => by simp at hl
  | _ :: _, [], _, _, hl, _, _, _ => by simp at hl
  | p :: r, q :: s, a, b, hl, hp, hq, h => by
    obtain ⟨h1, h2⟩ := num_inj r s (4 * a + p) (4 * b + q) (by simpa using hl) (fun x hx => hp x (by simp [hx])) (fun x hx => hq x (by simp [hx])) h
    have a1 := hp p (by simp)
    have a2 := hq q (by simp)
    have e1 : p = q := by omega
    have e2 : a = b := by omega
    exact ⟨e2, by rw [e1, h2]⟩
/-- Places of n glasses, each below four. -/
def VN (n : Nat) (ps : List Int) : Prop := ps.length = n ∧ dgt ps
theorem num_256 {n : Nat} {ps : List Int} (h : VN n ps) (hn : n ≤ 4) : 0 ≤ numI 0 ps ∧ numI 0 ps < 256 := by
  have h1 := num_bd ps 0 1 h.2 (by omega) (by omega)
  have h2 : 4 ^ ps.length ≤ 4 ^ 4 := Nat.pow_le_pow_right (by omega) (by rw [h.1]; exact hn)
  have h3 : (4 : Nat) ^ 4 = 256 := by decide
  rw [h3] at h2
  omega
theorem num_eq {n : Nat} {ps qs : List Int} (h : VN n ps) (h2 : VN n qs) (e : numI 0 ps = numI 0 qs) : ps = qs := (num_inj ps qs 0 0 (by rw [h.1, h2.1]) h.2 h2.2 e).2
theorem GdN.le {V : List Int → Prop} {ps : List Int} {out : List Nd} {n : Nat} (h : GdN V ps out) (hV : ∀ qs, V qs → VN n qs) (hn : n ≤ 4) : out.length ≤ 256 := by
  have h1 := nodup_le 256 (out.map fun y => (numI 0 y.pl).toNat) ?_ ?_
  · simpa using h1
  · have h4 := h.2.2.2.1
    unfold List.Nodup at h4 ⊢
    rw [List.pairwise_map] at h4 ⊢
    refine List.Pairwise.imp_of_mem (fun {a b} ha hb hab e => hab ?_) h4
    have va := hV _ (h.2.2.1 a ha)
    have vb := hV _ (h.2.2.1 b hb)
    have na := num_256 va hn
    have nb := num_256 vb hn
    exact num_eq va vb (by omega)
  · intro x hx
    obtain ⟨y, hy, rfl⟩ := List.mem_map.1 hx
    have := num_256 (hV _ (h.2.2.1 y hy)) hn
    omega
/-- At most 256 rounds. -/
theorem all_of {V : List Int → Prop} {ok : List Int → Nat → Bool} {n : Nat} {ps : List Int} {i : Nat} (h : V ps) (hV : ∀ qs mv, ok qs mv = true → V (mvL qs mv)) (hVN : ∀ qs, V qs → VN n qs) (hn : n ≤ 4) (hi : ¬ i < (lev ok n ps i).length) : allN ok n ps = lev ok n ps i := by
  unfold allN
  rcases Nat.le_total i 256 with h1 | h1
  · exact lev_stop hi h1
  · have h2 := (GdN.lev (n := n) (ok := ok) h hV 256).le hVN hn
    exact (lev_stop (by omega) h1).symm
/-- The marks of the reference. -/
def snB (out : List Nd) (k : Nat) : Bool := out.any fun y => numI 0 y.pl == (k : Int)
theorem sn_has {n : Nat} {out : List Nd} {qs : List Int} {k : Nat} (h : ∀ y ∈ out, VN n y.pl) (hq : VN n qs) (hk : numI 0 qs = (k : Int)) : snB out k = hasN out qs := by
  unfold snB hasN
  rw [Bool.eq_iff_iff, List.any_eq_true, List.any_eq_true]
  constructor
  · rintro ⟨y, hy, e⟩
    refine ⟨y, hy, ?_⟩
    rw [num_eq (h y hy) hq (by rw [hk]; exact eq_of_beq e)]; simp
  · rintro ⟨y, hy, e⟩
    refine ⟨y, hy, ?_⟩
    rw [eq_of_beq e, hk]; simp
theorem sn_snoc {out : List Nd} {z : Nd} {k j : Nat} (hk : numI 0 z.pl = (k : Int)) : snB (out ++ [z]) j = (if j = k then true else snB out j) := by
  unfold snB
  rw [List.any_append]
  by_cases h : j = k
  · subst h; rw [if_pos rfl]; simp [hk]
  · rw [if_neg h]
    have : (numI 0 z.pl == (j : Int)) = false := by rw [hk]; simp; omega
    simp [this]
end Go.Proofs.Yticohpimkicphaa
