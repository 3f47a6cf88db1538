/-
  Slides: all places that are reached: in the reference.
-/
import Derived.Test.YticohpimkicphaaYo
import Derived.Test.YticohpimkicphaaYh
import Derived.Test.YticohpimkicphaaIv
import Derived.Deep.RegionHeld3
import Derived.Deep.AppendLies
namespace Go.Proofs.Yticohpimkicphaa
open Go.RowKit

theorem GdN.innS {V : List Int → Prop} {ok : List Int → Nat → Bool} {ps : List Int} {out : List Nd} (h : GdN V ps out) {i K : Nat} (hi : i < out.length) (hV : ∀ qs mv, ok qs mv = true → V (mvL qs mv)) (k : Nat) (hk : k ≤ (selL (ok (out.getD i Nd.zero).pl) K).length) :
    GdN V ps (innS (out.getD i Nd.zero) out i ((selL (ok (out.getD i Nd.zero).pl) K).take k)) ∧ ∃ zs, innS (out.getD i Nd.zero) out i ((selL (ok (out.getD i Nd.zero).pl) K).take k) = out ++ zs := by
  induction k with
  | zero => exact ⟨h, [], by simp [Proofs.Yticohpimkicphaa.innS]⟩
  | succ k ih =>
    obtain ⟨ih1, zs, ih2⟩ := ih (by omega)
    obtain ⟨mv, _, hmv, hok⟩ := sel_get (q := ok (out.getD i Nd.zero).pl) (k := K) (j := k) (by omega)
    rw [innS_take (by omega), hmv, Int.toNat_natCast]
    cases hh : hasN (Proofs.Yticohpimkicphaa.innS (out.getD i Nd.zero) out i ((selL (ok (out.getD i Nd.zero).pl) K).take k)) (mvL (out.getD i Nd.zero).pl mv)
    · rw [if_neg (by simp)]
      rw [ih2] at ih1 hh ⊢
      refine ⟨?_, zs ++ [kid (out.getD i Nd.zero) i mv], by rw [List.append_assoc]⟩
      have := ih1.snoc (i := i) (mv := mv) (by rw [List.length_append]; omega) (by rw [getD_left hi]; exact hV _ _ hok) (by rw [getD_left hi]; exact hh)
      rw [getD_left hi] at this
      exact this
    · rw [if_pos rfl]; exact ⟨ih1, zs, ih2⟩

theorem infoW : (Try.prog.info? 63).map (fun i => (i.zero, i.size, i.bytes)) = some (some (.agg #[.slice none 0 0, .int .i64 0, .int .i64 0, .int .i64 0]), 4, 48) := by kernel_rfl
theorem infoB : (Try.prog.info? 4).map (fun i => (i.zero, i.size, i.bytes)) = some (some (.bool false), 1, 1) := by kernel_rfl
theorem makeB : ∃ ZB : Obj, (∀ W : World, (Instr.makeSlice 88 (.int .i64 256) (.int .i64 256)).run Try.prog W = .ok (.slice (some ⟨W.heap.size, 0, none⟩) 256 256) (W.alloc ZB)) ∧
    ∀ (W : World) k, k < 256 → (W.alloc ZB).cell? ⟨W.heap.size, k, none⟩ = some (.bool false) ∧ (W.alloc ZB).frozen? ⟨W.heap.size, k, none⟩ = false := by
  obtain ⟨i0, hi, hz0, hz1, hz2⟩ := info_parts infoB
  refine ⟨.cells (madeCells #[.bool false] 256) 4, fun W => ?_, fun W k hk => ?_⟩
  · have h := run_make (P := Try.prog) W 88 4 i0 (.bool false) Try.underlying88 hi hz0 .i64 .i64 256 256 (by omega) (by omega) (by rw [hz2]; omega) (by omega)
    rw [h, hz1]
    rfl
  · have hh : (W.alloc (.cells (madeCells #[.bool false] 256) 4)).heap[W.heap.size]? = some (.cells (madeCells #[.bool false] 256) 4) := heap_alloc_new W _
    refine ⟨?_, by go_simp⟩
    rw [cell_of_row _ W.heap.size k _ _ _ hh]
    unfold madeCells
    simp [hk]
    rw [show k % 1 = 0 by omega]
    rfl
theorem RS.start {w : World} {P : Option Addr} {n e K : Nat} {ps : List Int} {ZB : Obj} (HP : SlI w P n ps) (n1 : 1 ≤ n)
    (hZ : ∀ (W : World) k, k < 256 → (W.alloc ZB).cell? ⟨W.heap.size, k, none⟩ = some (.bool false) ∧ (W.alloc ZB).frozen? ⟨W.heap.size, k, none⟩ = false) (hK : numI 0 ps = (K : Int)) :
    RS w (((w.alloc (.cells #[.slice P n e, .int .i64 (-1), .int .i64 (-1), .int .i64 0] 63)).alloc ZB).setCell ⟨w.heap.size + 1, K, none⟩ (.bool true)) [⟨ps, -1, -1, []⟩] (.slice (some ⟨w.heap.size, 0, none⟩) 1 1) [.slice P n e, .int .i64 (-1), .int .i64 (-1), .int .i64 0] := by
  have hl := HP.length
  have hw : (w.alloc (.cells #[.slice P n e, .int .i64 (-1), .int .i64 (-1), .int .i64 0] 63)).ownsRow w.heap.size 63 4 (.slice (some ⟨w.heap.size, 0, none⟩) 1 1) 1 [.slice P n e, .int .i64 (-1), .int .i64 (-1), .int .i64 0] :=
    World.ownsRow_lit w #[.slice P n e, .int .i64 (-1), .int .i64 (-1), .int .i64 0] 1 (Nat.le_refl _) (by unfold maxLen; omega) rfl
  generalize hw0 : w.alloc (.cells #[.slice P n e, .int .i64 (-1), .int .i64 (-1), .int .i64 0] 63) = w0 at *
  have hb0 : Below w.heap.size w w0 := by rw [← hw0]; exact bw_alloc (Below.refl _ _) _
  have hs0 : w0.heap.size = w.heap.size + 1 := by rw [← hw0]; simp
  have hz := hZ w0
  rw [hs0] at hz
  have hb1 : Below w0.heap.size w0 (w0.alloc ZB) := bw_alloc (Below.refl _ _) _
  have hgs := grown_set (w0.alloc ZB) ⟨w.heap.size + 1, K, none⟩ (.bool true)
  have hs1 : (w0.alloc ZB).heap.size = w.heap.size + 2 := by rw [World.size_alloc, hs0]
  refine ⟨(kept_below hw hb1).kept hgs (.inr (by show some w.heap.size ≠ some (w.heap.size + 1); intro e; injection e; omega)), by show some w.heap.size ≠ some (w.heap.size + 1); intro e; injection e; omega, fun j hj => ?_, by rw [World.size_setCell, hs1]; omega, fun k hk => ⟨?_, ?_⟩⟩
  · have : j = 0 := by simp at hj; omega
    subst this
    refine ⟨⟨P, e, by show _ = Value.slice P ps.length e; rw [hl]; rfl, ?_, fun a ha => ?_⟩, rfl, rfl, rfl⟩
    · show SlI _ P ps.length ps
      rw [hl]
      refine ((HP.below hb0).below hb1).grown hgs (fun a ha => ?_)
      obtain ⟨b, off, rfl, hbl, _⟩ := HP.get (k := 0) (by omega)
      injection ha with ha
      subst ha
      intro e; injection e with e
      have e' : b = w.heap.size + 1 := e
      omega
    · obtain ⟨b, off, rfl, hbl, _⟩ := HP.get (k := 0) (by omega)
      injection ha with ha
      subst ha
      refine ⟨?_, ?_, ?_⟩
      · show b ≠ w.heap.size + 1; omega
      · show some w.heap.size ≠ some b; intro e; injection e; omega
      · show b < _; rw [World.size_setCell, hs1]; omega
  · have hsn : snB [⟨ps, -1, -1, []⟩] k = if k = K then true else false := by
      have := sn_snoc (out := []) (z := ⟨ps, -1, -1, []⟩) (j := k) hK
      rw [List.nil_append] at this
      rw [this]; rfl
    rw [hsn]
    by_cases hkk : k = K
    · subst hkk
      rw [if_pos rfl]
      exact World.cell?_setCell_same' _ _ _ (by rw [(hz k hk).1]; rfl)
    · rw [if_neg hkk, ← (hz k hk).1]
      apply World.cell?_setCell_other
      intro e
      injection e with e1 e2
      exact hkk e2.symm
  · rw [← (hz k hk).2]
    exact World.frozen?_setCell _ _ _ _

theorem hsl_mid {w wr w2 : World} {A : Option Addr} {c g N cap : Nat} {xs : List Int} (h : OwnI w2 wr.heap.size (.slice A xs.length c) xs) (hg : g < wr.heap.size) (hw : w.heap.size + 1 < wr.heap.size) : HSl w w2 (.slice (some ⟨g, 0, none⟩) N cap) (.slice A xs.length c) xs := by
  refine ⟨A, c, rfl, h.sl.2, fun a ha => ?_⟩
  obtain ⟨h1, h2⟩ := h.blk ha
  refine ⟨by omega, ?_, h2⟩
  show some g ≠ some a.block
  intro e
  injection e with e
  omega
/-- 'append(out, l13W{..})', as a step of a region that draws. -/
theorem stepAppW {ops : Array Oper} {o : Oper} {a : Act} {w : World} {K : Act → World → Prop} {Q : Exit → Act → World → Prop} {E : Prop} (hgd : o.guard = none) (s x : Operand)
    (ho : o.op = .call { callee := .builtin .append, args := #[s, x], argTypes := #[59, 59] })
    (B : Nat) {N : Nat} (v : Value) (xs : List Value) (hs : a.eval s = v) (hown : w.ownsRow B 63 4 v N xs) (g : Nat) (news : List Value) (hx : a.eval x = .slice (some ⟨g, 0, none⟩) 1 1)
    (hc : ∀ j u, news[j]? = some u → w.cell? ((⟨g, 0, none⟩ : Addr).add j) = some u) (hl : news.length = 4) (h1 : ∀ u ∈ news, u.oneCell' = true) (hn : N ≤ 1048576) (hB : B ≤ w.heap.size)
    (h : ∀ v' w', w'.ownsRow B 63 4 v' (N + 1) (xs ++ news) → w.grownBy w' v.ownBlock → (v'.ownBlock = v.ownBlock ∨ v'.ownBlock = some w.heap.size) → K (a.put o.dst v') w') :
    if Region.wanted o (yielded ops a.tmps) = true then Oper.wp Try.prog o a w K Q else E := by
  obtain ⟨i0, hi, hz0, hz1, hz2⟩ := info_parts infoW
  refine step_append_lies w hgd s x _ ho B 63 i0 (.agg #[.slice none 0 0, .int .i64 0, .int .i64 0, .int .i64 0]) 4 48 Try.underlying59 hi hz0 hz1 hz2 rfl (by decide) v N xs hs hown ⟨g, 0, none⟩ 1 1 news hx (by rw [hl]) hc h1 (by decide) (by unfold maxLen; omega) (by omega) hB _ rfl ?_
  intro gg cap w' h2 h3 h4 h5
  refine h _ w' h2 h3 ?_
  rcases h4 with h4 | h4
  · exact .inl h4.symm
  · exact .inr (by rw [h4]; rfl)

/-- What the reference hands back. -/
def GivesS (all : List Nd) (w : World) (e : Ending) (w' : World) : Prop :=
  ∃ A c, e = .returned (.slice A all.length c) ∧ SlW w' A all ∧ Below w.heap.size w w'
/-- What holds inside the statement that appends. -/
def JAl (b0 : Nat) (wb : World) (N : Nat) (cs : List Value) (qv nv ms : Value) (g2 bm om i k mv s : Nat) (a0 : Act) (d : Nat → Bool) (a' : Act) (w' : World) : Prop :=
  ∃ t63 t64 t65 t66 t67 t68 t69 t70 t71 t72 t73 t74 t75 t76 t77 t78 t5 : Value, a' = (((((((((((((((((a0.put (some 63) t63).put (some 64) t64).put (some 65) t65).put (some 66) t66).put (some 67) t67).put (some 68) t68).put (some 69) t69).put (some 70) t70).put (some 71) t71).put (some 72) t72).put (some 73) t73).put (some 74) t74).put (some 75) t75).put (some 76) t76).put (some 77) t77).put (some 78) t78).put (some 5) t5) ∧
    ((d 15 = false ∧ Below wb.heap.size wb w' ∧ t5 = qv ∧ (d 0 = true → t63 = qv) ∧ (d 1 = true → t64 = nv) ∧ (d 2 = true → t65 = .int .i64 (i : Int)) ∧ (d 3 = true → t66 = ms) ∧ (d 4 = true → t67 = .int .i64 (k : Int)) ∧ (d 5 = true → t68 = .pointer (some ⟨bm, om + k, none⟩)) ∧ (d 6 = true → t69 = .int .i64 (mv : Int)) ∧ (d 7 = true → t70 = qv) ∧ (d 8 = true → t71 = .int .i64 (i : Int)) ∧ (d 9 = true → t72 = .pointer (some ⟨g2, i * 4, none⟩)) ∧ (d 10 = true → t73 = .pointer (some ⟨g2, i * 4 + 3, none⟩)) ∧ (d 11 = true → t74 = .int .i64 (s : Int)) ∧ (d 12 = true → t75 = .int .i64 ((s : Int) + 1)) ∧ (d 13 = true → t76 = (.agg #[nv, .int .i64 (i : Int), .int .i64 (mv : Int), .int .i64 ((s : Int) + 1)])) ∧ (d 14 = true → ∃ b, t77 = .slice (some ⟨b, 0, none⟩) 1 1 ∧ w'.heap[b]? = some (.cells #[nv, .int .i64 (i : Int), .int .i64 (mv : Int), .int .i64 ((s : Int) + 1)] 63 (0, 0)))) ∨
     (d 15 = true ∧ (∀ j, j < 15 → d j = true) ∧ ∃ w4, Below wb.heap.size wb w4 ∧ w'.ownsRow b0 63 4 t78 (N + 1) (cs ++ [nv, .int .i64 (i : Int), .int .i64 (mv : Int), .int .i64 ((s : Int) + 1)]) ∧ w4.grownBy w' qv.ownBlock ∧ (t78.ownBlock = qv.ownBlock ∨ t78.ownBlock = some w4.heap.size) ∧ (d 16 = true → t5 = t78)))
end Go.Proofs.Yticohpimkicphaa
