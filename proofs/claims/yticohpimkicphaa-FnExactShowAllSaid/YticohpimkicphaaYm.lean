/-
  Slides: all places that are reached: in the program.
-/
import Derived.Test.YticohpimkicphaaYl
import Derived.Deep.RegionHeld3
import Derived.Deep.AppendLies
import Derived.Deep.CutRange
import Derived.Test.YticohpimkicphaaIv
namespace Go.Proofs.Yticohpimkicphaa
open Go.RowKit
open Go.Maps (Keyed)

theorem bw_grown {B : Nat} {w w' : World} {v : Value} {xs : List Int} (hg : w.grownBy w' v.ownBlock) (h : OwnI w B v xs) (hB : B ≤ w.heap.size) : Below B w w' :=
  below_grown hg (fun k hk => (World.ownsRow.lt h k hk).1) hB
theorem stepAppI {ops : Array Oper} {o : Oper} {a : Act} {w : World} {K : Act → World → Prop} {Q : Exit → Act → World → Prop} {E : Prop} (hgd : o.guard = none) (s x : Operand)
    (ho : o.op = .call { callee := .builtin .append, args := #[s, x], argTypes := #[22, 22] })
    (B : Nat) (v : Value) (xs : List Int) (hs : a.eval s = v) (hown : OwnI w B v xs) (g : Nat) (u : Int) (hx : a.eval x = .slice (some ⟨g, 0, none⟩) 1 1)
    (hc : w.cell? ⟨g, 0, none⟩ = some (.int .i64 u)) (hn : xs.length ≤ 1048576) (hB : B ≤ w.heap.size)
    (h : ∀ gg cap w', OwnI w' B (.slice (some ⟨gg, 0, none⟩) (xs.length + 1) cap) (xs ++ [u]) → Below B w w' → K (a.put o.dst (.slice (some ⟨gg, 0, none⟩) (xs.length + 1) cap)) w') :
    if Region.wanted o (yielded ops a.tmps) = true then Oper.wp Try.prog o a w K Q else E := by
  obtain ⟨i0, hi, hz0, hz1, hz2⟩ := info_parts info64
  refine step_append_lies w hgd s x _ ho B 2 i0 (.int .i64 0) 1 8 Try.underlying22 hi hz0 hz1 hz2 rfl (by decide) v xs.length _ hs hown ⟨g, 0, none⟩ 1 1 [.int .i64 u] hx rfl ?_ ?_ (by decide) ?_ ?_ hB _ rfl ?_
  · intro j y hj
    cases j with
    | zero => simp at hj; subst hj; rw [add_off]; exact hc
    | succ j => simp at hj
  · simp [Value.oneCell']
  · unfold maxLen; omega
  · omega
  · intro gg cap w' h1 h2 h3 h4
    refine h gg cap w' ?_ (bw_grown h2 hown hB)
    unfold OwnI
    simpa using h1

theorem vn_of {ss qs : List Int} {n : Nat} (hst : stBd ss n) (h : plB ss qs n = true) : VN n qs := by
  obtain ⟨h1, h2⟩ := pl_at h
  refine ⟨h1, fun p hp => ?_⟩
  obtain ⟨i, hi, rfl⟩ := List.getElem_of_mem hp
  have a := h2 i (by omega)
  have b := hst i (by omega)
  rw [List.getD_eq_getElem?_getD, List.getElem?_eq_getElem hi] at a
  simp only [Option.getD_some] at a
  omega
theorem kw_of {n : Nat} {qs : List Int} (h : VN n qs) : KW n qs := ⟨h.1, fun p hp => by have := h.2 p hp; omega⟩
theorem kw_mv {n mv : Nat} {qs : List Int} (h : VN n qs) : KW n (mvL qs mv) := by
  refine ⟨by rw [mv_len, h.1], fun p hp => ?_⟩
  unfold mvL at hp
  have h0 : 0 ≤ qs.getD (mv / 2) 0 ∧ qs.getD (mv / 2) 0 < 4 := by
    rcases Nat.lt_or_ge (mv / 2) qs.length with hi | hi
    · rw [List.getD_eq_getElem?_getD, List.getElem?_eq_getElem hi]; exact h.2 _ (List.getElem_mem hi)
    · rw [List.getD_eq_getElem?_getD, List.getElem?_eq_none hi]; decide
  rcases List.mem_or_eq_of_mem_set hp with hp | hp
  · have := h.2 p hp; omega
  · rw [hp]; split <;> omega

theorem OwnI.formN {w : World} {B n : Nat} {v : Value} {xs : List Int} (h : OwnI w B v xs) (hl : xs.length = n) : ∃ A c, v = .slice A n c ∧ SlI w A n xs := by
  obtain ⟨A, c, rfl⟩ := h.form
  subst hl
  exact ⟨A, c, rfl, h.sl.2⟩
theorem infoSl : (Try.prog.info? 22).map (fun i => (i.zero, i.size, i.bytes)) = some (some (.slice none 0 0), 1, 24) := by kernel_rfl
theorem zeroI (w : World) : (zeroValue 22).run Try.prog w = .ok (.slice none 0 0) w := by kernel_rfl
/-- The look-up, where the key is there; the store, as a function of the world. -/
theorem look_at {b n : Nat} {D : DataW Value} {key v : Value} {kl : Lit} (hkey : keyOf Try.prog 71 key = some kl) (hat : ∀ z, D.atKey kl z = .held v) (W : World) (hown : W.ownsMap Try.prog 71 heldR b n D) :
    (Instr.lookup 68 (.map (some b)) key false).run Try.prog W = .ok v W := by
  obtain ⟨v', ps, hrun, hv⟩ := hown.lookup keyLaw Try.underlying68 (zeroI W) (zd := .held (.slice none 0 0)) (zp := []) rfl hkey
  rw [hat] at hv
  unfold heldR at hv
  simp only [Option.some.injEq, Prod.mk.injEq, DataW.held.injEq] at hv
  rw [← hv.1]; exact hrun
theorem store_fn (b n : Nat) (D : DataW Value) (key : Value) (kl : Lit) (hkey : keyOf Try.prog 71 key = some kl) (hn : n < maxLen) :
    ∃ f : World → Value → World, ∀ W v, W.ownsMap Try.prog 71 heldR b n D → (Instr.mapUpdate 68 (.map (some b)) key v).run Try.prog W = .ok () (f W v) ∧ (f W v).ownsMap Try.prog 71 heldR b (n + 1) (D.put kl (.held v)) ∧ W.grownBy (f W v) (some b) := by
  have h : ∀ W v, ∃ W' : World, W.ownsMap Try.prog 71 heldR b n D → (Instr.mapUpdate 68 (.map (some b)) key v).run Try.prog W = .ok () W' ∧ W'.ownsMap Try.prog 71 heldR b (n + 1) (D.put kl (.held v)) ∧ W.grownBy W' (some b) := fun W v => by
    by_cases hW : W.ownsMap Try.prog 71 heldR b n D
    · obtain ⟨W', h1, h2, h3⟩ := hW.update keyLaw Try.underlying68 hn hkey (val := v) (d := .held v) (ps := []) rfl
      exact ⟨W', fun _ => ⟨h1, h2, h3⟩⟩
    · exact ⟨W, fun h => absurd h hW⟩
  exact ⟨fun W v => Classical.choose (h W v), fun W v => Classical.choose_spec (h W v)⟩

theorem RR.head {w wr : World} {out : List Nd} {qv : Value} {qs vs : List Value} (h : RR w wr out qv qs vs) {i : Nat} (hi : i < out.length) :
    ∃ g cap, qv = .slice (some ⟨g, 0, none⟩) out.length cap ∧ wr.cell? ⟨g, i, none⟩ = some (qs.getD i undef) ∧ g < wr.heap.size ∧ w.heap.size + 2 ≤ g := by
  obtain ⟨h1, h2, h3, h4, h5⟩ := h
  obtain ⟨g, cap, hv, hBg, hlt⟩ := World.ownsRow.form h1 (by omega)
  refine ⟨g, cap, by rw [hv, h2], ?_, hlt, hBg⟩
  rw [hv] at h1
  rw [World.ownsRow.cellAt h1 i (by omega), List.getD_eq_getElem?_getD, List.getElem?_eq_getElem (by omega)]
  rfl
theorem RR.start {w w2 : World} {P : Option Addr} {n e : Nat} {ps : List Int} {v : Value} (HP : SlI w P n ps) (n1 : 1 ≤ n) (hbw : Below w.heap.size w w2) (hown : w2.ownsMap Try.prog 71 heldR (w.heap.size + 1) 1 ((DataW.map []).put (keyL ps) (.held v))) (hv : OwnI w2 (w.heap.size + 2) v [])
    (hs : w.heap.size + 2 ≤ w2.heap.size) : RR w (w2.alloc (.cells #[.slice P n e] 22)) [⟨ps, -1, -1, []⟩] (.slice (some ⟨w2.heap.size, 0, none⟩) 1 1) [.slice P n e] [v] := by
  have hl := HP.length
  have hb : Below w2.heap.size w2 (w2.alloc (.cells #[.slice P n e] 22)) := bw_alloc (Below.refl _ _) _
  refine ⟨World.ownsRow_lit w2 #[.slice P n e] 1 hs (by unfold maxLen; omega) rfl, rfl, rfl, hown.kept (grown_of_below hb none) (by simp), fun j hj => ?_⟩
  have : j = 0 := by simp at hj; omega
  subst this
  refine ⟨⟨P, e, by show _ = Value.slice P ps.length e; rw [hl]; rfl, by show SlI _ P ps.length ps; rw [hl]; exact (HP.below hbw).below hb, fun a ha => ?_⟩, hv.below hb, ?_⟩
  · obtain ⟨b, off, rfl, hbl, _⟩ := HP.get (k := 0) (by omega)
    injection ha with ha
    subst ha
    refine ⟨?_, ?_, ?_⟩
    · show b ≠ w.heap.size + 1; omega
    · show some w2.heap.size ≠ some b; intro e; injection e; omega
    · show b < _; simp; omega
  · rcases hvv : v.ownBlock with _ | g
    · exact .inl (by simpa using hvv)
    · right
      show v.ownBlock ≠ some w2.heap.size
      rw [hvv]
      have := World.ownsRow.lt hv g hvv
      intro e; injection e; omega

theorem cell_grown {w w' : World} {row : Option Nat} {a : Addr} {v : Value} (hg : w.grownBy w' row) (hne : some a.block ≠ row) (h : w.cell? a = some v) : w'.cell? a = some v :=
  (hg.cell_far a (World.block_lt_of_cell? w _ h) hne).trans h
theorem OwnI.blk {w : World} {B : Nat} {A : Option Addr} {n c : Nat} {xs : List Int} (h : OwnI w B (.slice A n c) xs) {a : Addr} (ha : A = some a) : B ≤ a.block ∧ a.block < w.heap.size := World.ownsRow.lt h a.block (by subst ha; rfl)
theorem hsl_new {w wr w2 : World} {A : Option Addr} {n c g N cap : Nat} {xs : List Int} (h : OwnI w2 wr.heap.size (.slice A n c) xs) (hl : xs.length = n) (hg : g < wr.heap.size) (hgB : w.heap.size + 2 ≤ g) : HSl w w2 (.slice (some ⟨g, 0, none⟩) N cap) (.slice A n c) xs := by
  subst hl
  refine ⟨A, c, rfl, h.sl.2, fun a ha => ?_⟩
  obtain ⟨h1, h2⟩ := h.blk ha
  refine ⟨by omega, ?_, h2⟩
  show some g ≠ some a.block
  intro e
  injection e with e
  omega
theorem how_new {w w2 : World} {b : Nat} {pv : Value} {g N cap : Nat} {xs : List Int} (h : OwnI w2 b pv xs) (hg : g < b) (hgB : w.heap.size + 2 ≤ g) : HOw w w2 (.slice (some ⟨g, 0, none⟩) N cap) pv xs := by
  refine ⟨h.base (by omega), ?_⟩
  rcases hv : pv.ownBlock with _ | q
  · exact .inl rfl
  · right
    show some q ≠ some g
    have := World.ownsRow.lt h q hv
    intro e
    injection e with e
    omega
/-- 'append(queue, next)'. -/
theorem wpAppQ {ops : Array Oper} {rest : List Oper} {o : Oper} {a : Act} {w : World} {Q : Exit → Act → World → Prop} (hgd : o.guard = none) (s x : Operand)
    (ho : o.op = .call { callee := .builtin .append, args := #[s, x], argTypes := #[26, 26] })
    (B : Nat) (v : Value) (xs : List Value) (hs : a.eval s = v) (hown : w.ownsRow B 22 1 v xs.length xs) (g : Nat) (u : Value) (hu : u.oneCell' = true) (hx : a.eval x = .slice (some ⟨g, 0, none⟩) 1 1)
    (hc : w.cell? ⟨g, 0, none⟩ = some u) (hn : xs.length ≤ 1048576) (hB : B ≤ w.heap.size)
    (h : ∀ v' w', w'.ownsRow B 22 1 v' (xs.length + 1) (xs ++ [u]) → w.grownBy w' v.ownBlock → (v'.ownBlock = v.ownBlock ∨ v'.ownBlock = some w.heap.size) → wpList Try.prog ops Q rest (a.put o.dst v') w') : wpList Try.prog ops Q (o :: rest) a w := by
  obtain ⟨i0, hi, hz0, hz1, hz2⟩ := info_parts infoSl
  refine wpList_append_own_at w hgd s x _ ho B 22 i0 (.slice none 0 0) 1 24 Try.underlying26 hi hz0 hz1 hz2 rfl (by decide) v xs.length _ hs hown ⟨g, 0, none⟩ 1 1 [u] hx rfl ?_ ?_ ?_ ?_ hB ?_
  · intro j y hj
    cases j with
    | zero => simp at hj; subst hj; rw [add_off]; exact hc
    | succ j => simp at hj
  · intro y hy
    rw [List.mem_singleton.1 hy]; exact hu
  · unfold maxLen; omega
  · omega
  · intro v' w' h1 h2 _ h3
    exact h v' w' (by simpa using h1) h2 h3

/-- What reach hands back. -/
def GivesR (all : List Nd) (w : World) (e : Ending) (w' : World) : Prop :=
  ∃ vs, e = .returned (.map (some (w.heap.size + 1))) ∧ vs.length = all.length ∧ w'.ownsMap Try.prog 71 heldR (w.heap.size + 1) all.length (mpK all vs all.length) ∧ (∀ j, j < all.length → OwnI w' (w.heap.size + 2) (vs.getD j undef) (all.getD j Nd.zero).pt) ∧ Below w.heap.size w w'

/-- What holds inside the statement that stores: whatever order is picked. -/
def JRe (b0 : Nat) (wb : World) (N : Nat) (D : DataW Value) (kl : Lit) (mp qv nv kq kn pv0 si : Value) (g i k : Nat) (pt : List Int) (a0 : Act) (d : Nat → Bool) (a' : Act) (w' : World) : Prop :=
  ∃ t55 t56 t57 t58 t59 t60 t61 t62 t63 t64 t65 t66 t67 t68 : Value, a' = ((((((((((((((a0.put (some 55) t55).put (some 56) t56).put (some 57) t57).put (some 58) t58).put (some 59) t59).put (some 60) t60).put (some 61) t61).put (some 62) t62).put (some 63) t63).put (some 64) t64).put (some 65) t65).put (some 66) t66).put (some 67) t67).put (some 68) t68) ∧
    ((d 14 = false ∧ Below wb.heap.size wb w' ∧ (d 0 = true → t55 = mp) ∧ (d 1 = true → t56 = nv) ∧ (d 2 = true → t57 = kn) ∧ (d 3 = true → t58 = mp) ∧ (d 4 = true → t59 = qv) ∧ (d 5 = true → t60 = .int .i64 (i : Int)) ∧
      (d 6 = true → t61 = .pointer (some ⟨g, i, none⟩)) ∧ (d 7 = true → t62 = si) ∧ (d 8 = true → t63 = kq) ∧ (d 9 = true → t64 = pv0) ∧ (d 10 = true → d 13 = false → OwnI w' wb.heap.size t65 pt) ∧ (d 11 = true → t66 = .int .i64 (k : Int)) ∧
      (d 12 = true → d 13 = false → ∃ b, t67 = .slice (some ⟨b, 0, none⟩) 1 1 ∧ w'.cell? ⟨b, 0, none⟩ = some (.int .i64 (k : Int))) ∧ (d 13 = true → OwnI w' wb.heap.size t68 (pt ++ [(k : Int)]))) ∨
     (d 14 = true ∧ (∀ j, j < 14 → d j = true) ∧ ∃ w4, Below wb.heap.size wb w4 ∧ OwnI w4 wb.heap.size t68 (pt ++ [(k : Int)]) ∧ w4.grownBy w' (some (b0 + 1)) ∧ w'.ownsMap Try.prog 71 heldR (b0 + 1) (N + 1) (D.put kl (.held t68))))
end Go.Proofs.Yticohpimkicphaa
