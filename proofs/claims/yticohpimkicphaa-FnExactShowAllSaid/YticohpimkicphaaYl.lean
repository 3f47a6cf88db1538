/-
  Slides: the map of all that is reached, as it lies in memory.
-/
import Derived.Test.YticohpimkicphaaYk
import Derived.Maps.AppendAt
import Derived.Maps.Range
namespace Go.Proofs.Yticohpimkicphaa
open Go.RowKit
open Go.Maps (Keyed)

/-- A value reads as itself. -/
def heldR (v : Value) : Option (DataW Value × List MemPlace) := some (.held v, [])
/-- The map behind the first k that are reached. -/
def mpK (out : List Nd) (vs : List Value) : Nat → DataW Value
  | 0 => .map []
  | k + 1 => (mpK out vs k).put (keyL (out.getD k Nd.zero).pl) (.held (vs.getD k undef))
theorem mpK_succ (out : List Nd) (vs : List Value) (k : Nat) : mpK out vs (k + 1) = (mpK out vs k).put (keyL (out.getD k Nd.zero).pl) (.held (vs.getD k undef)) := rfl
theorem vgetD_left {vs us : List Value} {j : Nat} (h : j < vs.length) : (vs ++ us).getD j undef = vs.getD j undef := by
  rw [List.getD_eq_getElem?_getD, List.getD_eq_getElem?_getD, List.getElem?_append_left h]
theorem vgetD_last (vs : List Value) (u : Value) : (vs ++ [u]).getD vs.length undef = u := by
  rw [List.getD_eq_getElem?_getD]; simp
theorem mpK_congr {out zs : List Nd} {vs us : List Value} {k : Nat} (h1 : k ≤ out.length) (h2 : k ≤ vs.length) : mpK (out ++ zs) (vs ++ us) k = mpK out vs k := by
  induction k with
  | zero => rfl
  | succ k ih => rw [mpK_succ, mpK_succ, ih (by omega) (by omega), getD_left (by omega), vgetD_left (by omega)]
theorem mpK_snoc {out : List Nd} {vs : List Value} {z : Nd} {v : Value} (h : vs.length = out.length) : mpK (out ++ [z]) (vs ++ [v]) (out ++ [z]).length = (mpK out vs out.length).put (keyL z.pl) (.held v) := by
  rw [List.length_append, List.length_singleton, mpK_succ, mpK_congr (Nat.le_refl _) (by omega), getD_last, ← h, vgetD_last]
theorem mpK_isMap (out : List Nd) (vs : List Value) (k : Nat) : Maps.IsMap (mpK out vs k) := by
  induction k with
  | zero => exact Maps.isMap_empty
  | succ k ih => exact ih.put _ _
theorem isKey {n : Nat} {ps : List Int} (h : KW n ps) : WideAt.IsKeyLit (keyL ps) := keyLaw.key (key_of h)
theorem ntake_snoc {out : List Nd} {k : Nat} (h : k < out.length) : out.take (k + 1) = out.take k ++ [out.getD k Nd.zero] := by
  rw [List.take_add_one, List.getElem?_eq_getElem h, List.getD_eq_getElem?_getD, List.getElem?_eq_getElem h]; rfl
theorem mp_has {n : Nat} {out : List Nd} {vs : List Value} {k : Nat} {q : List Int} (hn : n ≤ 4) (hV : ∀ y ∈ out, KW n y.pl) (hq : KW n q) (hk : k ≤ out.length) : Maps.has (mpK out vs k) (keyL q) = (out.take k).any (fun y => y.pl == q) := by
  induction k with
  | zero => rfl
  | succ k ih =>
    rw [mpK_succ, ntake_snoc (by omega), List.any_append]
    have hkk := hV _ (getD_in (show k < out.length by omega))
    by_cases e : (out.getD k Nd.zero).pl = q
    · rw [e, Maps.has_put_same (mpK_isMap _ _ _) (isKey hq)]
      simp only [List.any_cons, List.any_nil, e, beq_self_eq_true, Bool.true_or, Bool.or_true]
    · rw [Maps.has_put_other (fun h => e (key_inj hn hkk hq h.symm)), ih (by omega)]
      have : ((out.getD k Nd.zero).pl == q) = false := by simpa using e
      simp only [List.any_cons, List.any_nil, this, Bool.or_false]
theorem mp_hasN {n : Nat} {out : List Nd} {vs : List Value} {q : List Int} (hn : n ≤ 4) (hV : ∀ y ∈ out, KW n y.pl) (hq : KW n q) : Maps.has (mpK out vs out.length) (keyL q) = hasN out q := by
  rw [mp_has hn hV hq (Nat.le_refl _), List.take_length]; rfl
theorem nd_ne {out : List Nd} (h : (out.map Nd.pl).Nodup) {i j : Nat} (hij : i < j) (hj : j < out.length) : (out.getD i Nd.zero).pl ≠ (out.getD j Nd.zero).pl := by
  unfold List.Nodup at h
  rw [List.pairwise_map, List.pairwise_iff_getElem] at h
  have := h i j (by omega) hj hij
  rw [List.getD_eq_getElem?_getD, List.getD_eq_getElem?_getD, List.getElem?_eq_getElem hj, List.getElem?_eq_getElem (show i < out.length by omega)]
  exact this
theorem mp_at {n : Nat} {out : List Nd} {vs : List Value} {k j : Nat} (hn : n ≤ 4) (hV : ∀ y ∈ out, KW n y.pl) (hd : (out.map Nd.pl).Nodup) (hk : k ≤ out.length) (hj : j < k) (z : DataW Value) : (mpK out vs k).atKey (keyL (out.getD j Nd.zero).pl) z = .held (vs.getD j undef) := by
  induction k with
  | zero => omega
  | succ k ih =>
    have hjv := hV _ (getD_in (show j < out.length by omega))
    have hkv := hV _ (getD_in (show k < out.length by omega))
    rw [mpK_succ]
    rcases Nat.lt_or_ge j k with h | h
    · rw [Maps.atKey_put_other (fun e => nd_ne hd h (by omega) (key_inj hn hjv hkv e)), ih (by omega) h]
    · have : j = k := by omega
      subst this
      rw [Maps.atKey_put_same (mpK_isMap _ _ _) (isKey hjv)]
theorem mp_tidy {n : Nat} {out : List Nd} {vs : List Value} {k : Nat} (hV : ∀ y ∈ out, KW n y.pl) (hk : k ≤ out.length) : Maps.Tidy (mpK out vs k) := by
  induction k with
  | zero => exact Maps.tidy_empty
  | succ k ih => exact (ih (by omega)).put (isKey (hV _ (getD_in (show k < out.length by omega)))) _
theorem mp_size {n : Nat} {out : List Nd} {vs : List Value} {k : Nat} (hn : n ≤ 4) (hV : ∀ y ∈ out, KW n y.pl) (hd : (out.map Nd.pl).Nodup) (hk : k ≤ out.length) : Maps.size (mpK out vs k) = k := by
  induction k with
  | zero => rfl
  | succ k ih =>
    have hkv := hV _ (getD_in (show k < out.length by omega))
    rw [mpK_succ, Maps.size_put (mp_tidy hV (by omega)), mp_has hn hV hkv (by omega), ih (by omega)]
    have : (out.take k).any (fun y => y.pl == (out.getD k Nd.zero).pl) = false := by
      rw [List.any_eq_false]
      intro y hy
      obtain ⟨i, hi, rfl⟩ := List.getElem_of_mem hy
      rw [List.length_take] at hi
      rw [List.getElem_take]
      have := nd_ne hd (show i < k by omega) (show k < out.length by omega)
      rw [List.getD_eq_getElem?_getD, List.getElem?_eq_getElem (show i < out.length by omega)] at this
      simpa using this
    rw [this]; rfl

/-- 'm[k] = v' of a map's literal. -/
theorem wpInsert {H : Type} {P : Program} (w : World) {ops : Array Oper} {rest : List Oper} {o : Oper} {a : Act} {Q : Exit → Act → World → Prop}
    (hg : o.guard = none) (m x v : Operand) (t : TypeId) (hop : o.op = Op.insert t m x v)
    (k e : TypeId) (K : Keyed P k) (ht : P.underlying t = some (.map k e)) (R : Value → Option (DataW H × List MemPlace)) (b n : Nat) (D : DataW H)
    (hm : a.eval m = .map (some b)) (hown : w.ownsMap P k R b n D) (hn : n < maxLen) (key val : Value) (kl : Lit) (hx : a.eval x = key) (hv : a.eval v = val) (hkey : keyOf P k key = some kl)
    (d : DataW H) (ps : List MemPlace) (hval : R val = some (d, ps))
    (hK : ∀ w', w'.ownsMap P k R b (n + 1) (D.put kl d) → w.grownBy w' (some b) → wpList P ops Q rest (a.put o.dst undef) w') :
    wpList P ops Q (o :: rest) a w := by
  refine wpList_plain hg fun K' hK' => ?_
  obtain ⟨w', hrun, r1, r2⟩ := hown.update K ht hn hkey hval
  unfold Oper.wp
  simp [execOp, hop, hm, hx, hv, hrun, Result.andThen]
  exact hK' _ _ (hK w' r1 r2)

theorem SlI.grown {w w' : World} {row : Option Nat} {A : Option Addr} {n : Nat} {xs : List Int} (h : SlI w A n xs) (hg : w.grownBy w' row) (hne : ∀ a, A = some a → some a.block ≠ row) : SlI w' A n xs :=
  ⟨h.1, fun hn => by
    obtain ⟨b, off, e, hl, hc⟩ := h.2 hn
    refine ⟨b, off, e, Nat.lt_of_lt_of_le hl hg.size, fun j v hj => ?_⟩
    exact (hg.cell_far ⟨b, off + j, none⟩ hl (show some b ≠ row from hne _ e)).trans (hc j v hj)⟩
theorem OwnI.grown {w w' : World} {row : Option Nat} {B : Nat} {v : Value} {xs : List Int} (h : OwnI w B v xs) (hg : w.grownBy w' row) (hne : v.ownBlock = none ∨ v.ownBlock ≠ row) : OwnI w' B v xs := World.ownsRow.kept h hg hne
theorem kept_below {w w' : World} {B e s n : Nat} {v : Value} {xs : List Value} (h : w.ownsRow B e s v n xs) (hb : Below w.heap.size w w') : w'.ownsRow B e s v n xs := by
  rcases hv : v.ownBlock with _ | k
  · exact World.ownsRow.kept h (grown_of_below hb none) (.inl hv)
  · exact World.ownsRow.kept h (grown_of_below hb none) (.inr (by rw [hv]; simp))

/-- A slice that neither the map's block nor the queue's holds. -/
def HSl (w wr : World) (qv v : Value) (xs : List Int) : Prop := ∃ A c, v = .slice A xs.length c ∧ SlI wr A xs.length xs ∧ ∀ a, A = some a → a.block ≠ w.heap.size + 1 ∧ qv.ownBlock ≠ some a.block ∧ a.block < wr.heap.size
def HOw (w wr : World) (qv v : Value) (xs : List Int) : Prop := OwnI wr (w.heap.size + 2) v xs ∧ (v.ownBlock = none ∨ v.ownBlock ≠ qv.ownBlock)
theorem HSl.grown {w wr wr' : World} {qv v : Value} {xs : List Int} (h : HSl w wr qv v xs) {row : Option Nat} (hg : wr.grownBy wr' row) (hr : ∀ g, row = some g → g = w.heap.size + 1 ∨ qv.ownBlock = some g) : HSl w wr' qv v xs := by
  obtain ⟨A, c, e, hs, hn⟩ := h
  refine ⟨A, c, e, hs.grown hg (fun a ha he => ?_), fun a ha => ⟨(hn a ha).1, (hn a ha).2.1, Nat.lt_of_lt_of_le (hn a ha).2.2 hg.size⟩⟩
  rcases hr _ he.symm with h | h
  · exact (hn a ha).1 h
  · exact (hn a ha).2.1 h
theorem HSl.below {w wr wr' : World} {qv v : Value} {xs : List Int} (h : HSl w wr qv v xs) (hb : Below wr.heap.size wr wr') : HSl w wr' qv v xs := h.grown (grown_of_below hb none) (fun g e => by cases e)
theorem HSl.queue {w wr : World} {qv qv' v : Value} {xs : List Int} {z : Nat} (h : HSl w wr qv v xs) (hq : qv'.ownBlock = qv.ownBlock ∨ qv'.ownBlock = some z) (hz : ∀ A n c a, v = .slice A n c → A = some a → a.block ≠ z) : HSl w wr qv' v xs := by
  obtain ⟨A, c, e, hs, hn⟩ := h
  refine ⟨A, c, e, hs, fun a ha => ⟨(hn a ha).1, ?_, (hn a ha).2.2⟩⟩
  rcases hq with h | h
  · rw [h]; exact (hn a ha).2.1
  · rw [h]; intro e'; exact hz A _ c a e ha (Option.some.inj e').symm
theorem HOw.grown {w wr wr' : World} {qv v : Value} {xs : List Int} (h : HOw w wr qv v xs) {row : Option Nat} (hg : wr.grownBy wr' row) (hr : ∀ g, row = some g → g = w.heap.size + 1 ∨ qv.ownBlock = some g) : HOw w wr' qv v xs := by
  obtain ⟨h1, h2⟩ := h
  refine ⟨h1.grown hg ?_, h2⟩
  rcases hv : v.ownBlock with _ | g
  · exact .inl rfl
  · right
    intro he
    have hl := World.ownsRow.lt h1 g hv
    rcases hr g he.symm with h | h
    · omega
    · rcases h2 with h2 | h2
      · rw [hv] at h2; cases h2
      · exact h2 (hv.trans h.symm)
theorem HOw.below {w wr wr' : World} {qv v : Value} {xs : List Int} (h : HOw w wr qv v xs) (hb : Below wr.heap.size wr wr') : HOw w wr' qv v xs := h.grown (grown_of_below hb none) (fun g e => by cases e)

/-- What the program keeps of all that is reached: the queue, the map. -/
def RR (w wr : World) (out : List Nd) (qv : Value) (qs vs : List Value) : Prop :=
  wr.ownsRow (w.heap.size + 2) 22 1 qv qs.length qs ∧ qs.length = out.length ∧ vs.length = out.length ∧
  wr.ownsMap Try.prog 71 heldR (w.heap.size + 1) out.length (mpK out vs out.length) ∧
  ∀ j, j < out.length → HSl w wr qv (qs.getD j undef) (out.getD j Nd.zero).pl ∧ HOw w wr qv (vs.getD j undef) (out.getD j Nd.zero).pt
theorem RR.below {w wr wr' : World} {out : List Nd} {qv : Value} {qs vs : List Value} (h : RR w wr out qv qs vs) (hb : Below wr.heap.size wr wr') : RR w wr' out qv qs vs := by
  obtain ⟨h1, h2, h3, h4, h5⟩ := h
  exact ⟨kept_below h1 hb, h2, h3, h4.kept (grown_of_below hb none) (by simp), fun j hj => ⟨(h5 j hj).1.below hb, (h5 j hj).2.below hb⟩⟩
/-- One more is reached. -/
theorem RR.push {w wr w2 w3 w4 w5 : World} {out : List Nd} {qv qv' nv pv : Value} {qs vs : List Value} {z : Nd} (h : RR w wr out qv qs vs) (hb2 : Below wr.heap.size wr w2)
    (hnv : HSl w w2 qv nv z.pl) (hpv : HOw w w2 qv pv z.pt) (hg3 : w2.grownBy w3 (some (w.heap.size + 1))) (hm3 : w3.ownsMap Try.prog 71 heldR (w.heap.size + 1) (out.length + 1) ((mpK out vs out.length).put (keyL z.pl) (.held pv)))
    (hb4 : Below w3.heap.size w3 w4) (hq5 : w5.ownsRow (w.heap.size + 2) 22 1 qv' (qs.length + 1) (qs ++ [nv])) (hg5 : w4.grownBy w5 qv.ownBlock) (hloc : qv'.ownBlock = qv.ownBlock ∨ qv'.ownBlock = some w4.heap.size) :
    RR w w5 (out ++ [z]) qv' (qs ++ [nv]) (vs ++ [pv]) := by
  obtain ⟨h1, h2, h3, h4, h5⟩ := h
  have hqk : ∀ g, qv.ownBlock = some g → w.heap.size + 2 ≤ g := fun g hg => (World.ownsRow.lt h1 g hg).1
  have slide : ∀ v xs, HSl w w2 qv v xs → HSl w w5 qv' v xs := fun v xs hv => by
    have a1 := ((hv.grown hg3 (fun g e => .inl (by injection e with e; exact e.symm))).below hb4)
    refine ((a1.grown hg5 (fun g e => .inr e))).queue hloc (fun A n c a e ha => ?_)
    obtain ⟨A', c', e', _, hn'⟩ := a1
    rw [e'] at e
    injection e with e1 e2 e3
    subst e1
    have := (hn' a ha).2.2
    omega
  have own : ∀ v xs, HOw w w2 qv v xs → HOw w w5 qv' v xs := fun v xs hv => by
    have a1 := ((hv.grown hg3 (fun g e => .inl (by injection e with e; exact e.symm))).below hb4)
    have a2 := a1.grown hg5 (fun g e => .inr e)
    refine ⟨a2.1, ?_⟩
    rcases hvv : v.ownBlock with _ | g
    · exact .inl rfl
    · right
      rcases hloc with h | h
      · rw [h, ← hvv]
        rcases a2.2 with h' | h'
        · rw [hvv] at h'; cases h'
        · exact h'
      · rw [h]
        intro e
        have := World.ownsRow.lt a1.1 g hvv
        injection e with e
        omega
  refine ⟨by simpa using hq5, by simp [h2], by simp [h3], ?_, fun j hj => ?_⟩
  · rw [mpK_snoc h3, List.length_append, List.length_singleton]
    exact (hm3.kept (grown_of_below hb4 none) (by simp)).kept hg5 (fun e => by have := hqk _ e.symm; omega)
  · rw [List.length_append, List.length_singleton] at hj
    rcases Nat.lt_or_ge j out.length with hjl | hjl
    · rw [getD_left hjl, vgetD_left (by omega), vgetD_left (by omega)]
      exact ⟨slide _ _ ((h5 j hjl).1.below hb2), own _ _ ((h5 j hjl).2.below hb2)⟩
    · have hjj : j = out.length := by omega
      subst hjj
      have e1 : (qs ++ [nv]).getD out.length undef = nv := by rw [← h2]; exact vgetD_last qs nv
      have e2 : (vs ++ [pv]).getD out.length undef = pv := by rw [← h3]; exact vgetD_last vs pv
      rw [e1, e2, getD_last]
      exact ⟨slide _ _ hnv, own _ _ hpv⟩

set_option maxRecDepth 100000 in
theorem clone0_any (B : Nat) (V : Value) (xs : List Int) (w : World) (H : OwnI w B V xs) (hn : xs.length ≤ 1048576) :
    Calls Try.prog 71 #[V] w (GivesI xs w) := by
  obtain ⟨A, c, rfl⟩ := H.form
  have HS := H.sl.2
  cases A with
  | none =>
    have h0 : xs = [] := by
      rcases H.2 with ⟨_, h⟩ | ⟨g, cap, cur, e, _⟩
      · exact List.eq_nil_of_length_eq_zero h
      · injection e with e; cases e
    subst h0
    have hnil : ∀ W, (binOp .eql 22 (.slice none 0 c) (.slice none 0 0)).run Try.prog W = .ok (.bool true) W := fun W => Lib.run_eql_slice_nil W _ _ _ 0 c 0 0 Try.underlying22
    clear H HS
    go_enter Try.func71, Try.ntmps71
    go_wp2
    go_ret
    exact ⟨_, rfl, OwnI.nil _ _, Below.refl _ _⟩
  | some ad =>
    obtain ⟨b, off, hrow⟩ : ∃ b off, ad = ⟨b, off, none⟩ := by
      rcases H.2 with ⟨e, _⟩ | ⟨g, cap, cur, e, _⟩
      · injection e with e; cases e
      · injection e with e; injection e with e; exact ⟨_, _, e⟩
    subst hrow
    have HH := Lib.hid (HS.below (bw_alloc (Below.refl _ _) (.cells #[] 2)))
    have hnil : ∀ W, (binOp .eql 22 (.slice (some ⟨b, off, none⟩) xs.length c) (.slice none 0 0)).run Try.prog W = .ok (.bool false) W := fun W => Lib.run_eql_slice_nil W _ _ _ xs.length c 0 0 Try.underlying22
    clear H HS
    generalize hnl : xs.length = n at *
    go_enter Try.func71, Try.ntmps71
    go_wp2_with (at_builtin; refine wpAppL rfl _ _ rfl w.heap.size _ [] rfl (OwnI.lit w (Nat.le_refl _)) b off n c xs rfl HH.out (by simp; omega) (by simp) ?_; intro v1 w1 hown1 hg1 hb1)
    obtain ⟨A', c', rfl⟩ := hown1.form
    go_ret
    exact ⟨_, rfl, by simpa using hown1, (bw_alloc (Below.refl _ _) _).trans hb1⟩
end Go.Proofs.Yticohpimkicphaa
