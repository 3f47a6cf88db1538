/-
  A region that draws its order, by an invariant: each operation is looked at once, whatever came before it. No condition but that the operations' edges go back in the text.
-/
import Derived.WalkKit
namespace Go.Proofs.Yticohpimkicphaa
open Go.RowKit

/-- How many of the first n are left. -/
def leftN (d : Nat → Bool) : Nat → Nat
  | 0 => 0
  | n + 1 => leftN d n + if d n = true then 0 else 1
def upD (d : Nat → Bool) (i : Nat) : Nat → Bool := fun j => if j = i then true else d j
theorem upD_same (d : Nat → Bool) (i : Nat) : upD d i i = true := if_pos rfl
theorem upD_ne {d : Nat → Bool} {i j : Nat} (h : j ≠ i) : upD d i j = d j := if_neg h
theorem leftN_far {d : Nat → Bool} {i : Nat} : ∀ {n : Nat}, n ≤ i → leftN (upD d i) n = leftN d n
  | 0, _ => rfl
  | n + 1, h => by unfold leftN; rw [leftN_far (by omega), upD_ne (by omega)]
theorem leftN_up {d : Nat → Bool} {i : Nat} (hd : d i = false) : ∀ {n : Nat}, i < n → leftN (upD d i) n + 1 = leftN d n
  | 0, h => by omega
  | n + 1, h => by
    unfold leftN
    rcases Nat.lt_or_ge i n with h1 | h1
    · rw [← leftN_up hd h1, upD_ne (by omega)]; omega
    · have : n = i := by omega
      subst this
      rw [leftN_far (Nat.le_refl _), upD_same, hd]; rfl
theorem leftN_zero {d : Nat → Bool} : ∀ {n : Nat}, leftN d n = 0 → ∀ i, i < n → d i = true
  | 0, _, i, h => by omega
  | n + 1, h0, i, h => by
    unfold leftN at h0
    rcases Nat.lt_or_ge i n with h1 | h1
    · exact leftN_zero (by omega) i h1
    · have : i = n := by omega
      subst this
      cases hd : d i
      · rw [hd] at h0; simp at h0
      · rfl
theorem leftN_all (n : Nat) : leftN (fun _ => false) n = n := by
  induction n with
  | zero => rfl
  | succ n ih => unfold leftN; rw [ih]; rfl

/-- The edges go back. -/
def goBack (ops : Array Oper) : Bool := (List.range ops.size).all fun i => (ops[i]?.map fun o => o.after.all fun e => decide (e.on < i)).getD true
theorem goBack_at {ops : Array Oper} (h : goBack ops = true) {i : Nat} {o : Oper} (ho : ops[i]? = some o) : ∀ e ∈ o.after, e.on < i := by
  unfold goBack at h
  rw [List.all_eq_true] at h
  have hi : i < ops.size := (Array.getElem?_eq_some_iff.1 ho).1
  have h1 := h i (List.mem_range.2 hi)
  rw [ho] at h1
  simp only [Option.map_some, Option.getD_some, Array.all_eq_true_iff_forall_mem, decide_eq_true_eq] at h1
  exact h1

/-- What is done has all that it waits for. -/
def ClosedD (md : Region.Mode) (ops : Array Oper) (d : Nat → Bool) : Prop := ∀ (j : Nat) (o : Oper), ops[j]? = some o → d j = true → ∀ e ∈ o.after, Region.binds md e = true → d e.on = true
theorem upD_true {d : Nat → Bool} {i j : Nat} (h : d j = true) : upD d i j = true := by
  by_cases hj : j = i
  · subst hj; exact upD_same _ _
  · rw [upD_ne hj]; exact h
theorem ClosedD.up {md : Region.Mode} {ops : Array Oper} {d : Nat → Bool} (h : ClosedD md ops d) {i : Nat} {o : Oper} (ho : ops[i]? = some o) (hp : ∀ e ∈ o.after, Region.binds md e = true → d e.on = true) : ClosedD md ops (upD d i) := fun j oj hj hd e he hb => by
  by_cases hji : j = i
  · subst hji
    rw [ho] at hj
    injection hj with hj
    subst hj
    exact upD_true (hp e he hb)
  · rw [upD_ne hji] at hd
    exact upD_true (h j oj hj hd e he hb)
/-- One operation's step. -/
def StepI (P : Program) (md : Region.Mode) (ops : Array Oper) (Q : Exit → Act → World → Prop) (J : (Nat → Bool) → Act → World → Prop) (i : Nat) (o : Oper) : Prop :=
  ∀ (d : Nat → Bool) (a : Act) (w : World), d i = false → (∀ e ∈ o.after, Region.binds md e = true → d e.on = true) → ClosedD md ops d → J d a w →
    ∀ K : Act → World → Prop, (∀ a' w', J (upD d i) a' w' → K a' w') → if Region.wanted o (yielded ops a.tmps) = true then Oper.wp P o a w K Q else K (a.put o.dst undef) w
def StepsI (P : Program) (md : Region.Mode) (ops : Array Oper) (Q : Exit → Act → World → Prop) (J : (Nat → Bool) → Act → World → Prop) : Nat → List Oper → Prop
  | _, [] => True
  | i, o :: r => StepI P md ops Q J i o ∧ StepsI P md ops Q J (i + 1) r
theorem StepsI.at {P : Program} {md : Region.Mode} {ops : Array Oper} {Q : Exit → Act → World → Prop} {J : (Nat → Bool) → Act → World → Prop} : ∀ {l : List Oper} {b : Nat}, StepsI P md ops Q J b l → ∀ {k : Nat} {o : Oper}, l[k]? = some o → StepI P md ops Q J (b + k) o
  | [], _, _, _, _, h => by simp at h
  | x :: r, b, hs, 0, o, h => by
    simp only [List.getElem?_cons_zero, Option.some.injEq] at h
    subst h
    exact hs.1
  | x :: r, b, hs, k + 1, o, h => by
    rw [List.getElem?_cons_succ] at h
    have := StepsI.at hs.2 h
    rw [show b + (k + 1) = b + 1 + k by omega]
    exact this

theorem wpAny_inv {P : Program} {md : Region.Mode} {ops : Array Oper} {Q : Exit → Act → World → Prop} (ht : goBack ops = true) (J : (Nat → Bool) → Act → World → Prop)
    (hs : StepsI P md ops Q J 0 ops.toList) (he : ∀ d a w, (∀ i, i < ops.size → d i = true) → J d a w → Q .normal a w) :
    ∀ (fuel : Nat) (listed : Array Bool) (a : Act) (w : World), listed.size = ops.size → leftN (fun i => listed.getD i false) ops.size ≤ fuel → ClosedD md ops (fun i => listed.getD i false) → J (fun i => listed.getD i false) a w → wpAny P md ops Q fuel listed a w := by
  have done : ∀ (listed : Array Bool), listed.size = ops.size → Region.ready md ops listed = [] → ∀ i, i < ops.size → listed.getD i false = true := by
    intro listed hsz hr i
    induction i using Nat.strongRecOn with
    | ind i ih =>
      intro hi
      cases hd : listed.getD i false
      · exfalso
        have ho : ops[i]? = some ops[i] := Array.getElem?_eq_getElem hi
        have hm : i ∈ Region.ready md ops listed := mem_ready.2 ⟨by
          rw [← hd]
          simp [Array.getD, hsz, hi], ops[i], ho, fun e hmem _ => ih e.on (goBack_at ht ho e hmem) (Nat.lt_trans (goBack_at ht ho e hmem) hi)⟩
        rw [hr] at hm
        cases hm
      · rfl
  intro fuel
  induction fuel with
  | zero =>
    intro listed a w hsz hle hcl hJ
    have hall := leftN_zero (Nat.le_zero.1 hle)
    refine ⟨?_, he _ a w hall hJ⟩
    apply List.eq_nil_iff_forall_not_mem.2
    intro i hi
    obtain ⟨h1, o, ho, _⟩ := mem_ready.1 hi
    have hlt : i < ops.size := (Array.getElem?_eq_some_iff.1 ho).1
    have h2 := hall i hlt
    simp only [Array.getD, hsz, hlt, dif_pos] at h1 h2
    rw [h1] at h2; cases h2
  | succ fuel ih =>
    intro listed a w hsz hle hcl hJ
    refine ⟨fun hr => he _ a w (done listed hsz hr) hJ, fun i hi => ?_⟩
    obtain ⟨h1, o, ho, hpre⟩ := mem_ready.1 hi
    have hlt : i < ops.size := (Array.getElem?_eq_some_iff.1 ho).1
    have hd : listed.getD i false = false := by
      simp only [Array.getD, hsz, hlt, dif_pos] at h1 ⊢
      exact h1
    have hst := StepsI.at hs (k := i) (o := o) (by rw [Array.getElem?_toList]; exact ho)
    rw [Nat.zero_add] at hst
    have hup : (fun j => (listed.setIfInBounds i true).getD j false) = upD (fun j => listed.getD j false) i := by
      funext j
      unfold upD
      by_cases hj : j = i
      · subst hj
        simp [Array.getD, hsz, hlt]
      · rw [if_neg hj, getD_set_ne false (Ne.symm hj)]
    refine wpOp_step ho fun K hK => ?_
    refine hst (fun i => listed.getD i false) a w hd hpre hcl hJ K fun a' w' hJ' => hK a' w' ?_
    refine ih _ a' w' (by simp [hsz]) ?_ (by rw [hup]; exact hcl.up ho hpre) (by rw [hup]; exact hJ')
    rw [hup]
    have := leftN_up (d := fun i => listed.getD i false) hd hlt
    omega

/-- **A region that draws, by an invariant.** -/
theorem wp_region_inv {P : Program} {id : Nat} {l : List Oper} {Q : Exit → Act → World → Prop} {a : Act} {w : World} (hm : P.follows .mixedOrders = true) (ht : goBack l.toArray = true) (J : (Nat → Bool) → Act → World → Prop)
    (h0 : J (fun _ => false) a w.drew) (hs : StepsI P .any l.toArray Q J 0 l) (he : ∀ d a w, (∀ i, i < l.length → d i = true) → J d a w → Q .normal a w) : (Code.region id l.toArray true).wp P Q a w := by
  refine wp_region_any hm (wpAny_inv ht J hs he _ _ a w.drew (by simp) ?_ ?_ ?_)
  · have : (fun i => (Array.replicate l.toArray.size false).getD i false) = fun _ => false := by
      funext i
      simp [Array.getD]
    rw [this, leftN_all]
    exact Nat.le_refl _
  · have : (fun i => (Array.replicate l.toArray.size false).getD i false) = fun _ => false := by
      funext i
      simp [Array.getD]
    rw [this]
    intro j o _ hd
    cases hd
  · have : (fun i => (Array.replicate l.toArray.size false).getD i false) = fun _ => false := by
      funext i
      simp [Array.getD]
    rw [this]
    exact h0
/-- The same; the invariant is told the frame in which the region began. -/
theorem wp_region_inv' {P : Program} {id : Nat} {l : List Oper} {Q : Exit → Act → World → Prop} {a : Act} {w : World} (hm : P.follows .mixedOrders = true) (ht : goBack l.toArray = true) (J : Act → (Nat → Bool) → Act → World → Prop)
    (h0 : J a (fun _ => false) a w.drew) (hs : StepsI P .any l.toArray Q (J a) 0 l) (he : ∀ d a' w, (∀ i, i < l.length → d i = true) → J a d a' w → Q .normal a' w) : (Code.region id l.toArray true).wp P Q a w :=
  wp_region_inv hm ht (J a) h0 hs he
end Go.Proofs.Yticohpimkicphaa
