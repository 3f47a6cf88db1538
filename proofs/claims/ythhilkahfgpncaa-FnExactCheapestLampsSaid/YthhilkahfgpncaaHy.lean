/-
  FewestLenses: in the program.
-/
import Derived.Test.YthhilkahfgpncaaHx
import Derived.Deep.RegionHeld3
import Derived.Deep.AppendLies
namespace Go.Proofs.Ythhilkahfgpncaa
open Go.RowKit

theorem stepAppI {ops : Array Oper} {o : Oper} {a : Act} {w : World} {K : Act → World → Prop} {Q : Exit → Act → World → Prop} {E : Prop} (hgd : o.guard = none) (s x : Operand)
    (ho : o.op = .call { callee := .builtin .append, args := #[s, x], argTypes := #[36, 36] })
    (B : Nat) (v : Value) (xs : List Int) (hs : a.eval s = v) (hown : OwnI w B v xs) (g : Nat) (u : Int) (hx : a.eval x = .slice (some ⟨g, 0, none⟩) 1 1)
    (hc : w.cell? ⟨g, 0, none⟩ = some (.int .i64 u)) (hn : xs.length ≤ 1048576) (hB : B ≤ w.heap.size) (H : Nat) (hH : w.heap.size = H)
    (h : ∀ gg cap w', OwnI w' B (.slice (some ⟨gg, 0, none⟩) (xs.length + 1) cap) (xs ++ [u]) → w.grownBy w' v.ownBlock → (v.ownBlock = some gg ∨ gg = H) → gg < w'.heap.size → K (a.put o.dst (.slice (some ⟨gg, 0, none⟩) (xs.length + 1) cap)) w') :
    if Region.wanted o (yielded ops a.tmps) = true then Oper.wp Try.prog o a w K Q else E := by
  obtain ⟨i0, hi, hz0, hz1, hz2⟩ := info_parts info64
  refine step_append_lies w hgd s x _ ho B 2 i0 (.int .i64 0) 1 8 Try.underlying36 hi hz0 hz1 hz2 rfl (by decide) v xs.length _ hs hown ⟨g, 0, none⟩ 1 1 [.int .i64 u] hx rfl ?_ ?_ (by decide) ?_ ?_ hB H hH ?_
  · intro j y hj
    cases j with
    | zero => simp at hj; subst hj; rw [add_off]; exact hc
    | succ j => simp at hj
  · simp [Value.oneCell']
  · unfold maxLen; omega
  · omega
  · intro gg cap w' h1 h2 h3 h4
    refine h gg cap w' ?_ h2 h3 h4
    unfold OwnI
    simpa using h1
theorem OwnI.setOther {w : World} {B : Nat} {v : Value} {xs : List Int} (h : OwnI w B v xs) {p : Addr} (hne : v.ownBlock ≠ some p.block) (u : Value) : OwnI (w.setCell p u) B v xs :=
  World.ownsRow.kept h (only_setCell (only_refl w (some p.block)) (.inl rfl) u) (.inr hne)

theorem fwClos_any (t l x s : Int) (g1 g2 : Nat) (A : Option Addr) (n c : Nat) (ys : List Int) (w : World) (hs' : w.cell? ⟨g1, 0, none⟩ = some (.int .i64 s)) (hl' : w.cell? ⟨g2, 0, none⟩ = some (.slice A n c)) (H : SlI w A n ys) (hn : n ≤ 1048576)
    (hv : vHa t l x = true) (hs : isSl s = true) (hf : foAll ys) :
    Calls Try.prog 88 #[.agg #[.int .i64 t, .int .i64 l, .int .i64 x], .pointer (some ⟨g1, 0, none⟩), .pointer (some ⟨g2, 0, none⟩)] w fun e w' => e = .returned (.bool (!anB t l x s ys)) ∧ Below w.heap.size w w' := by
  have l1 := World.block_lt_of_cell? w _ hs'
  have l2 := World.block_lt_of_cell? w _ hl'
  have HC := Lib.hid (fun W hW => anySuits_any t l x s A n c ys W (H.below hW) hn hv hs hf)
  clear H hv hs hf
  generalize anB t l x s ys = b at *
  go_enter Try.func88, Try.ntmps88
  go_wp2_with fail
  refine (HC.out _ (bw_alloc (Below.refl _ _) _)).mono ?_
  rintro e w1 ⟨rfl, hb1⟩
  go_wp2
  go_ret
  exact ⟨by cases b <;> rfl, bw_trans (bw_alloc (Below.refl _ _) _) hb1⟩

set_option maxHeartbeats 800000 in
theorem fwIdx_any (p : LhE → Bool) (q1 : Value) (q2 : Value) (A : Option Addr) (n c : Nat) (xs : List LhE) (w : World) (H : SlLh w A n xs) (hn : n ≤ 1048576)
    (hcl : ∀ k, k < n → ∀ W, Below w.heap.size w W → Calls Try.prog 88 #[.agg #[.int .i64 ((xs.getD k LhE.zero).f0), .int .i64 ((xs.getD k LhE.zero).f1), .int .i64 ((xs.getD k LhE.zero).f2)], q1, q2] W fun e w' => e = .returned (.bool (p (xs.getD k LhE.zero))) ∧ Below W.heap.size W w') :
    Calls Try.prog 92 #[.slice A n c, .func (.func 88) #[] #[q1, q2]] w fun e w' => e = .returned (.int .i64 (gidx p xs)) ∧ Below w.heap.size w w' := by
  have HL := Lib.hid H.1
  have HC := Lib.hid hcl
  clear hcl
  go_enter Try.func92, Try.ntmps92
  go_wp2_with fail
  go_loopw [8] (fun x wr => ∃ k : Nat, k ≤ n ∧ x = .int .i64 k ∧ Hid (∀ j, j < k → p (xs.getD j LhE.zero) = false) ∧ Below w.heap.size w wr) (fun x _ => (n - (intOf x).toNat))
  case atStart => exact ⟨0, by omega, rfl, fun j hj => absurd hj (by omega), Below.refl _ _⟩
  case round =>
    obtain ⟨k, hk, rfl, hno, hbr⟩ := hrel
    by_cases hlt : k < n
    · obtain ⟨b, off, rfl, hbl, hc0, hc1, hc2⟩ := (H.below hbr).get hlt
      clear H
      have hCK := fun W hW => HC.out k hlt W hW
      cases hp : p (xs.getD k LhE.zero)
      · have hn' : ∀ j, j < k + 1 → p (xs.getD j LhE.zero) = false := fun j hj => by
          rcases Nat.lt_or_ge j k with h | h
          · exact hno.out j h
          · have : j = k := by omega
            subst this; exact hp
        have HN := Lib.hid hn'
        clear hn'
        generalize xs.getD k LhE.zero = y at *
        go_wp2_with fail
        refine (hCK _ hbr).mono ?_
        rw [hp]
        rintro e w1 ⟨rfl, hb1⟩
        go_wp2_with fail
        go_roundw
        case rel => exact ⟨k + 1, by omega, by go_num, HN.out, bw_trans hbr hb1⟩
        case measure => simp [intOf]; omega
      · have HF := Lib.hid (gidx_at (by rw [HL.out]; exact hlt) hp hno.out)
        generalize xs.getD k LhE.zero = y at *
        go_wp2_with fail
        refine (hCK _ hbr).mono ?_
        rw [hp]
        rintro e w1 ⟨rfl, hb1⟩
        go_wp2
        go_ret
        exact ⟨ret_int (by rw [HF.out]), bw_trans hbr hb1⟩
    · have hkk : k = n := by omega
      subst hkk
      have HF := Lib.hid (gidx_none (fun j hj => hno.out j (by rw [← HL.out]; exact hj)))
      clear H
      go_wp2
      go_ret
      exact ⟨ret_int (by rw [HF.out]), hbr⟩

set_option maxHeartbeats 800000 in
theorem fwCon_any (p : LhE → Bool) (q1 : Value) (q2 : Value) (A : Option Addr) (n c : Nat) (xs : List LhE) (w : World) (H : SlLh w A n xs) (hn : n ≤ 1048576) {b : Bool} (hb : xs.any p = b)
    (hcl : ∀ k, k < n → ∀ W, Below w.heap.size w W → Calls Try.prog 88 #[.agg #[.int .i64 ((xs.getD k LhE.zero).f0), .int .i64 ((xs.getD k LhE.zero).f1), .int .i64 ((xs.getD k LhE.zero).f2)], q1, q2] W fun e w' => e = .returned (.bool (p (xs.getD k LhE.zero))) ∧ Below W.heap.size W w') :
    Calls Try.prog 60 #[.slice A n c, .func (.func 88) #[] #[q1, q2]] w fun e w' => e = .returned (.bool b) ∧ Below w.heap.size w w' := by
  have HF := Lib.hid (gidx_any p xs)
  have HB := Lib.hid hb
  clear hb
  go_enter Try.func60, Try.ntmps60
  go_wp2_with fail
  refine (fwIdx_any p q1 q2 A n c xs w H hn hcl).mono ?_
  rintro e w1 ⟨rfl, hb1⟩
  go_wp2
  go_ret
  exact ⟨ret_bool (by rw [← HB.out, ← HF.out]), hb1⟩

theorem sel_lt' {q : Nat → Bool} {k j : Nat} (hj : j < (selL q k).length) : 0 ≤ (selL q k).getD j 0 ∧ (selL q k).getD j 0 < k := by
  induction k with
  | zero => simp [selL] at hj
  | succ k ih =>
    cases h : q k
    · rw [sel_no h] at hj ⊢
      have := ih hj; omega
    · rw [sel_yes h] at hj ⊢
      rcases Nat.lt_or_ge j (selL q k).length with h1 | h1
      · have := ih h1
        rw [List.getD_eq_getElem?_getD, List.getElem?_append_left h1, ← List.getD_eq_getElem?_getD]
        omega
      · have : j = (selL q k).length := by simp at hj; omega
        subst this
        rw [List.getD_eq_getElem?_getD, List.getElem?_append_right (Nat.le_refl _)]
        simp; omega
theorem foAll_ln {ys : List Int} {b m : Nat} (hf : foAll ys) (hl : ys.length = m) : foAll (lnL ys b m) := by
  intro k hk
  unfold lnL at *
  rw [List.length_map] at hk
  have h := sel_lt' hk
  obtain ⟨h1, h2⟩ := h
  have e : (((selL b.testBit m).map fun i => ys.getD i.toNat 0).getD k 0) = ys.getD ((selL b.testBit m).getD k 0).toNat 0 := by
    simp [List.getD_eq_getElem?_getD, hk]
  rw [e]
  exact hf _ (by omega)
theorem cv_any {xs : List LhE} {n : Nat} {s : Int} {ys : List Int} {m b : Nat} (hl : xs.length = n) : cvB xs n s ys m b = !xs.any (fun y => !anB y.f0 y.f1 y.f2 s (lnL ys b m)) := by
  unfold cvB
  cases h : xs.any (fun y => !anB y.f0 y.f1 y.f2 s (lnL ys b m))
  · refine decide_eq_true (sel_none.2 fun i hi => ?_)
    have := gany_at (d := LhE.zero) h (k := i) (by omega)
    unfold noF; rw [fB_any]; exact this
  · refine decide_eq_false fun hh => ?_
    rw [gany_false (d := LhE.zero) (fun j hj => by
      have := sel_none.1 hh j (by omega)
      unfold noF at this; rw [fB_any] at this; exact this)] at h
    cases h
end Go.Proofs.Ythhilkahfgpncaa
