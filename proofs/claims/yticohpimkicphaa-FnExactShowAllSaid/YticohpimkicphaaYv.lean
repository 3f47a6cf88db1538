/-
  UselessBars: a slide without one of its bars; what holds inside the drawn statements.
-/
import Derived.Test.YticohpimkicphaaYu
namespace Go.Proofs.Yticohpimkicphaa
open Go.RowKit

/-- Without the i-th. -/
def wo (bs : List BrE) (i : Nat) : List BrE := bs.take i ++ bs.drop (i + 1)
theorem wo_len {bs : List BrE} {i m : Nat} (h : bs.length = m) (hi : i < m) : (wo bs i).length = m - 1 := by
  unfold wo
  rw [List.length_append, List.length_take, List.length_drop]
  omega
theorem wo_mem {bs : List BrE} {i : Nat} {y : BrE} (h : y ∈ wo bs i) : y ∈ bs := by
  unfold wo at h
  rcases List.mem_append.1 h with h | h
  · exact List.mem_of_mem_take h
  · exact List.mem_of_mem_drop h
theorem bd_mem {bs : List BrE} {m n : Nat} (hm : bs.length = m) (h : brBd bs m n) : ∀ y ∈ bs, 0 ≤ y.f0 ∧ y.f0 < n ∧ 0 ≤ y.f2 ∧ y.f2 < n := by
  intro y hy
  obtain ⟨k, hk, rfl⟩ := List.getElem_of_mem hy
  have := h k (by omega)
  rw [List.getD_eq_getElem?_getD, List.getElem?_eq_getElem hk] at this
  exact this
theorem wo_bd {bs : List BrE} {i m n : Nat} (hm : bs.length = m) (hi : i < m) (h : brBd bs m n) : brBd (wo bs i) (m - 1) n := by
  intro k hk
  have hk' : k < (wo bs i).length := by rw [wo_len hm hi]; exact hk
  rw [List.getD_eq_getElem?_getD, List.getElem?_eq_getElem hk']
  exact bd_mem hm h _ (wo_mem (List.getElem_mem hk'))
theorem SlBr.take {w : World} {b off m i : Nat} {bs : List BrE} (h : SlBr w (some ⟨b, off, none⟩) m bs) (hi : i ≤ m) : SlBr w (some ⟨b, off, none⟩) i (bs.take i) := by
  refine ⟨by rw [List.length_take, h.1]; omega, fun h0 => ?_⟩
  obtain ⟨b', off', e, hl, hc⟩ := h.2 (by omega)
  refine ⟨b', off', e, hl, fun k hk => ?_⟩
  have := hc k (by omega)
  rw [show (bs.take i).getD k BrE.zero = bs.getD k BrE.zero by rw [List.getD_eq_getElem?_getD, List.getD_eq_getElem?_getD, List.getElem?_take, if_pos hk]]
  exact this
theorem SlBr.drop {w : World} {b off m i ot : Nat} {bs : List BrE} (h : SlBr w (some ⟨b, off, none⟩) m bs) (hi : i < m) (ho : m ≠ i + 1 → ot = off + (i + 1) * 4) : SlBr w (some ⟨b, ot, none⟩) (m - (i + 1)) (bs.drop (i + 1)) := by
  refine ⟨by rw [List.length_drop, h.1], fun h0 => ?_⟩
  obtain ⟨b', off', e, hl, hc⟩ := h.2 (by omega)
  injection e with e
  injection e with e1 e2
  subst e1; subst e2
  have hot := ho (by omega)
  subst hot
  refine ⟨b, off + (i + 1) * 4, rfl, hl, fun k hk => ?_⟩
  have := hc (i + 1 + k) (by omega)
  rw [show (bs.drop (i + 1)).getD k BrE.zero = bs.getD (i + 1 + k) BrE.zero by rw [List.getD_eq_getElem?_getD, List.getD_eq_getElem?_getD, List.getElem?_drop], show off + (i + 1) * 4 + k * 4 = off + (i + 1 + k) * 4 by omega]
  exact this
def hdB (bs : List BrE) (i : Nat) : List BrE := bs.take i
theorem hdB_len {bs : List BrE} {i m : Nat} (h : bs.length = m) (hi : i < m) : (hdB bs i).length = i := by
  unfold hdB
  rw [List.length_take]
  omega
theorem SlBr.hd {w : World} {b off m i : Nat} {bs : List BrE} (h : SlBr w (some ⟨b, off, none⟩) m bs) (hi : i ≤ m) : SlBr w (some ⟨b, off, none⟩) i (hdB bs i) := h.take hi
theorem slice_head {b off m i : Nat} (hi : i < m) (W : World) : (Instr.sliceAt 31 (.slice (some ⟨b, off, none⟩) m m) none (some (.int .i64 (i : Int))) none).run Try.prog W = .ok (.slice (some ⟨b, off, none⟩) i m) W := by
  have u := Try.underlying31
  have e : Try.prog.elem 31 = 78 := by kernel_rfl
  have hm0 : m ≠ 0 := by omega
  have hr := run_slice_h (P := Try.prog) (w := W) (t := 31) (a := some ⟨b, off, none⟩) (len := m) (cap := m) (by rw [u, e]) (kh := .i64) (h := (i : Int)) (by omega) (by omega)
  rw [run_sliceAt_slice _ _ _ _ _ _ (by rw [u, e]), hr]
  have hs : (sizeOf (Try.prog.elem 31)).run Try.prog W = .ok 4 W := by rw [e]; exact Try.sizeOf78 W
  rw [hs]
  simp [Result.andThen, sliced, hm0, Go.WideShapes.add_plain]
theorem slice_tail {b off m i : Nat} (hi : i < m) : ∃ ot, (m ≠ i + 1 → ot = off + (i + 1) * 4) ∧ ∀ W : World, (Instr.sliceAt 31 (.slice (some ⟨b, off, none⟩) m m) (some (.int .i64 ((i : Int) + 1))) none none).run Try.prog W = .ok (.slice (some ⟨b, ot, none⟩) (m - (i + 1)) (m - (i + 1))) W := by
  have u := Try.underlying31
  have e : Try.prog.elem 31 = 78 := by kernel_rfl
  have ht : ((i : Int) + 1).toNat = i + 1 := by omega
  refine ⟨if m = i + 1 then off else off + (i + 1) * 4, fun h => if_neg h, fun W => ?_⟩
  have hr := run_slice_l (P := Try.prog) (w := W) (t := 31) (a := some ⟨b, off, none⟩) (len := m) (cap := m) (by rw [u, e]) (kl := .i64) (l := (i : Int) + 1) (by omega) (by omega)
  rw [run_sliceAt_slice _ _ _ _ _ _ (by rw [u, e]), hr]
  have hs : (sizeOf (Try.prog.elem 31)).run Try.prog W = .ok 4 W := by rw [e]; exact Try.sizeOf78 W
  rw [hs, ht]
  by_cases h : m = i + 1
  · simp [Result.andThen, sliced, h]
  · simp [Result.andThen, sliced, h, Go.WideShapes.add_plain]
theorem stepSlice {ops : Array Oper} {o : Oper} {a : Act} {w : World} {K : Act → World → Prop} {Q : Exit → Act → World → Prop} {E : Prop} (hgd : o.guard = none) {t : TypeId} (x : Operand) (lo hi : Option Operand)
    (ho : o.op = .slice t x lo hi none) (v : Value) (hr : (Instr.sliceAt t (a.eval x) (lo.map a.eval) (hi.map a.eval) none).run Try.prog w = .ok v w) (h : K (a.put o.dst v) w) :
    if Region.wanted o (yielded ops a.tmps) = true then Oper.wp Try.prog o a w K Q else E := by
  have hw : Region.wanted o (yielded ops a.tmps) = true := by simp [Region.wanted, hgd]
  rw [if_pos hw]
  unfold Oper.wp execOp
  simp only [ho, Option.map_none, Sem.run_bind, Sem.run_pure, Result.andThen_ok, hr]
  exact h

/-- What holds inside the program's statement that makes a slide without a bar. -/
def JUi (wb : World) (xb b off ot m i n c : Nat) (A : Option Addr) (zs : List BrE) (a0 : Act) (d : Nat → Bool) (a' : Act) (w' : World) : Prop :=
  ∃ t29 t30 t31 t32 t33 t34 t35 t36 t37 t38 t39 t40 t41 t42 t10 : Value, a' = (((((((((((((((a0.put (some 29) t29).put (some 30) t30).put (some 31) t31).put (some 32) t32).put (some 33) t33).put (some 34) t34).put (some 35) t35).put (some 36) t36).put (some 37) t37).put (some 38) t38).put (some 39) t39).put (some 40) t40).put (some 41) t41).put (some 42) t42).put (some 10) t10) ∧
    ((d 15 = false ∧ Below wb.heap.size wb w' ∧ (d 0 = true → t29 = .pointer (some ⟨xb, 0, none⟩)) ∧ (d 1 = true → t30 = .slice A n c) ∧ (d 2 = true → t31 = .pointer (some ⟨xb, 1, none⟩)) ∧ (d 3 = true → t32 = (.slice (some ⟨b, off, none⟩) m m)) ∧ (d 4 = true → t33 = .int .i64 (i : Int)) ∧ (d 5 = true → t34 = (.slice (some ⟨b, off, none⟩) i m)) ∧ (d 6 = true → t35 = .pointer (some ⟨xb, 1, none⟩)) ∧ (d 7 = true → t36 = (.slice (some ⟨b, off, none⟩) m m)) ∧ (d 8 = true → t37 = .int .i64 (i : Int)) ∧ (d 9 = true → t38 = .int .i64 ((i : Int) + 1)) ∧ (d 10 = true → t39 = (.slice (some ⟨b, ot, none⟩) (m - (i + 1)) (m - (i + 1)))) ∧ (d 11 = true → ∃ g, t40 = .slice (some ⟨g, 0, none⟩) 2 2 ∧ w'.cell? ⟨g, 0, none⟩ = some (.slice (some ⟨b, off, none⟩) i m) ∧ w'.cell? ⟨g, 1, none⟩ = some (.slice (some ⟨b, ot, none⟩) (m - (i + 1)) (m - (i + 1)))) ∧ (d 12 = true → OwnB w' wb.heap.size t41 zs) ∧ (d 13 = true → t42 = .agg #[.slice A n c, t41]) ∧ (d 14 = true → ∃ p, t10 = .pointer (some ⟨p, 0, none⟩) ∧ wb.heap.size ≤ p ∧ p < w'.heap.size ∧ w'.cell? ⟨p, 0, none⟩ = some (.slice none 0 0) ∧ w'.cell? ⟨p, 1, none⟩ = some (.slice none 0 0) ∧ w'.frozen? ⟨p, 0, none⟩ = false ∧ w'.frozen? ⟨p, 1, none⟩ = false ∧ (d 12 = true → t41.ownBlock ≠ some p))) ∨
     (d 15 = true ∧ (∀ j, j < 15 → d j = true) ∧ ∃ p, t10 = .pointer (some ⟨p, 0, none⟩) ∧ Below wb.heap.size wb w' ∧ wb.heap.size ≤ p ∧ p < w'.heap.size ∧ w'.cell? ⟨p, 0, none⟩ = some (.slice A n c) ∧ w'.cell? ⟨p, 1, none⟩ = some t41 ∧ w'.frozen? ⟨p, 1, none⟩ = false ∧ OwnB w' wb.heap.size t41 zs ∧ t41.ownBlock ≠ some p))
end Go.Proofs.Yticohpimkicphaa
