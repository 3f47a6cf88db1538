/-
  FnExactShowAll: for every input the law returns true, and every argument reads behind the call as it read before. No condition.
-/
import Derived.Test.YticohpimkicphaaRows
import Derived.Test.YticohpimkicphaaZb
import Derived.Test.YticohpimkicphaaSbO
import Derived.WalkKit
import Derived.ProofKit
import Derived.OpenShut
import Derived.ShutString
import Derived.ChangeOld
import Derived.Below
import Derived.Lib.SmallJoins
namespace Go.Proofs.Yticohpimkicphaa.fnExactShowAllP
open Go.ChangeShapes Go.WideShapes Go.ChangeAt Go.RowKit Go.Joins
open Go.ChangeMaps (open_string shut_string)
set_option linter.unusedVariables false

theorem own_ : ownKnob Try.prog.godebug = none := by kernel_rfl
theorem laidOut_ : laidOutB Try.prog = true := by kernel_rfl

set_option maxRecDepth 100000 in
set_option maxHeartbeats 1600000 in
theorem lifted (os : Os) (started : os.Started) (H : Type) (enc : TypeId × Value → H) :
    ReturnsInHanded {} Try.checked os 3 .any (Rows.fnExactShowAllSpec.pre6 enc Try.prog Try.f3 Rows.fnExactShowAllRow.domain false) (Rows.fnExactShowAllSpec.post enc Try.prog Try.f3 false true false false) := by
  refine returnsInHanded_of_change (C := Try.checked) own_ started (by kernel_rfl) Try.func3
    (ChangeSpec.witness6 (enc := enc) (C := Try.checked) false ⟨#[], #[.agg #[.slice none 0 0, .slice none 0 0], .slice none 0 0, .slice none 0 0], []⟩ 8 (by kernel_rfl) (by kernel_rfl) (by kernel_rfl) (by kernel_rfl)) ?_
  intro W base args ds gs before hval0 hW hcnd _
  have hval : ∀ (j : Nat) t v, Try.f3.params[j]? = some t → args[j]? = some v → Value.okWide Try.prog W .any base t v := hval0
  have hW' := hW
  obtain ⟨p, q, hA0, hV, rfl, hfz, hnd⟩ := hW
  have hA : DataW.TrodAll enc Try.prog W 0 (fun _ => true) true Try.f3.params.toList args.toList ds p := hA0
  rw [Try.params3] at hA hval
  obtain ⟨v0, vs0, d0, ds0, p0, q0, hargs, rfl, rfl, h0, r0⟩ := trodAll_cons hA
  obtain ⟨v1, vs1, d1, ds1, p1, q1, rfl, rfl, rfl, h1, r1⟩ := trodAll_cons r0
  obtain ⟨v2, vs2, d2, ds2, p2, q2, rfl, rfl, rfl, h2, r2⟩ := trodAll_cons r1
  obtain ⟨rfl, rfl, rfl⟩ := trodAll_nil r2
  obtain rfl : args = #[v0, v1, v2] := by cases args; simp_all
  obtain ⟨rfl, rfl⟩ := trodVars_none hV
  have k0 := h0
  have lt0 : ∀ x ∈ p0, x.block < W.heap.size := by obtain ⟨m, hm⟩ := k0; exact DataW.trod_lt m _ _ _ hm
  obtain ⟨cA0, cB0, yA0, yB0, mm0, rfl, _, _, hyA0, hyB0⟩ := open_agg2 Try.underlying25 (by kernel_rfl) (show Try.prog.cellsOf 25 = 2 by kernel_rfl) (hval 0 25 v0 rfl rfl) h0
  obtain ⟨a_aX, l_aX, c_aX, z_aX, rfl, w_aX⟩ : ∃ a l c zs, cA0 = .slice a l c ∧ IsRow .i64 W a l c zs := by
    rcases open_ints Try.underlying22 Try.underlying2 (by kernel_rfl) hyA0 with ⟨hcs, _⟩ | ⟨x, l, c, zs, hcs, _, hl, hm, hz, _, hcell, hwz⟩
    · simp at hcs
      exact ⟨none, 0, 0, [], hcs, .inl ⟨rfl, rfl, rfl, rfl⟩⟩
    · simp at hcs
      exact ⟨some x, l, c, zs, hcs, .inr ⟨_, rfl, hl, hm, by simpa using hz, hcell, hwz⟩⟩
  obtain ⟨b_aX, m_aX, d_aX, y_aX, rfl, q_aX, r_aX⟩ : ∃ a l c zs, cB0 = .slice a l c ∧ l ≤ 9223372036854775807 ∧ SlBr W a l zs := by
    rcases Bropen_slice_fields Try.underlying23 Try.underlying91 (by kernel_rfl) (by kernel_rfl) hyB0 with hcs | ⟨x, l, c, m, hcs, hl, hm, hmm, hi⟩
    · simp at hcs
      exact ⟨none, 0, 0, [], hcs, by omega, SlBr.nil _⟩
    · simp at hcs
      obtain ⟨zs, hzs⟩ : ∃ zs, SlBr W (some x) l zs := SlBr.opened fun i hil => by
        obtain ⟨q, hh⟩ := hi i (by split at hmm <;> omega)
        obtain ⟨v0, y0, c0, t0⟩ := hh 0 _ rfl
        obtain ⟨x0, e0, _⟩ := DataW.trod_int Try.underlying2 t0
        simp at e0
        subst e0
        obtain ⟨v1, y1, c1, t1⟩ := hh 1 _ rfl
        obtain ⟨x1, e1, _⟩ := DataW.trod_int Try.underlying2 t1
        simp at e1
        subst e1
        obtain ⟨v2, y2, c2, t2⟩ := hh 2 _ rfl
        obtain ⟨x2, e2, _⟩ := DataW.trod_int Try.underlying2 t2
        simp at e2
        subst e2
        obtain ⟨v3, y3, c3, t3⟩ := hh 3 _ rfl
        obtain ⟨x3, e3, _⟩ := DataW.trod_int Try.underlying2 t3
        simp at e3
        subst e3
        exact ⟨⟨x0, x1, x2, x3⟩, c0, c1, c2, c3⟩
      exact ⟨some x, l, c, zs, hcs, by unfold maxLen at hm; omega, hzs⟩
  have k1 := h1
  have lt1 : ∀ x ∈ p1, x.block < W.heap.size := by obtain ⟨m, hm⟩ := k1; exact DataW.trod_lt m _ _ _ hm
  obtain ⟨a_aFrom, l_aFrom, c_aFrom, rfl⟩ := okWide_slice Try.underlying22 (hval 1 22 v1 rfl rfl)
  obtain ⟨z_aFrom, w_aFrom⟩ : ∃ zs, IsRow .i64 W a_aFrom l_aFrom c_aFrom zs := by
    obtain ⟨fuel, hf⟩ := h1
    rcases open_ints Try.underlying22 Try.underlying2 (by kernel_rfl) hf with ⟨hcs, _⟩ | ⟨x, l, c, zs, hcs, _, hl, hm, hz, _, hcell, hwz⟩
    · simp [Value.cells] at hcs
      obtain ⟨rfl, rfl, rfl⟩ := hcs
      exact ⟨[], .inl ⟨rfl, rfl, rfl, rfl⟩⟩
    · simp [Value.cells] at hcs
      obtain ⟨rfl, rfl, rfl⟩ := hcs
      exact ⟨zs, .inr ⟨_, rfl, hl, hm, by simpa using hz, hcell, hwz⟩⟩
  have k2 := h2
  have lt2 : ∀ x ∈ p2, x.block < W.heap.size := by obtain ⟨m, hm⟩ := k2; exact DataW.trod_lt m _ _ _ hm
  obtain ⟨fu_aWanted, hf_aWanted⟩ := h2
  obtain ⟨q_aWanted, r_aWanted, s_aWanted, z_aWanted, e_aWanted, m_aWanted, w_aWanted⟩ := open_ss hf_aWanted
  obtain ⟨a_aWanted, l_aWanted, c_aWanted, g_aWanted⟩ := okWide_slice Try.underlying26 (hval 2 26 v2 rfl rfl)
  subst g_aWanted
  simp [Value.cells] at e_aWanted
  obtain ⟨rfl, rfl, rfl⟩ := e_aWanted
  clear hA0 hval0
  refine (law_ShowAll a_aX l_aX c_aX (z_aX.take l_aX) b_aX m_aX d_aX y_aX a_aFrom l_aFrom c_aFrom (z_aFrom.take l_aFrom) a_aWanted l_aWanted c_aWanted z_aWanted W w_aX.len q_aX w_aX.sl r_aX w_aFrom.len w_aFrom.sl m_aWanted w_aWanted).mono fun e W' ⟨he, bel⟩ => ?_
  subst he
  exact ⟨_, rfl, _, _, _, [], _, [], hW', trodAll_mk1 (shut_bool Try.underlying4 _), (trodAll_cons_mk (Below.trod laidOut_ (by kernel_rfl) (of_decide_eq_true (by kernel_rfl)) k0 bel lt0) (trodAll_cons_mk (Below.trod laidOut_ (by kernel_rfl) (of_decide_eq_true (by kernel_rfl)) k1 bel lt1) (trodAll_cons_mk (Below.trod laidOut_ (by kernel_rfl) (of_decide_eq_true (by kernel_rfl)) k2 bel lt2) trodAll_mk0))), rfl, bel.frame _, fun h => by cases h⟩

theorem over : Rows.fnExactShowAllRow.holds Try.pinned (OpenSpec.ofChange Rows.fnExactShowAllSpec) :=
  OpenClaim.holds_of_wide 3 Try.f3 rfl rfl rfl rfl rfl rfl rfl ⟨rfl, rfl, rfl, rfl, rfl⟩ rfl rfl rfl rfl rfl (by kernel_rfl) Try.func3 (by kernel_rfl)
    (of_decide_eq_true (by kernel_rfl)) (by unfold Func.isWrapper; first | (rw [if_pos (by decide +kernel)]; kernel_rfl) | (rw [if_neg (by decide +kernel)]; exact ⟨rfl, rfl⟩))
    (fun os started H enc _ => lifted os started H enc)

theorem proved : Rows.FnExactShowAllSaid := over
end Go.Proofs.Yticohpimkicphaa.fnExactShowAllP
