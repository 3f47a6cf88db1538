/-
  FnExactBookFor: for every input the law returns true, and every argument reads behind the call as it read before. No condition.
-/
import Derived.Test.YtnjndlngkoadfaaRows
import Derived.Test.YtnjndlngkoadfaaPm
import Derived.Test.YtnjndlngkoadfaaSsO
import Derived.WalkKit
import Derived.ProofKit
import Derived.OpenShut
import Derived.ShutString
import Derived.ChangeOld
import Derived.Below
import Derived.Lib.SmallJoins
namespace Go.Proofs.Ytnjndlngkoadfaa.fnExactBookForP
open Go.ChangeShapes Go.WideShapes Go.ChangeAt Go.RowKit Go.Joins
open Go.ChangeMaps (open_string shut_string)
set_option linter.unusedVariables false

theorem own_ : ownKnob Try.prog.godebug = none := by kernel_rfl
theorem laidOut_ : laidOutB Try.prog = true := by kernel_rfl

set_option maxRecDepth 100000 in
theorem lifted (os : Os) (started : os.Started) (H : Type) (enc : TypeId × Value → H) :
    ReturnsInHanded {} Try.checked os 11 .any (Rows.fnExactBookForSpec.pre6 enc Try.prog Try.f11 Rows.fnExactBookForRow.domain false) (Rows.fnExactBookForSpec.post enc Try.prog Try.f11 false true false false) := by
  refine returnsInHanded_of_change (C := Try.checked) own_ started (by kernel_rfl) Try.func11
    (ChangeSpec.witness6 (enc := enc) (C := Try.checked) false ⟨#[], #[.slice none 0 0, .int .i64 0], []⟩ 8 (by kernel_rfl) (by kernel_rfl) (by kernel_rfl) (by kernel_rfl)) ?_
  intro W base args ds gs before hval0 hW hcnd _
  have hval : ∀ (j : Nat) t v, Try.f11.params[j]? = some t → args[j]? = some v → Value.okWide Try.prog W .any base t v := hval0
  have hW' := hW
  obtain ⟨p, q, hA0, hV, rfl, hfz, hnd⟩ := hW
  have hA : DataW.TrodAll enc Try.prog W 0 (fun _ => true) true Try.f11.params.toList args.toList ds p := hA0
  rw [Try.params11] at hA hval
  obtain ⟨v0, vs0, d0, ds0, p0, q0, hargs, rfl, rfl, h0, r0⟩ := trodAll_cons hA
  obtain ⟨v1, vs1, d1, ds1, p1, q1, rfl, rfl, rfl, h1, r1⟩ := trodAll_cons r0
  obtain ⟨rfl, rfl, rfl⟩ := trodAll_nil r1
  obtain rfl : args = #[v0, v1] := by cases args; simp_all
  obtain ⟨rfl, rfl⟩ := trodVars_none hV
  have k0 := h0
  have lt0 : ∀ x ∈ p0, x.block < W.heap.size := by obtain ⟨m, hm⟩ := k0; exact DataW.trod_lt m _ _ _ hm
  obtain ⟨a_aList, l_aList, c_aList, rfl⟩ := okWide_slice Try.underlying25 (hval 0 25 v0 rfl rfl)
  obtain ⟨m_aList, z_aList, w_aList, q_aList⟩ : l_aList ≤ 9223372036854775807 ∧ ∃ zs, SlSc W a_aList l_aList zs ∧ ∀ i, i < l_aList → (zs.getD i ScE.zero).f0.size ≤ 9223372036854775807 := by
    obtain ⟨fuel, hf⟩ := h0
    rcases Scopen_slice_fields Try.underlying25 Try.underlying50 (by kernel_rfl) (by kernel_rfl) hf with hcs | ⟨x, l, c, m, hcs, hl, hm, hmm, hi⟩
    · simp [Value.cells] at hcs
      obtain ⟨rfl, rfl, rfl⟩ := hcs
      exact ⟨by omega, [], SlSc.nil _, fun i hi => absurd hi (by omega)⟩
    · simp [Value.cells] at hcs
      obtain ⟨rfl, rfl, rfl⟩ := hcs
      refine ⟨by unfold maxLen at hm; omega, SlSc.openedQ (Q := fun y => y.f0.size ≤ 9223372036854775807) fun i hil => ?_⟩
      obtain ⟨q, hh⟩ := hi i (by split at hmm <;> omega)
      obtain ⟨v0, y0, c0, t0⟩ := hh 0 _ rfl
      obtain ⟨x0, e0, _, s0⟩ := DataW.trod_string Try.underlying9 t0
      simp at e0
      subst e0
      obtain ⟨v1, y1, c1, t1⟩ := hh 1 _ rfl
      obtain ⟨x1, e1, _⟩ := DataW.trod_int Try.underlying2 t1
      simp at e1
      subst e1
      exact ⟨⟨x0, x1⟩, ⟨c0, c1⟩, (by unfold maxLen at s0; exact s0)⟩
  obtain ⟨aEach, rfl, rfl, rfl, w_aEach⟩ := open_int Try.underlying2 (hval 1 2 v1 rfl rfl) h1
  clear hA0 hval0
  refine (law_BookFor a_aList l_aList c_aList z_aList aEach W m_aList w_aList q_aList).mono fun e W' ⟨he, bel⟩ => ?_
  subst he
  exact ⟨_, rfl, _, _, _, [], _, [], hW', trodAll_mk1 (shut_bool Try.underlying4 _), (trodAll_cons_mk (Below.trod laidOut_ (by kernel_rfl) (of_decide_eq_true (by kernel_rfl)) k0 bel lt0) (trodAll_cons_mk (shut_int Try.underlying2 w_aEach) trodAll_mk0)), rfl, bel.frame _, fun h => by cases h⟩

theorem over : Rows.fnExactBookForRow.holds Try.pinned (OpenSpec.ofChange Rows.fnExactBookForSpec) :=
  OpenClaim.holds_of_wide 11 Try.f11 rfl rfl rfl rfl rfl rfl rfl ⟨rfl, rfl, rfl, rfl, rfl⟩ rfl rfl rfl rfl rfl (by kernel_rfl) Try.func11 (by kernel_rfl)
    (of_decide_eq_true (by kernel_rfl)) (by unfold Func.isWrapper; first | (rw [if_pos (by decide +kernel)]; kernel_rfl) | (rw [if_neg (by decide +kernel)]; exact ⟨rfl, rfl⟩))
    (fun os started H enc _ => lifted os started H enc)

theorem proved : Rows.FnExactBookForSaid := over
end Go.Proofs.Ytnjndlngkoadfaa.fnExactBookForP
