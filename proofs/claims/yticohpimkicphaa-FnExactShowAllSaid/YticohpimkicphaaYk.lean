/-
  Slides: keys of places.
-/
import Derived.Test.YticohpimkicphaaYj
import Derived.Maps.OwnSet
import Derived.DeepKeys4
import Derived.Laws.CopyOwn
import Derived.Deep.LoopGhost
namespace Go.Proofs.Yticohpimkicphaa
open Go.RowKit
open Go.Maps (Keyed)

theorem keyLaw : Keyed Try.prog 71 := Keyed.of_law (deep_law_laid (m := 2) (by kernel_rfl) (by omega) (of_decide_eq_true (by kernel_rfl)) (by kernel_rfl) (by rw [Try.underlying71]))
/-- The key of places. -/
def padK (ps : List Int) : Value := .agg #[.int .i64 (ps.getD 0 0), .int .i64 (ps.getD 1 0), .int .i64 (ps.getD 2 0), .int .i64 (ps.getD 3 0)]
def keyL (ps : List Int) : Lit := .string (keyBytes [.int .i64 (ps.getD 0 0), .int .i64 (ps.getD 1 0), .int .i64 (ps.getD 2 0), .int .i64 (ps.getD 3 0)])
/-- Small numbers. -/
def KW (n : Nat) (ps : List Int) : Prop := ps.length = n ∧ ∀ p ∈ ps, -9 ≤ p ∧ p ≤ 9
theorem KW.at {n : Nat} {ps : List Int} (h : KW n ps) (i : Nat) : -9 ≤ ps.getD i 0 ∧ ps.getD i 0 ≤ 9 := by
  rcases Nat.lt_or_ge i ps.length with hi | hi
  · rw [List.getD_eq_getElem?_getD, List.getElem?_eq_getElem hi]; exact h.2 _ (List.getElem_mem hi)
  · rw [List.getD_eq_getElem?_getD, List.getElem?_eq_none hi]; decide
theorem wf64 {x : Int} (h : -9 ≤ x ∧ x ≤ 9) : (Lit.int .i64 x).wf = true := WalkArith.wf_i64 (by omega)
theorem key_of {n : Nat} {ps : List Int} (h : KW n ps) : keyOf Try.prog 71 (padK ps) = some (keyL ps) := by
  have hk : Program.keyType Try.prog 71 = true := by kernel_rfl
  have hc : Program.cellsOf Try.prog 71 = 4 := by kernel_rfl
  have hc2 : Program.cellsOf Try.prog 2 = 1 := by kernel_rfl
  have hts : 0 < Try.prog.types.size := of_decide_eq_true (by kernel_rfl)
  obtain ⟨m, hm⟩ : ∃ m, Try.prog.types.size + 1 = m + 2 := ⟨Try.prog.types.size - 1, by omega⟩
  have w0 := wf64 (h.at 0)
  have w1 := wf64 (h.at 1)
  have w2 := wf64 (h.at 2)
  have w3 := wf64 (h.at 3)
  unfold keyOf
  rw [Try.underlying71]
  unfold padK keyL
  have hf : Value.formed Try.prog 71 (.agg #[.int .i64 (ps.getD 0 0), .int .i64 (ps.getD 1 0), .int .i64 (ps.getD 2 0), .int .i64 (ps.getD 3 0)]) = true := by
    unfold Value.formed
    rw [Try.underlying71, hc]
    rfl
  have he : ∀ x : Int, (Lit.int .i64 x).wf = true → Program.keyLits Try.prog (m + 1) 2 [.int .i64 x] = some [.int .i64 x] := fun x hx => by
    unfold Program.keyLits
    rw [Try.underlying2]
    simp [hx]
  have hl : ∀ x0 x1 x2 x3 : Int, (Lit.int .i64 x0).wf = true → (Lit.int .i64 x1).wf = true → (Lit.int .i64 x2).wf = true → (Lit.int .i64 x3).wf = true → Program.keyLits Try.prog (m + 2) 71 [.int .i64 x0, .int .i64 x1, .int .i64 x2, .int .i64 x3] = some [.int .i64 x0, .int .i64 x1, .int .i64 x2, .int .i64 x3] := fun x0 x1 x2 x3 w0 w1 w2 w3 => by
    unfold Program.keyLits
    rw [Try.underlying71]
    simp only [hc, hc2]
    simp only [List.length_cons, List.length_nil]
    have hr : List.range 4 = [0, 1, 2, 3] := rfl
    simp only [hr, if_true]
    simp [he _ w0, he _ w1, he _ w2, he _ w3]
  simp only [hk, hf, Bool.and_self, if_true, Value.cells]
  rw [hm, hl _ _ _ _ w0 w1 w2 w3]
  rfl
theorem list4 {ps : List Int} {n : Nat} (hl : ps.length = n) (hn : n ≤ 4) : ps = [ps.getD 0 0, ps.getD 1 0, ps.getD 2 0, ps.getD 3 0].take n := by
  subst hl
  match ps, hn with
  | [], _ => rfl
  | [_], _ => rfl
  | [_, _], _ => rfl
  | [_, _, _], _ => rfl
  | [_, _, _, _], _ => rfl
  | _ :: _ :: _ :: _ :: _ :: _, h => simp at h
theorem key_inj {n : Nat} {ps qs : List Int} (hn : n ≤ 4) (hp : KW n ps) (hq : KW n qs) (h : keyL ps = keyL qs) : ps = qs := by
  have h1 := keyLaw.inj (key_of hp) (by rw [h]; exact key_of hq)
  unfold padK at h1
  simp only [Value.agg.injEq, Array.mk.injEq, List.cons.injEq, Value.int.injEq, true_and, and_true] at h1
  obtain ⟨a, b, c, d⟩ := h1
  rw [list4 hp.1 hn, list4 hq.1 hn, a, b, c, d]

theorem row4 {ps : List Int} {n : Nat} (hl : ps.length = n) (hn : n ≤ 4) : (splice [Value.int .i64 0, .int .i64 0, .int .i64 0, .int .i64 0] 0 (ps.map (Value.int .i64))).toArray = #[.int .i64 (ps.getD 0 0), .int .i64 (ps.getD 1 0), .int .i64 (ps.getD 2 0), .int .i64 (ps.getD 3 0)] := by
  subst hl
  match ps, hn with
  | [], _ => rfl
  | [_], _ => rfl
  | [_, _], _ => rfl
  | [_, _, _], _ => rfl
  | [_, _, _, _], _ => rfl
  | _ :: _ :: _ :: _ :: _ :: _, h => simp at h

set_option maxRecDepth 100000 in
set_option maxHeartbeats 1600000 in
theorem key_any (A : Option Addr) (n c : Nat) (ps : List Int) (w : World) (H : SlI w A n ps) (hn : 1 ≤ n ∧ n ≤ 4) :
    Calls Try.prog 51 #[.slice A n c] w fun e w' => e = .returned (padK ps) ∧ Below w.heap.size w w' := by
  obtain ⟨n1, n4⟩ := hn
  obtain ⟨b, off, rfl, hb, hc⟩ := H.get (k := 0) n1
  have hl := H.length
  obtain ⟨Z, hZ⟩ : ∃ Z : Obj, Z = .cells #[.int .i64 0, .int .i64 0, .int .i64 0, .int .i64 0] 71 := ⟨_, rfl⟩
  have hW : Below w.heap.size w ((w.alloc Z).alloc Z) := by (repeat (first | exact Below.refl _ _ | refine bw_drew ?_ | refine bw_drewN ?_ _ | refine bw_set ?_ (by simp; try omega) _ | refine bw_alloc ?_ _ | refine bw_trans ?_ (by assumption) | assumption))
  have HW := Lib.hid (H.below hW)
  have hg : ((w.alloc Z).alloc Z).heap[w.heap.size + 1]? = some Z := by
    have h := (MapKept.heap_alloc (w.alloc Z) Z).1
    simpa using h
  have HR := Lib.hid (row4 hl n4)
  have HC := Lib.hid (fun (j : Nat) v (hj : (ps.map (Value.int .i64))[j]? = some v) => show ((w.alloc Z).alloc Z).cell? ((⟨b, off, none⟩ : Addr).add j) = some v by
    obtain ⟨b', off', e, _, h⟩ := HW.out.2 n1
    injection e with e
    injection e with e1 e2
    subst e1; subst e2
    rw [Go.WideShapes.add_plain]
    exact h j v hj)
  have HS := Lib.hid (show ∀ v ∈ ps.map (Value.int .i64), v.oneCell' = true from fun v hv => by
    obtain ⟨x, _, rfl⟩ := List.mem_map.1 hv
    rfl)
  subst hZ
  have HG := Lib.hid hg
  have HB := Lib.hid hW
  clear H hg hW HW hc
  have hmin : (ps.map (Value.int .i64)).length = Nat.min n 4 := by rw [List.length_map, hl]; exact (Nat.min_eq_left n4).symm
  have HM := Lib.hid hmin
  clear hmin
  unfold padK
  generalize ps.getD 0 0 = x0 at *
  generalize ps.getD 1 0 = x1 at *
  generalize ps.getD 2 0 = x2 at *
  generalize ps.getD 3 0 = x3 at *
  go_enter Try.func51, Try.ntmps51
  go_wp2_with (refine wpList_copy_splice rfl _ _ 22 22 rfl 2 Try.underlying22 (by kernel_rfl) _ _ 4 4 n c rfl rfl (w.heap.size + 1) 0 [Value.int .i64 0, .int .i64 0, .int .i64 0, .int .i64 0] 71 HG.out (ps.map (Value.int .i64)) HM.out (fun _ => ⟨rfl, _, rfl, HC.out⟩) (by rw [HM.out, Nat.zero_add]; exact Nat.min_le_right _ _) HS.out (w.heap.size + 1) _ (Below.refl _ _) (Nat.le_refl _) ?_; intro w2 hg2 hb2; refine Hid.out ?_)
  refine Lib.hid ?_
  have hg3 := hg2.out
  rw [HR.out] at hg3
  have hc0 := cell_of_row w2 (w.heap.size + 1) 0 _ 71 (0, 0) hg3
  have hc1 := cell_of_row w2 (w.heap.size + 1) 1 _ 71 (0, 0) hg3
  have hc2 := cell_of_row w2 (w.heap.size + 1) 2 _ 71 (0, 0) hg3
  have hc3 := cell_of_row w2 (w.heap.size + 1) 3 _ 71 (0, 0) hg3
  have hd0 : w2.cell? ⟨w.heap.size, 0, none⟩ = some (.int .i64 0) := (hb2.cell (p := ⟨w.heap.size, 0, none⟩) (by simp)).trans (by go_simp)
  have hd1 : w2.cell? ⟨w.heap.size, 1, none⟩ = some (.int .i64 0) := (hb2.cell (p := ⟨w.heap.size, 1, none⟩) (by simp)).trans (by go_simp)
  have hd2 : w2.cell? ⟨w.heap.size, 2, none⟩ = some (.int .i64 0) := (hb2.cell (p := ⟨w.heap.size, 2, none⟩) (by simp)).trans (by go_simp)
  have hd3 : w2.cell? ⟨w.heap.size, 3, none⟩ = some (.int .i64 0) := (hb2.cell (p := ⟨w.heap.size, 3, none⟩) (by simp)).trans (by go_simp)
  have hf : ∀ j, w2.frozen? ⟨w.heap.size, j, none⟩ = false := fun j => (hb2.frozen (p := ⟨w.heap.size, j, none⟩) (by simp)).trans (by go_simp)
  have hf0 := hf 0
  have hf1 := hf 1
  have hf2 := hf 2
  have hf3 := hf 3
  have hbb := Lib.hid (bw_from HB.out (hb2.mono (by omega)))
  clear hg2 hg3 hb2 HR HC HS HG HB HM hf
  go_wp2
  refine bodyPost_ret (v := .agg #[.int .i64 x0, .int .i64 x1, .int .i64 x2, .int .i64 x3]) (by simp [results, Try.results51, go_sem, *]) rfl ⟨rfl, ?_⟩
  repeat (first | exact hbb.out | refine bw_set ?_ (by simp; try omega) _)
end Go.Proofs.Yticohpimkicphaa
