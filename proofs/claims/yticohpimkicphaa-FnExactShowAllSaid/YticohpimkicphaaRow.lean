/-
  Slices as lists: a slice of integers that is read; one that is copied; two that are compared. The program's own copying and comparing.
-/
import Derived.Test.YticohpimkicphaaBase
import Derived.Test.YticohpimkicphaaCalm
import Derived.LoopTactic
import Derived.Laws.MakeOwn
import Derived.OpenShut
namespace Go.Proofs.Yticohpimkicphaa
open Go.RowKit

/-- n elements of s cells each, one behind the other, are the cells cs. -/
def SlV (w : World) (s : Nat) (A : Option Addr) (n : Nat) (cs : List Value) : Prop :=
  cs.length = n * s ∧ (0 < n → ∃ b off, A = some ⟨b, off, none⟩ ∧ b < w.heap.size ∧ ∀ j v, cs[j]? = some v → w.cell? ⟨b, off + j, none⟩ = some v)
/-- A slice of integers. -/
def SlI (w : World) (A : Option Addr) (n : Nat) (xs : List Int) : Prop := SlV w 1 A n (xs.map (Value.int .i64))

theorem SlV.below {w w' : World} {s n : Nat} {A : Option Addr} {cs : List Value} (h : SlV w s A n cs) (hb : Below w.heap.size w w') : SlV w' s A n cs :=
  ⟨h.1, fun hn => by
    obtain ⟨b, off, e, hl, hc⟩ := h.2 hn
    exact ⟨b, off, e, Nat.lt_of_lt_of_le hl hb.size, fun j v hj => (hb.cell (p := ⟨b, off + j, none⟩) hl).trans (hc j v hj)⟩⟩
theorem SlI.below {w w' : World} {n : Nat} {A : Option Addr} {xs : List Int} (h : SlI w A n xs) (hb : Below w.heap.size w w') : SlI w' A n xs := SlV.below h hb
theorem SlI.length {w : World} {n : Nat} {A : Option Addr} {xs : List Int} (h : SlI w A n xs) : xs.length = n := by simpa using h.1
theorem SlI.get {w : World} {n k : Nat} {A : Option Addr} {xs : List Int} (h : SlI w A n xs) (hk : k < n) :
    ∃ b off, A = some ⟨b, off, none⟩ ∧ b < w.heap.size ∧ w.cell? ⟨b, off + k, none⟩ = some (.int .i64 (xs.getD k 0)) := by
  obtain ⟨b, off, e, hl, hc⟩ := h.2 (by omega)
  have hx : k < xs.length := by rw [h.length]; exact hk
  exact ⟨b, off, e, hl, hc k _ (by simp [hx, List.getD_eq_getElem?_getD])⟩
theorem SlI.nil (w : World) : SlI w none 0 [] := ⟨rfl, fun h => absurd h (by omega)⟩
theorem SlV.of_block {w : World} {b s n : Nat} {cs : List Value} {arr : Array Value} {t : TypeId} (h : w.heap[b]? = some (.cells arr t (0, 0))) (hl : cs.length = n * s) (hp : ∀ (j : Nat) (v : Value), cs[j]? = some v → arr[j]? = some v) :
    SlV w s (some ⟨b, 0, none⟩) n cs := by
  refine ⟨hl, fun _ => ⟨b, 0, rfl, ?_, fun j v hj => ?_⟩⟩
  · rcases Nat.lt_or_ge b w.heap.size with h' | h'
    · exact h'
    · rw [Array.getElem?_eq_none h'] at h; cases h
  · rw [Nat.zero_add, cell_of_row w b j arr t (0, 0) h]; exact hp j v hj

/-- The first k of xs, then zeros: n in all. -/
def fillI (xs : List Int) (n k : Nat) : Array Value := (Array.range n).map fun i => Value.int .i64 (if i < k then xs.getD i 0 else 0)
theorem fillI_at (xs : List Int) (n k j : Nat) : (fillI xs n k)[j]? = if j < n then some (.int .i64 (if j < k then xs.getD j 0 else 0)) else none := by
  unfold fillI
  by_cases h : j < n
  · simp [h]
  · simp [h]
theorem fillI_get {xs : List Int} {n k : Nat} (hk : k < n) : (fillI xs n k)[k]? = some (.int .i64 0) := by
  rw [fillI_at]; simp [hk]
theorem fillI_size (xs : List Int) (n k : Nat) : (fillI xs n k).size = n := by simp [fillI]
theorem fillI_set {xs : List Int} {n k : Nat} (hk : k < n) : (fillI xs n k).setIfInBounds k (.int .i64 (xs.getD k 0)) = fillI xs n (k + 1) := by
  apply Array.ext_getElem?
  intro j
  rw [Array.getElem?_setIfInBounds, fillI_size, fillI_at, fillI_at]
  by_cases h : k = j
  · subst h; simp [hk]
  · rw [if_neg h]
    by_cases h1 : j < k
    · simp [h1, show j < k + 1 by omega]
    · simp [h1, show ¬ j < k + 1 by omega]
theorem fillI_full {xs : List Int} {n : Nat} (hx : xs.length = n) : fillI xs n n = (xs.map (Value.int .i64)).toArray := by
  apply Array.ext_getElem?
  intro j
  rw [fillI_at]
  by_cases h : j < n
  · have h' : j < xs.length := by omega
    simp [h, h', List.getD_eq_getElem?_getD]
  · have h' : ¬ j < xs.length := by omega
    simp [h, h']
theorem fillI_zero (xs : List Int) (n : Nat) : madeCells #[Value.int .i64 0] n = fillI xs n 0 := by
  apply Array.ext_getElem?
  intro j
  rw [fillI_at]
  unfold madeCells
  by_cases h : j < n
  · simp [h, Nat.mod_one]
  · simp [h]

theorem info64 : (Try.prog.info? 2).map (fun i => (i.zero, i.size, i.bytes)) = some (some (.int .i64 0), 1, 8) := by kernel_rfl
theorem make_ints (xs : List Int) (n : Nat) (hn : n ≤ 1048576) (W : World) :
    (Instr.makeSlice 22 (.int .i64 (n : Int)) (.int .i64 (n : Int))).run Try.prog W = .ok (.slice (some ⟨W.heap.size, 0, none⟩) n n) (W.alloc (.cells (fillI xs n 0) 2)) := by
  obtain ⟨i0, hi, hz0, hz1, hz2⟩ := info_parts info64
  have h := run_make (P := Try.prog) W 22 2 i0 (.int .i64 0) Try.underlying22 hi hz0 .i64 .i64 (n : Int) (n : Int) (by omega) (by omega) (by rw [hz2]; omega) (by omega)
  rw [h, hz1, Nat.mul_one, Int.toNat_natCast]
  have e : (Value.int .i64 0).cells = #[Value.int .i64 0] := rfl
  rw [e, fillI_zero xs n]

set_option maxHeartbeats 400000 in
theorem toInts_any (A : Option Addr) (n c : Nat) (xs : List Int) (w : World) (H : SlI w A n xs) (hn : n ≤ 1048576) :
    Calls Try.prog 15 #[.slice A n c] w fun e w' => e = .returned (.slice (some ⟨w.heap.size, 0, none⟩) n n) ∧ w' = w.alloc (.cells (xs.map (Value.int .i64)).toArray 2) := by
  have hmk := make_ints xs n hn
  have HL := Lib.hid H.length
  go_enter Try.func15, Try.ntmps15
  go_wp2_with fail
  clear hmk
  go_loopw [4] (fun x wr => ∃ k : Nat, k ≤ n ∧ x = .int .i64 k ∧ wr = w.alloc (.cells (fillI xs n k) 2)) (fun x _ => (n - (intOf x).toNat))
  case atStart => exact ⟨0, by omega, rfl, rfl⟩
  case round =>
    obtain ⟨k, hk, rfl, rfl⟩ := hrel
    by_cases hlt : k < n
    · obtain ⟨b, off, rfl, hbl, hc⟩ := H.get hlt
      have hg := fillI_get (xs := xs) hlt
      have HS := Lib.hid (fillI_set (xs := xs) hlt)
      clear H
      go_wp2
      go_roundw
      case rel => exact ⟨k + 1, by omega, by go_num, by rw [← HS.out]; simp⟩
      case measure => simp [intOf]; omega
    · have hkk : k = n := by omega
      subst hkk
      have HS := Lib.hid (fillI_full HL.out)
      go_wp2
      go_ret
      exact ⟨rfl, by rw [HS.out]⟩
end Go.Proofs.Yticohpimkicphaa
