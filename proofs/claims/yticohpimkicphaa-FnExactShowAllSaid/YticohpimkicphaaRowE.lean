/-
  Two slices of integers with the same numbers are equal to the law's own comparing; a slice that came in reads as a list.
-/
import Derived.Test.YticohpimkicphaaRow
namespace Go.Proofs.Yticohpimkicphaa
open Go.RowKit

/-- A slice of integers that came in: nil, or a row of 'cap' cells. -/
def IsRow (k : IntKind) (w : World) (a : Option Addr) (len cap : Nat) (zs : List Int) : Prop :=
  (a = none ∧ len = 0 ∧ cap = 0 ∧ zs = []) ∨
  ∃ x, a = some x ∧ len ≤ cap ∧ cap ≤ maxLen ∧ zs.length = cap ∧ (∀ i, i < zs.length → w.cell? (x.add i) = some (.int k (zs.getD i 0))) ∧ ∀ n ∈ zs, (Lit.int k n).wf = true

theorem IsRow.sl {w : World} {a : Option Addr} {l c : Nat} {zs : List Int} (h : IsRow .i64 w a l c zs) : SlI w a l (zs.take l) := by
  rcases h with ⟨rfl, rfl, rfl, rfl⟩ | ⟨x, rfl, hlc, _, hz, hcell, _⟩
  · exact SlI.nil w
  · refine ⟨by simp; omega, fun hl => ?_⟩
    obtain ⟨b, off, rfl, hcs⟩ := ints_at hcell (by omega)
    refine ⟨b, off, rfl, World.block_lt_of_cell? w _ (hcs 0 (by omega)), fun j v hj => ?_⟩
    have hjl : j < l := by
      rcases Nat.lt_or_ge j l with h | h
      · exact h
      · rw [List.getElem?_eq_none (by simp; omega)] at hj; cases hj
    have hjz : j < zs.length := by omega
    rw [hcs j hjz]
    simp [hjl, hjz] at hj
    rw [← hj]
    simp [List.getD_eq_getElem?_getD, hjz]
theorem IsRow.len {k : IntKind} {w : World} {a : Option Addr} {l c : Nat} {zs : List Int} (h : IsRow k w a l c zs) : l ≤ 9223372036854775807 := by
  rcases h with ⟨rfl, rfl, rfl, rfl⟩ | ⟨x, rfl, hlc, hm, _⟩
  · omega
  · unfold maxLen at hm; omega

/-- What 'toInt64S' has made. -/
theorem SlI.made {w : World} {n : Nat} {xs : List Int} {t : TypeId} (hx : xs.length = n) : SlI (w.alloc (.cells (xs.map (Value.int .i64)).toArray t)) (some ⟨w.heap.size, 0, none⟩) n xs :=
  SlV.of_block (heap_alloc_new w _) (by simp [hx]) (fun j v hj => by rw [List.getElem?_toArray]; exact hj)

set_option maxHeartbeats 800000 in
theorem eqInts_any (A B : Option Addr) (n c d : Nat) (xs : List Int) (w : World) (HA : SlI w A n xs) (HB : SlI w B n xs) (hn : n ≤ 1048576) :
    Calls Try.prog 19 #[.slice A n c, .slice B n d] w fun e w' => e = .returned (.bool true) ∧ Below w.heap.size w w' := by
  go_enter Try.func19, Try.ntmps19
  go_wp2_with fail
  go_loopw [5] (fun x wr => ∃ k : Nat, k ≤ n ∧ x = .int .i64 k ∧ Below w.heap.size w wr) (fun x _ => (n - (intOf x).toNat))
  case atStart => exact ⟨0, by omega, rfl, Below.refl _ _⟩
  case round =>
    obtain ⟨k, hk, rfl, hbr⟩ := hrel
    by_cases hlt : k < n
    · obtain ⟨b, off, rfl, hbl, hc⟩ := (HA.below hbr).get hlt
      obtain ⟨b', off', rfl, hbl', hc'⟩ := (HB.below hbr).get hlt
      clear HA HB
      have hik : (k : Int) < (n : Int) := by omega
      go_wp2_with fail
      refine wp_region_bel (by kernel_rfl) (by kernel_rfl) ?_
      repeat (go_big_quiet_step ((fail)))
      refine wpQuiet_nil ?_
      intro w1 hw'
      obtain ⟨tq, hw''⟩ := hw'
      have hw1 := tq.2
      rw [← hw''] at hw1
      clear hw'' tq
      obtain ⟨hcw1, hfw1⟩ := bcell hw1
      try (have hzw1 : w.heap.size < w1.heap.size := by (have h := hw1.size; (try simp at h); omega))
      try (have hyw1 : w.heap.size + 1 < w1.heap.size := by (have h := hw1.size; (try simp at h); omega))
      try (have hxw1 : w.heap.size + 1 + 1 < w1.heap.size := by (have h := hw1.size; (try simp at h); omega))
      try (have hvw1 : w.heap.size + 1 + 1 + 1 < w1.heap.size := by (have h := hw1.size; (try simp at h); omega))
      go_wp2_with fail
      go_roundw
      case rel => exact ⟨k + 1, by omega, by go_num, bw_trans hbr hw1⟩
      case measure => simp [intOf]; omega
    · have hkk : k = n := by omega
      subst hkk
      clear HA HB
      go_wp2
      go_ret
      exact ⟨rfl, hbr⟩
end Go.Proofs.Yticohpimkicphaa
