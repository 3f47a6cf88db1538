/-
  The law of lenses: an image and what it is of can be exchanged, slides have their sizes on the screen, and a lens for a size throws it.
-/
import Derived.Test.YtclilanlhagppaaLensFQ
import Derived.OpenShut
namespace Go.Proofs.Ytclilanlhagppaa
open Go.RowKit

/-- A slice of integers that came in: nil, or a row of 'cap' cells. -/
def IsRow (k : IntKind) (w : World) (a : Option Addr) (len cap : Nat) (zs : List Int) : Prop :=
  (a = none ∧ len = 0 ∧ cap = 0 ∧ zs = []) ∨
  ∃ x, a = some x ∧ len ≤ cap ∧ cap ≤ maxLen ∧ zs.length = cap ∧ (∀ i, i < zs.length → w.cell? (x.add i) = some (.int k (zs.getD i 0))) ∧ ∀ n ∈ zs, (Lit.int k n).wf = true

def atV (l : Nat) (zs : List Int) (i : Nat) (n : Int) : Int := if i < l then zs.getD i 0 % n else 0
theorem atV_bd {l : Nat} {zs : List Int} {i : Nat} {n : Int} (hn : 1 ≤ n) : 0 ≤ atV l zs i n ∧ atV l zs i n ≤ n - 1 := by
  unfold atV; split
  · exact ⟨Int.emod_nonneg _ (by omega), by have := Int.emod_lt_of_pos (zs.getD i 0) (by omega : 0 < n); omega⟩
  · omega

set_option maxHeartbeats 400000 in
theorem a2At_any (a : Option Addr) (l c : Nat) (zs : List Int) (i : Nat) (n : Int) (w : World) (h : IsRow .u8 w a l c zs) (hl : l ≤ 3000) (hi : i ≤ 100) (hn : 1 ≤ n ∧ n ≤ 1000) :
    Calls Try.prog 5 #[.slice a l c, .int .i64 i, .int .i64 n] w fun e w' => e = .returned (.int .i64 (atV l zs i n)) ∧ w = w' := by
  obtain ⟨n1, n2⟩ := hn
  by_cases hlt : i < l
  · rcases h with ⟨rfl, rfl, rfl, rfl⟩ | ⟨x, rfl, hlc, hm, hz, hcell, hwz⟩
    · omega
    · obtain ⟨b, off, rfl, hcs⟩ := ints_at hcell (by omega)
      have hc0 := hcs i (by omega)
      have hmem : zs.getD i 0 ∈ zs := by
        rw [List.getD_eq_getElem?_getD, List.getElem?_eq_getElem (by omega)]; simp
      have hw := hwz _ hmem
      have hv := bounds_u8 hw
      obtain ⟨v1, v2⟩ := hv
      have hfin : atV l zs i n = zs.getD i 0 % n := by unfold atV; rw [if_pos hlt]
      have HF := Lib.hid hfin
      clear hfin hw hmem hwz hcell hcs
      generalize zs.getD i 0 = v at *
      have d1 : decide ((l : Int) ≤ (i : Int)) = false := decide_eq_false (by omega)
      have d2 : decide (n < 1) = false := decide_eq_false (by omega)
      go_enter Try.func5, Try.ntmps5
      go_wp2
      go_ret
      exact ⟨ret_int HF.out.symm, rfl⟩
  · have hfin : atV l zs i n = 0 := by unfold atV; rw [if_neg hlt]
    have HF := Lib.hid hfin
    clear hfin h
    have d1 : decide ((l : Int) ≤ (i : Int)) = true := decide_eq_true (by omega)
    go_enter Try.func5, Try.ntmps5
    go_wp2
    go_ret
    exact ⟨ret_int HF.out.symm, rfl⟩

def lng (l m : Nat) : Bool := decide (3000 < l ∨ 3000 < m)
theorem a2Long_is (a1 a2 : Option Addr) (l m c1 c2 : Nat) (w : World) {b : Bool} (h : lng l m = b) (hl : l ≤ maxLen) (hm : m ≤ maxLen) :
    Calls Try.prog 4 #[.slice a1 l c1, .slice a2 m c2] w fun e w' => e = .returned (.bool b) ∧ w = w' := by
  unfold maxLen at hl hm
  subst h
  by_cases h1 : (l : Int) ≤ 3000
  · by_cases h2 : (m : Int) ≤ 3000
    · have d1 : decide (3000 < (l : Int)) = false := decide_eq_false (by omega)
      have d2 : decide (3000 < (m : Int)) = false := decide_eq_false (by omega)
      go_enter Try.func4, Try.ntmps4
      go_wp2
      go_ret
      exact ⟨ret_bool (by unfold lng; symm; exact decide_eq_false (by omega)), rfl⟩
    · have d1 : decide (3000 < (l : Int)) = false := decide_eq_false (by omega)
      have d2 : decide (3000 < (m : Int)) = true := decide_eq_true (by omega)
      go_enter Try.func4, Try.ntmps4
      go_wp2
      go_ret
      exact ⟨ret_bool (by unfold lng; symm; exact decide_eq_true (by omega)), rfl⟩
  · have d1 : decide (3000 < (l : Int)) = true := decide_eq_true (by omega)
    go_enter Try.func4, Try.ntmps4
    go_wp2
    go_ret
    exact ⟨ret_bool (by unfold lng; symm; exact decide_eq_true (by omega)), rfl⟩
end Go.Proofs.Ytclilanlhagppaa
