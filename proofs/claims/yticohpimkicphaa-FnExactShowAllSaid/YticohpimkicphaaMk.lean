/-
  The law's own marks: numbers written over a row of integers, and whether they still stand there.
-/
import Derived.Test.YticohpimkicphaaApp
import Derived.Test.YticohpimkicphaaRowE
import Derived.Deep.LoopGhost
import Derived.Deep.AppendLies
namespace Go.Proofs.Yticohpimkicphaa
open Go.RowKit

/-- k0, k0 + 1 and so on: n numbers. -/
def mks (k0 : Int) (n : Nat) : List Int := (List.range n).map fun i : Nat => k0 + (i : Int)
theorem mks_len (k0 : Int) (n : Nat) : (mks k0 n).length = n := by simp [mks]
theorem mks_at {k0 : Int} {n k : Nat} (h : k < n) : (mks k0 n).getD k 0 = k0 + k := by simp [mks, List.getD_eq_getElem?_getD, h]
/-- The first k marks, then the old numbers. -/
def mkP (k0 : Int) (xs : List Int) (k : Nat) : List Int := (List.range xs.length).map fun i : Nat => if i < k then k0 + (i : Int) else xs.getD i 0
theorem mkP_len (k0 : Int) (xs : List Int) (k : Nat) : (mkP k0 xs k).length = xs.length := by simp [mkP]
theorem mkP_zero (k0 : Int) (xs : List Int) : mkP k0 xs 0 = xs := by
  apply List.ext_getElem?
  intro i
  by_cases h : i < xs.length
  · simp [mkP, h, List.getD_eq_getElem?_getD]
  · simp [mkP, h]
theorem mkP_full (k0 : Int) (xs : List Int) : mkP k0 xs xs.length = mks k0 xs.length := by
  apply List.ext_getElem?
  intro i
  by_cases h : i < xs.length
  · simp [mkP, mks, h]
  · simp [mkP, mks, h]
theorem mkP_set (k0 : Int) (xs : List Int) {k : Nat} (hk : k < xs.length) : (mkP k0 xs k).set k (k0 + (k : Int)) = mkP k0 xs (k + 1) := by
  apply List.ext_getElem?
  intro i
  rw [List.getElem?_set]
  by_cases h : k = i
  · subst h; simp [mkP, hk]
  · rw [if_neg h]
    by_cases hi : i < xs.length
    · by_cases h1 : i < k
      · simp [mkP, hi, h1, show i < k + 1 by omega]
      · simp [mkP, hi, h1, show ¬ i < k + 1 by omega]
    · simp [mkP, hi]

theorem only_refl (w : World) (row : Option Nat) : w.grownBy w row := ⟨rfl, rfl, rfl, Nat.le_refl _, fun _ _ _ => rfl⟩
theorem only_below {a w w' : World} {row : Option Nat} (h : a.grownBy w row) (hb : Below w.heap.size w w') : a.grownBy w' row :=
  ⟨hb.os.trans h.os, hb.tape.trans h.tape, hb.output.trans h.output, Nat.le_trans h.size hb.size, fun i hi hne => (hb.block i (Nat.lt_of_lt_of_le hi h.size)).trans (h.block i hi hne)⟩
theorem only_trans {a b c : World} {row : Option Nat} (h : a.grownBy b row) (k : b.grownBy c row) : a.grownBy c row :=
  ⟨k.os.trans h.os, k.tape.trans h.tape, k.output.trans h.output, Nat.le_trans h.size k.size, fun i hi hne => (k.block i (Nat.lt_of_lt_of_le hi h.size) hne).trans (h.block i hi hne)⟩
theorem only_alloc {a w : World} {row : Option Nat} (h : a.grownBy w row) (o : Obj) : a.grownBy (w.alloc o) row :=
  ⟨h.os, h.tape, h.output, Nat.le_trans h.size (by simp), fun i hi hne => (Below.heap_alloc w o i (Nat.lt_of_lt_of_le hi h.size)).trans (h.block i hi hne)⟩
theorem only_setCell {a w : World} {g : Nat} (h : a.grownBy w (some g)) {p : Addr} (hp : p.block = g ∨ a.heap.size ≤ p.block) (u : Value) : a.grownBy (w.setCell p u) (some g) :=
  ⟨h.os, h.tape, h.output, by simpa [World.setCell] using h.size, fun i hi hne => (Below.heap_setCell w p u i (by
    rintro rfl
    rcases hp with hp | hp
    · exact hne (by rw [hp])
    · omega)).trans (h.block i hi hne)⟩
/-- A row that lies behind the one that was written to is as it was. -/
theorem OwnI.keptRow {w w' : World} {B g : Nat} {v : Value} {xs : List Int} (h : OwnI w B v xs) (hg : w.grownBy w' (some g)) (hlt : g < B) : OwnI w' B v xs := by
  refine World.ownsRow.kept h hg ?_
  rcases hv : v.ownBlock with _ | k
  · exact .inl rfl
  · have := (World.ownsRow.lt h k hv).1
    exact .inr (by simp; omega)
theorem OwnI.made {w : World} {n : Nat} {xs : List Int} (hx : xs.length = n) (hn : n ≤ 1048576) : OwnI (w.alloc (.cells (xs.map (Value.int .i64)).toArray 2)) w.heap.size (.slice (some ⟨w.heap.size, 0, none⟩) n n) xs := by
  subst hx
  have h := World.ownsRow_lit (base := w.heap.size) (size := 1) (e := 2) w (xs.map (Value.int .i64)).toArray xs.length (Nat.le_refl _) (by unfold maxLen; omega) (by simp)
  simpa [OwnI] using h

set_option maxHeartbeats 800000 in
theorem markI_any (A : Option Addr) (n c B : Nat) (k0 : Int) (xs : List Int) (w : World) (H : OwnI w B (.slice A n c) xs) (hn : n ≤ 1048576) (hk0 : 0 ≤ k0 ∧ k0 ≤ 1000000000) :
    Calls Try.prog 24 #[.slice A n c, .int .i64 k0] w fun e w' => e = .returned (.int .i64 (k0 + (n : Int))) ∧ OwnI w' B (.slice A n c) (mks k0 n) ∧ w.grownBy w' (Value.slice A n c).ownBlock ∧ Below B w w' := by
  obtain ⟨hl, _⟩ := H.sl
  obtain ⟨hk1, hk2⟩ := hk0
  obtain ⟨row, hrow⟩ : ∃ row, (Value.slice A n c).ownBlock = row := ⟨_, rfl⟩
  rw [hrow]
  have HR0 := Lib.hid hrow
  clear hrow
  have HL := Lib.hid hl
  have HX := Lib.hid (mkP_zero k0 xs)
  have HF := Lib.hid (mkP_full k0 xs)
  have HH := Lib.hid H
  clear H hl
  go_enter Try.func24, Try.ntmps24
  go_wp2_with fail
  go_loopg [1, 5] n (fun gh x y wr => ∃ k : Nat, k ≤ n ∧ gh = n - k ∧ x = .int .i64 (k0 + (k : Int)) ∧ y = .int .i64 k ∧ OwnI wr B (.slice A n c) (mkP k0 xs k) ∧ w.grownBy wr row ∧ Below B w wr)
  case atStart => exact ⟨0, by omega, by omega, by simp, rfl, by rw [HX.out]; exact HH.out, only_refl _ _, Below.refl _ _⟩
  case round =>
    obtain ⟨k, hk, rfl, rfl, rfl, hown, hgr, hbr⟩ := hrel
    have hlen := mkP_len k0 xs k
    have hown' := hown
    unfold OwnI at hown'
    rw [hlen, ← HL.out] at hown'
    by_cases hlt' : k < n
    · obtain ⟨g, cap, hv, hBg, hlt⟩ := World.ownsRow.form hown' (by omega)
      injection hv with e1 e2 e3
      subst e1; subst e3
      obtain rfl : row = some g := HR0.out.symm
      clear HR0
      have hc : wr.cell? ⟨g, k, none⟩ = some (.int .i64 ((mkP k0 xs k).getD k 0)) := by
        rw [World.ownsRow.cellAt hown' k (by omega)]
        have hx : k < (mkP k0 xs k).length := by rw [hlen, ← HL.out]; exact hlt'
        simp [List.getD_eq_getElem?_getD, hx]
      have hf := World.ownsRow.frozenAt hown' k
      obtain ⟨hs, _⟩ := World.ownsRow.stored hown' k (.int .i64 (k0 + (k : Int)))
      have HS := Lib.hid hs
      have HP := Lib.hid (mkP_set k0 xs (k := k) (by rw [← HL.out]; exact hlt'))
      have HN := Lib.hid (mkP_len k0 xs (k + 1))
      clear hown hown' hs hlen
      generalize (mkP k0 xs k).getD k 0 = u at *
      go_wp2
      go_roundg (n - (k + 1))
      case rel =>
        refine ⟨k + 1, by omega, rfl, by go_num, by go_num, ?_, only_setCell hgr (.inl rfl) _, hbr.setCell hBg _⟩
        unfold OwnI
        rw [HN.out, ← HL.out, ← HP.out, List.map_set]
        exact HS.out
      case measure => omega
    · have hkk : k = n := by omega
      subst hkk
      have HR := Lib.hid hown
      clear hown hown' hlen
      go_wp2
      go_ret
      refine ⟨rfl, ?_, hgr, hbr⟩
      have h1 := HR.out
      have h2 := HL.out
      have h3 := HF.out
      rw [← h2] at h3
      rw [← h3]; exact h1

set_option maxHeartbeats 800000 in
theorem heldI_any (A : Option Addr) (n c : Nat) (k0 : Int) (w : World) (H : SlI w A n (mks k0 n)) (hn : n ≤ 1048576) (hk0 : 0 ≤ k0 ∧ k0 ≤ 1000000000) :
    Calls Try.prog 25 #[.slice A n c, .int .i64 k0] w fun e w' => e = .returned (.int .i64 (k0 + (n : Int))) ∧ Below w.heap.size w w' := by
  obtain ⟨hk1, hk2⟩ := hk0
  go_enter Try.func25, Try.ntmps25
  go_wp2_with fail
  go_loopg [1, 5] n (fun gh x y wr => ∃ k : Nat, k ≤ n ∧ gh = n - k ∧ x = .int .i64 (k0 + (k : Int)) ∧ y = .int .i64 k ∧ Below w.heap.size w wr)
  case atStart => exact ⟨0, by omega, by omega, by simp, rfl, Below.refl _ _⟩
  case round =>
    obtain ⟨k, hk, rfl, rfl, rfl, hbr⟩ := hrel
    by_cases hlt' : k < n
    · obtain ⟨b, off, rfl, hbl, hc⟩ := (H.below hbr).get hlt'
      rw [mks_at hlt'] at hc
      clear H
      go_wp2
      go_roundg (n - (k + 1))
      case rel => exact ⟨k + 1, by omega, rfl, by go_num, by go_num, hbr⟩
      case measure => omega
    · have hkk : k = n := by omega
      subst hkk
      clear H
      go_wp2
      go_ret
      exact ⟨rfl, hbr⟩

/-- Returns a row of the call's own that reads as ys, and a code. -/
def GivesIC (ys : List Int) (C : Int) (w : World) (e : Ending) (w' : World) : Prop := ∃ v, e = .returned (.tuple #[v, .int .i64 C]) ∧ OwnI w' w.heap.size v ys ∧ Below w.heap.size w w'
end Go.Proofs.Yticohpimkicphaa
