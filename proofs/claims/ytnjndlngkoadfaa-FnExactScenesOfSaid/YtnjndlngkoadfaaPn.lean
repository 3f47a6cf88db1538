/-
  Rows of scenes that a call owns; the law's marks over them.
-/
import Derived.Test.YtnjndlngkoadfaaPb
import Derived.Test.YtnjndlngkoadfaaSs
import Derived.Test.YtnjndlngkoadfaaAny
import Derived.Test.YtnjndlngkoadfaaApp
import Derived.Deep.LoopGhost
import Derived.Laws.BytesArg
import Derived.Deep.AppendLies
import Derived.OwnWalk
namespace Go.Proofs.Ytnjndlngkoadfaa
open Go.RowKit

def scCells : List ScE → List Value
  | [] => []
  | x :: r => .string x.f0 :: .int .i64 x.f1 :: scCells r
theorem sc_len (xs : List ScE) : (scCells xs).length = xs.length * 2 := by
  induction xs with
  | nil => rfl
  | cons x r ih => simp only [scCells, List.length_cons, ih]; omega
theorem sc_app (xs ys : List ScE) : scCells (xs ++ ys) = scCells xs ++ scCells ys := by
  induction xs with
  | nil => rfl
  | cons x r ih => simp only [List.cons_append, scCells, ih]
theorem sc_at0 {xs : List ScE} {k : Nat} (hk : k < xs.length) : (scCells xs)[k * 2]? = some (.string (xs.getD k ScE.zero).f0) := by
  induction xs generalizing k with
  | nil => simp at hk
  | cons x r ih =>
    cases k with
    | zero => rfl
    | succ k =>
      rw [show (k + 1) * 2 = k * 2 + 1 + 1 by omega]
      simp only [scCells, List.getElem?_cons_succ, List.getD_cons_succ]
      exact ih (by simpa using hk)
theorem sc_at1 {xs : List ScE} {k : Nat} (hk : k < xs.length) : (scCells xs)[k * 2 + 1]? = some (.int .i64 (xs.getD k ScE.zero).f1) := by
  induction xs generalizing k with
  | nil => simp at hk
  | cons x r ih =>
    cases k with
    | zero => rfl
    | succ k =>
      rw [show (k + 1) * 2 + 1 = k * 2 + 1 + 1 + 1 by omega]
      simp only [scCells, List.getElem?_cons_succ, List.getD_cons_succ]
      exact ih (by simpa using hk)
theorem sc_set0 {xs : List ScE} {k : Nat} (hk : k < xs.length) (s : ByteArray) : (scCells xs).set (k * 2) (.string s) = scCells (xs.set k ⟨s, (xs.getD k ScE.zero).f1⟩) := by
  induction xs generalizing k with
  | nil => simp at hk
  | cons x r ih =>
    cases k with
    | zero => rfl
    | succ k =>
      rw [show (k + 1) * 2 = k * 2 + 1 + 1 by omega]
      simp only [scCells, List.set_cons_succ, List.getD_cons_succ]
      rw [ih (by simpa using hk)]
theorem sc_set1 {xs : List ScE} {k : Nat} (hk : k < xs.length) (u : Int) : (scCells xs).set (k * 2 + 1) (.int .i64 u) = scCells (xs.set k ⟨(xs.getD k ScE.zero).f0, u⟩) := by
  induction xs generalizing k with
  | nil => simp at hk
  | cons x r ih =>
    cases k with
    | zero => rfl
    | succ k =>
      rw [show (k + 1) * 2 + 1 = k * 2 + 1 + 1 + 1 by omega]
      simp only [scCells, List.set_cons_succ, List.getD_cons_succ]
      rw [ih (by simpa using hk)]
theorem sc_one (xs : List ScE) : ∀ v ∈ scCells xs, v.oneCell' = true := by
  induction xs with
  | nil => intro v hv; cases hv
  | cons x r ih =>
    intro v hv
    rcases List.mem_cons.1 hv with rfl | hv
    · rfl
    · rcases List.mem_cons.1 hv with rfl | hv
      · rfl
      · exact ih v hv

/-- The value v is a row of the scenes xs in a block from B on, that nothing froze. -/
def OwnSc (w : World) (B : Nat) (v : Value) (xs : List ScE) : Prop := w.ownsRow B 51 2 v xs.length (scCells xs)
theorem OwnSc.nil (w : World) (B : Nat) : OwnSc w B (.slice none 0 0) [] := World.ownsRow_nil _ _ _ _
theorem OwnSc.lit (w : World) {B : Nat} (hB : B ≤ w.heap.size) : OwnSc (w.alloc (.cells #[] 51)) B (.slice (some ⟨w.heap.size, 0, none⟩) 0 0) [] :=
  World.ownsRow_lit w #[] 0 hB (by unfold maxLen; omega) rfl
theorem OwnSc.below {w w' : World} {B : Nat} {v : Value} {xs : List ScE} (h : OwnSc w B v xs) (hb : Below w.heap.size w w') : OwnSc w' B v xs := by
  unfold OwnSc at *
  rcases hv : v.ownBlock with _ | k
  · exact World.ownsRow.kept h (grown_of_below hb none) (.inl hv)
  · exact World.ownsRow.kept h (grown_of_below hb none) (.inr (by rw [hv]; simp))
theorem OwnSc.alloc {w : World} {B : Nat} {v : Value} {xs : List ScE} (h : OwnSc w B v xs) (o : Obj) : OwnSc (w.alloc o) B v xs := World.ownsRow.alloc h o
theorem OwnSc.drewN {w : World} {B : Nat} {v : Value} {xs : List ScE} (h : OwnSc w B v xs) (n : Nat) : OwnSc (w.drewN n) B v xs := h
theorem OwnSc.base {w : World} {B B' : Nat} {v : Value} {xs : List ScE} (h : OwnSc w B v xs) (hB : B' ≤ B) : OwnSc w B' v xs := by
  refine ⟨h.1, ?_⟩
  rcases h.2 with h2 | ⟨g, cap, cur, e, hg, hh⟩
  · exact .inl h2
  · exact .inr ⟨g, cap, cur, e, Nat.le_trans hB hg, hh⟩
theorem OwnSc.form {w : World} {B : Nat} {v : Value} {xs : List ScE} (h : OwnSc w B v xs) : ∃ A c, v = .slice A xs.length c := by
  rcases h.2 with ⟨rfl, h2⟩ | ⟨g, cap, cur, e, _⟩
  · exact ⟨none, 0, by rw [h2]⟩
  · exact ⟨_, _, e⟩
theorem OwnSc.sl {w : World} {B : Nat} {A : Option Addr} {n c : Nat} {xs : List ScE} (h : OwnSc w B (.slice A n c) xs) : n = xs.length ∧ SlSc w A xs.length xs := by
  rcases h.2 with ⟨e, h2⟩ | ⟨g, cap, cur, e, hg, hh, _⟩
  · injection e with e1 e2 e3
    have : xs = [] := List.eq_nil_of_length_eq_zero h2
    subst this; subst e1
    exact ⟨by omega, SlSc.nil w⟩
  · injection e with e1 e2 e3
    subst e1; subst e2; subst e3
    refine ⟨rfl, rfl, fun hn => ⟨g, 0, rfl, ?_, fun k hk => ⟨?_, ?_⟩⟩⟩
    · rcases Nat.lt_or_ge g w.heap.size with h' | h'
      · exact h'
      · rw [Array.getElem?_eq_none h'] at hh; cases hh
    · have := World.ownsRow.cells h (g := g) rfl (k * 2) _ (sc_at0 hk)
      rw [add_off] at this
      simpa using this
    · have := World.ownsRow.cells h (g := g) rfl (k * 2 + 1) _ (sc_at1 hk)
      rw [add_off] at this
      rw [Nat.zero_add]; exact this
/-- A scene of an owned row: read, and written. -/
theorem OwnSc.put {w : World} {B n c k : Nat} {A : Option Addr} {xs : List ScE} (h : OwnSc w B (.slice A n c) xs) (hk : k < xs.length) : ∃ g, A = some ⟨g, 0, none⟩ ∧ B ≤ g ∧ n = xs.length ∧
    w.cell? ⟨g, k * 2, none⟩ = some (.string (xs.getD k ScE.zero).f0) ∧ w.cell? ⟨g, k * 2 + 1, none⟩ = some (.int .i64 (xs.getD k ScE.zero).f1) ∧ (∀ j, w.frozen? ⟨g, j, none⟩ = false) ∧
    (∀ u : Int, OwnSc (w.setCell ⟨g, k * 2 + 1, none⟩ (.int .i64 u)) B (.slice A n c) (xs.set k ⟨(xs.getD k ScE.zero).f0, u⟩)) ∧
    (∀ s : ByteArray, OwnSc (w.setCell ⟨g, k * 2, none⟩ (.string s)) B (.slice A n c) (xs.set k ⟨s, (xs.getD k ScE.zero).f1⟩)) := by
  have hn := h.sl.1
  subst hn
  have hown := h
  unfold OwnSc at hown
  obtain ⟨g, cap, hv, hBg, hlt⟩ := World.ownsRow.form hown (by omega)
  injection hv with e1 e2 e3
  subst e1; subst e3
  refine ⟨g, rfl, hBg, rfl, ?_, ?_, fun j => World.ownsRow.frozenAt hown j, fun u => ?_, fun s => ?_⟩
  · rw [World.ownsRow.cellAt hown (k * 2) (by omega)]; exact sc_at0 hk
  · rw [World.ownsRow.cellAt hown (k * 2 + 1) (by omega)]; exact sc_at1 hk
  · have h2 := (World.ownsRow.stored hown (k * 2 + 1) (.int .i64 u)).1
    unfold OwnSc
    rw [List.length_set, ← sc_set1 hk]
    exact h2
  · have h2 := (World.ownsRow.stored hown (k * 2) (.string s)).1
    unfold OwnSc
    rw [List.length_set, ← sc_set0 hk]
    exact h2

theorem infoSc : (Try.prog.info? 51).map (fun i => (i.zero, i.size, i.bytes)) = some (some (.agg #[.string ⟨#[]⟩, .int .i64 0]), 2, 24) := by kernel_rfl
theorem wpAppSc {ops : Array Oper} {rest : List Oper} {o : Oper} {a : Act} {w : World} {Q : Exit → Act → World → Prop} (hgd : o.guard = none) (s x : Operand)
    (ho : o.op = .call { callee := .builtin .append, args := #[s, x], argTypes := #[28, 28] })
    (B : Nat) (v : Value) (xs : List ScE) (hs : a.eval s = v) (hown : OwnSc w B v xs) (g : Nat) (u : ScE) (hx : a.eval x = .slice (some ⟨g, 0, none⟩) 1 1)
    (hc0 : w.cell? ⟨g, 0, none⟩ = some (.string u.f0)) (hc1 : w.cell? ⟨g, 1, none⟩ = some (.int .i64 u.f1)) (hn : xs.length ≤ 1048576) (hB : B ≤ w.heap.size)
    (h : ∀ v' w', OwnSc w' B v' (xs ++ [u]) → w.grownBy w' v.ownBlock → Below B w w' → wpList Try.prog ops Q rest (a.put o.dst v') w') : wpList Try.prog ops Q (o :: rest) a w := by
  obtain ⟨i0, hi, hz0, hz1, hz2⟩ := info_parts infoSc
  refine wpList_append_own w hgd s x _ ho B 51 i0 (.agg #[.string ⟨#[]⟩, .int .i64 0]) 2 24 Try.underlying28 hi hz0 hz1 hz2 rfl (by decide) v xs.length _ hs hown ⟨g, 0, none⟩ 1 1 (scCells [u]) hx rfl ?_ (sc_one _) ?_ ?_ hB ?_
  · intro j y hj
    match j with
    | 0 => simp [scCells] at hj; subst hj; rw [add_off]; exact hc0
    | 1 => simp [scCells] at hj; subst hj; rw [add_off]; exact hc1
    | j + 2 => simp [scCells] at hj
  · unfold maxLen; omega
  · omega
  · intro v' w' h1 h2 _
    refine h v' w' ?_ h2 (below_grown h2 (fun k hk => (World.ownsRow.lt hown k hk).1) hB)
    unfold OwnSc
    rw [sc_app]
    simpa using h1

/-- The digits so far. -/
def acS (k : Nat) : Nat → ByteArray
  | 0 => ⟨#[]⟩
  | j + 1 => if k / 10 ^ j = 0 then acS k j else strOfNums [48 + ((k / 10 ^ j % 10 : Nat) : Int)] ++ acS k j
theorem ac_stop {k j i : Nat} (h : k / 10 ^ j = 0) (hji : j ≤ i) : acS k i = acS k j := by
  induction i with
  | zero => have : j = 0 := by omega
            rw [this]
  | succ i ih =>
    rcases Nat.lt_or_ge j (i + 1) with h1 | h1
    · have h2 : k / 10 ^ i = 0 := by
        have hp : 10 ^ j ≤ 10 ^ i := Nat.pow_le_pow_right (by omega) (by omega)
        rcases Nat.div_eq_zero_iff.1 h with h | h
        · have := Nat.pow_pos (n := j) (show 0 < 10 by omega); omega
        · exact Nat.div_eq_of_lt (by omega)
      show (if k / 10 ^ i = 0 then _ else _) = _
      rw [if_pos h2]; exact ih (by omega)
    · have : j = i + 1 := by omega
      rw [this]
theorem ac_step {k j : Nat} (h : ¬ k / 10 ^ j = 0) : acS k (j + 1) = strOfNums [48 + ((k / 10 ^ j % 10 : Nat) : Int)] ++ acS k j := if_neg h
theorem ac_size (k j : Nat) : (acS k j).size ≤ j := by
  induction j with
  | zero => exact Nat.le_refl 0
  | succ j ih =>
    by_cases h : k / 10 ^ j = 0
    · show (if k / 10 ^ j = 0 then acS k j else _).size ≤ _
      rw [if_pos h]; omega
    · rw [ac_step h, ByteArray.size_append]
      have h1 : (strOfNums [48 + ((k / 10 ^ j % 10 : Nat) : Int)]).size = 1 := rfl
      omega
/-- The mark's text. -/
def mtS (k : Nat) : ByteArray := (⟨#[109]⟩ : ByteArray) ++ acS k 12

set_option maxRecDepth 100000 in
set_option maxHeartbeats 1600000 in
theorem markText_any (k : Nat) (w : World) (hk : 1 ≤ k ∧ k ≤ 1000000000) :
    Calls Try.prog 50 #[.int .i64 (k : Int)] w fun e w' => e = .returned (.string (mtS k)) ∧ Below w.heap.size w w' := by
  obtain ⟨k1, k2⟩ := hk
  have HK := Lib.hid k2
  go_enter Try.func50, Try.ntmps50
  go_wp2_with fail
  go_loopg [0, 3] 12 (fun gh x y wr => ∃ j : Nat, j ≤ 12 ∧ gh = 12 - j ∧ x = .int .i64 ((k / 10 ^ j : Nat) : Int) ∧ y = .string (acS k j) ∧ Below w.heap.size w wr)
  case atStart => exact ⟨0, by omega, by omega, by simp, rfl, Below.refl _ _⟩
  case round =>
    obtain ⟨j, hj, rfl, rfl, rfl, hbr⟩ := hrel
    have hsz := ac_size k j
    by_cases h0 : k / 10 ^ j = 0
    · have HE := Lib.hid (ac_stop h0 hj)
      have HM := Lib.hid (show mtS k = (⟨#[109]⟩ : ByteArray) ++ acS k 12 from rfl)
      rw [HE.out] at HM
      have hm1 : ((⟨#[109]⟩ : ByteArray)).size = 1 := rfl
      rw [h0]
      generalize acS k j = U at *
      go_wp2
      go_ret
      exact ⟨by rw [HM.out] <;> rfl, hbr⟩
    · have hj12 : j < 10 := by
        rcases Nat.lt_or_ge j 10 with h | h
        · exact h
        · refine absurd (Nat.div_eq_of_lt ?_) h0
          have : 10 ^ 10 ≤ 10 ^ j := Nat.pow_le_pow_right (by omega) h
          have := HK.out
          omega
      have HE := Lib.hid (ac_step h0)
      have HQ := Lib.hid (show k / 10 ^ (j + 1) = k / 10 ^ j / 10 by rw [Nat.pow_succ, Nat.div_div_eq_div_mul])
      have hqb : k / 10 ^ j ≤ k := Nat.div_le_self _ _
      generalize k / 10 ^ j = q at *
      have hmod : (q : Int).tmod 10 = ((q % 10 : Nat) : Int) := by rw [Int.tmod_eq_emod_of_nonneg (by omega)]; omega
      have hdiv : (q : Int).tdiv 10 = ((q / 10 : Nat) : Int) := by rw [Int.tdiv_eq_ediv_of_nonneg (by omega)]; omega
      have hr : q % 10 < 10 := Nat.mod_lt _ (by omega)
      have hq0 : 0 < q := by omega
      generalize q % 10 = r at *
      have hcv := run_convert_bytes_arg (P := Try.prog) (wr.alloc (.cells #[.int .u8 (48 + (r : Int))] 5)) 66 5 Try.underlying66 Try.underlying5 wr.heap.size 0 1 1 [48 + (r : Int)] rfl (fun i hi => by
        have : i = 0 := by omega
        subst this; go_simp) 9 Try.underlying9
      have h1s : (strOfNums [48 + (r : Int)]).size = 1 := rfl
      generalize strOfNums [48 + (r : Int)] = D at *
      generalize acS k j = U at *
      go_wp2_with fail
      go_roundg (12 - (j + 1))
      case rel => exact ⟨j + 1, by omega, rfl, by rw [HQ.out] <;> go_num, by rw [HE.out], by (repeat (first | exact Below.refl _ _ | refine bw_drew ?_ | refine bw_drewN ?_ _ | refine bw_set ?_ (by simp; try omega) _ | refine bw_alloc ?_ _ | refine bw_trans ?_ (by assumption) | assumption))⟩
      case measure => omega
end Go.Proofs.Ytnjndlngkoadfaa
