/-
  The reference's decimal form of a number: a loop that lays its digits before those it has; then the bytes as a string.
-/
import Derived.Test.YtjpjmfdadidopaaDoorBase
import Derived.Test.YtjpjmfdadidopaaDoorCalm
import Derived.LoopTactic
import Derived.Laws.AppendOwn
import Derived.Laws.OwnMore
import Derived.Laws.IdiomStrings
import Derived.Deep.LoopGhost
import Derived.OwnWalk
import Derived.Shelf.Strconv.Itoa4
namespace Go.Proofs.YtjpjmfdadidopaaDoor
open Go.RowKit

def digs (n : Nat) : List UInt8 := if _h : n = 0 then [] else digs (n / 10) ++ [UInt8.ofNat (48 + n % 10)]
termination_by n
decreasing_by omega
theorem digs_zero : digs 0 = [] := by unfold digs; rfl
theorem digs_pos {n : Nat} (h : n ≠ 0) : digs n = digs (n / 10) ++ [UInt8.ofNat (48 + n % 10)] := by rw [digs, dif_neg h]
theorem dec_digs {n : Nat} (h : n ≠ 0) : Lib.decDigits n = digs n := by
  induction n using Nat.strongRecOn with
  | _ n ih =>
    rw [Lib.decDigits, digs_pos h]
    by_cases h1 : n < 10
    · rw [dif_pos h1, show n / 10 = 0 by omega, digs_zero, show n % 10 = n by omega]; rfl
    · rw [dif_neg h1, ih (n / 10) (by omega) (by omega)]
theorem digs_len : ∀ (k n : Nat), n < 10 ^ k → (digs n).length ≤ k
  | 0, n, h => by rw [show n = 0 by simpa using h, digs_zero]; simp
  | k + 1, n, h => by
    by_cases h0 : n = 0
    · rw [h0, digs_zero]; simp
    · rw [digs_pos h0, List.length_append]
      have := digs_len k (n / 10) (by rw [Nat.pow_succ] at h; omega)
      simp; omega
theorem digs_len18 {n : Nat} (h : n < 1000000000000000000) : (digs n).length ≤ 18 := digs_len 18 n (by simpa using h)
theorem itoa_zero : Lib.itoa 0 = [48] := by unfold Lib.itoa; rw [if_neg (by omega)]; show Lib.decDigits 0 = [48]; rw [Lib.decDigits, dif_pos (by omega)]; rfl
theorem itoa_pos {n : Int} (h : 0 < n) : Lib.itoa n = digs n.natAbs := by
  unfold Lib.itoa; rw [if_neg (by omega), dec_digs (by omega), show n.toNat = n.natAbs by omega]
theorem itoa_neg' {n : Int} (h : n < 0) : Lib.itoa n = 45 :: digs n.natAbs := by
  unfold Lib.itoa; rw [if_pos h, dec_digs (by omega)]

/-- The value v is a row of the bytes l in a block from B on, that nothing froze. -/
def OwnY (w : World) (B : Nat) (v : Value) (l : List UInt8) : Prop := w.ownsRow B 5 1 v l.length (l.map fun b => Value.int .u8 (b.toNat : Int))
theorem OwnY.lit (w : World) {B : Nat} (hB : B ≤ w.heap.size) : OwnY (w.alloc (.cells #[] 5)) B (.slice (some ⟨w.heap.size, 0, none⟩) 0 0) [] :=
  World.ownsRow_lit w #[] 0 hB (by unfold maxLen; omega) rfl
theorem OwnY.lit1 (w : World) {B : Nat} (hB : B ≤ w.heap.size) {z : Int} {b : UInt8} (hz : z = (b.toNat : Int)) : OwnY (w.alloc (.cells #[.int .u8 z] 5)) B (.slice (some ⟨w.heap.size, 0, none⟩) 1 1) [b] := by
  subst hz
  exact World.ownsRow_lit w #[.int .u8 (b.toNat : Int)] 1 hB (by unfold maxLen; omega) rfl
theorem OwnY.base {w : World} {B B' : Nat} {v : Value} {l : List UInt8} (h : OwnY w B v l) (hB : B' ≤ B) : OwnY w B' v l := by
  refine ⟨h.1, ?_⟩
  rcases h.2 with h2 | ⟨g, cap, cur, e, hg, hh⟩
  · exact .inl h2
  · exact .inr ⟨g, cap, cur, e, Nat.le_trans hB hg, hh⟩
theorem add_off' (g j : Nat) : (⟨g, 0, none⟩ : Addr).add j = ⟨g, j, none⟩ := by unfold Addr.add; split <;> simp_all
theorem OwnY.cells {w : World} {B g m c : Nat} {l : List UInt8} (h : OwnY w B (.slice (some ⟨g, 0, none⟩) m c) l) : ∀ j (hj : j < l.length), w.cell? ((⟨g, 0, none⟩ : Addr).add j) = some (.int .u8 (l[j].toNat : Int)) := by
  intro j hj
  exact World.ownsRow.cells h (g := g) rfl j _ (by simp [hj])
theorem OwnY.str {w : World} {B g c : Nat} {l : List UInt8} (h : OwnY w B (.slice (some ⟨g, 0, none⟩) l.length c) l) : (convert 51 9 (.slice (some ⟨g, 0, none⟩) l.length c)).run Tryd.prog w = .ok (.string ⟨l.toArray⟩) w :=
  run_convert_bytes_back w _ _ 5 _ c l Tryd.underlying51 Tryd.underlying5 Tryd.underlying9 h.cells
theorem below_grown' {B : Nat} {w w' : World} {row : Option Nat} (hg : w.grownBy w' row) (hr : ∀ k, row = some k → B ≤ k) (hB : B ≤ w.heap.size) : Below B w w' :=
  ⟨hg.os, hg.tape, hg.output, hg.size, fun k hk => hg.block k (Nat.lt_of_lt_of_le hk hB) (fun e => by have := hr k e.symm; omega)⟩
theorem infoY : (Tryd.prog.info? 5).map (fun i => (i.zero, i.size, i.bytes)) = some (some (.int .u8 0), 1, 1) := by kernel_rfl
theorem info_parts' {P : Program} {e : TypeId} {z : Option Value} {n m : Nat} (h : (P.info? e).map (fun i => (i.zero, i.size, i.bytes)) = some (z, n, m)) : ∃ i, P.info? e = some i ∧ i.zero = z ∧ i.size = n ∧ i.bytes = m := by
  rcases hi : P.info? e with _ | i
  · rw [hi] at h; cases h
  · rw [hi] at h
    simp only [Option.map_some, Option.some.injEq, Prod.mk.injEq] at h
    exact ⟨i, rfl, h.1, h.2.1, h.2.2⟩

/-- 'append([]byte{b}, l...)'. -/
theorem wpAppY {ops : Array Oper} {rest : List Oper} {o : Oper} {a : Act} {w : World} {Q : Exit → Act → World → Prop} (hgd : o.guard = none) (s x : Operand)
    (ho : o.op = .call { callee := .builtin .append, args := #[s, x], argTypes := #[51, 51] })
    (B : Nat) (v : Value) (b : UInt8) (hs : a.eval s = v) (hown : OwnY w B v [b]) (g c : Nat) (l : List UInt8) (hx : a.eval x = .slice (some ⟨g, 0, none⟩) l.length c)
    (hc : ∀ j (hj : j < l.length), w.cell? ((⟨g, 0, none⟩ : Addr).add j) = some (.int .u8 (l[j].toNat : Int))) (hn : l.length ≤ 1048576) (hB : B ≤ w.heap.size)
    (h : ∀ g' c' w', OwnY w' B (.slice (some ⟨g', 0, none⟩) (b :: l).length c') (b :: l) → Below B w w' → wpList Tryd.prog ops Q rest (a.put o.dst (.slice (some ⟨g', 0, none⟩) (b :: l).length c')) w') : wpList Tryd.prog ops Q (o :: rest) a w := by
  obtain ⟨i0, hi, hz0, hz1, hz2⟩ := info_parts' infoY
  refine wpList_append_own w hgd s x _ ho B 5 i0 (.int .u8 0) 1 1 Tryd.underlying51 hi hz0 hz1 hz2 rfl (by decide) v 1 _ hs hown ⟨g, 0, none⟩ l.length c (l.map fun b => Value.int .u8 (b.toNat : Int)) hx (by simp) ?_ ?_ ?_ ?_ hB ?_
  · intro j u hj
    simp only [List.getElem?_map, Option.map_eq_some_iff] at hj
    obtain ⟨y, hy, rfl⟩ := hj
    obtain ⟨hj, rfl⟩ := List.getElem?_eq_some_iff.1 hy
    exact hc j hj
  · intro u hu
    obtain ⟨y, _, rfl⟩ := List.mem_map.1 hu
    rfl
  · unfold maxLen; omega
  · omega
  · intro v' w' h1 h2 _
    have h3 : OwnY w' B v' (b :: l) := by
      unfold OwnY
      rw [List.length_cons, Nat.add_comm l.length 1]
      exact h1
    rcases h3.2 with ⟨_, h4⟩ | ⟨g', cap', cur, e, _⟩
    · simp at h4
    · subst e
      exact h g' cap' w' h3 (below_grown' h2 (fun k hk => (World.ownsRow.lt hown k hk).1) hB)

theorem digit_eq {z : Int} {k : Nat} (h : z = ((48 + k % 10 : Nat) : Int)) : z = ((UInt8.ofNat (48 + k % 10)).toNat : Int) := by
  rw [h, UInt8.toNat_ofNat']; omega
set_option maxHeartbeats 1600000 in
set_option maxRecDepth 100000 in
theorem l01Dec_any (n : Int) (w : World) (h1 : -1000000000000000000 < n) (h2 : n < 1000000000000000000) :
    Calls Tryd.prog 20 #[.int .i64 n] w fun e w' => e = .returned (.string ⟨(Lib.itoa n).toArray⟩) ∧ Below w.heap.size w w' := by
  go_enter Tryd.func20, Tryd.ntmps20
  go_wp2_with fail
  go_loopw [3, 4] (fun x y wr => ∃ (k : Int) (l : List UInt8) (g c : Nat), Hid (digs k.natAbs ++ l = digs n.natAbs) ∧ (-1000000000000000000 < k ∧ k < 1000000000000000000) ∧ x = .slice (some ⟨g, 0, none⟩) l.length c ∧ y = .int .i64 k ∧ OwnY wr w.heap.size (.slice (some ⟨g, 0, none⟩) l.length c) l ∧ Below w.heap.size w wr) (fun _ y _ => (intOf y).natAbs)
  case atStart => exact ⟨n, [], _, _, Lib.hid (by simp), ⟨h1, h2⟩, rfl, rfl, OwnY.lit _ (Nat.le_refl _), bw_alloc (Below.refl _ _) _⟩
  case round =>
    obtain ⟨k, l, g, c, HG, ⟨hk1, hk2⟩, rfl, rfl, hown, hbw⟩ := hrel
    have HO := Lib.hid hown
    have hl : l.length ≤ 18 := by
      have h := digs_len18 (n := n.natAbs) (by omega)
      rw [← HG.out, List.length_append] at h; omega
    have hsz := hbw.size
    clear hown
    by_cases h0 : k = 0
    · subst h0
      have he : l = digs n.natAbs := by rw [← HG.out, Int.natAbs_zero, digs_zero]; rfl
      have HE := Lib.hid he
      by_cases hn0 : n = 0
      · subst hn0
        have hl0 : l.length = 0 := by rw [he, Int.natAbs_zero, digs_zero]; rfl
        have hlb : ((l.length : Int) == 0) = true := by rw [hl0]; rfl
        clear he
        go_wp2
        go_ret
        exact ⟨by rw [itoa_zero]; rfl, hbw⟩
      · have hl1 : l.length ≠ 0 := by
          rw [he, digs_pos (by omega)]; simp
        have hlb : ((l.length : Int) == 0) = false := by simp only [beq_eq_false_iff_ne]; omega
        clear he
        have hcv := HO.out.str
        by_cases hneg : n < 0
        · have hsb : (⟨l.toArray⟩ : ByteArray).size ≤ 18 := hl
          go_wp2
          go_ret
          exact ⟨by rw [itoa_neg' hneg, ← HE.out]; rfl, hbw⟩
        · go_wp2
          go_ret
          exact ⟨by rw [itoa_pos (by omega), ← HE.out]; rfl, hbw⟩
    · have hm : (k.tmod 10).natAbs = k.natAbs % 10 := by rw [Int.natAbs_tmod]; rfl
      have hd : (k.tdiv 10).natAbs = k.natAbs / 10 := by rw [Int.natAbs_tdiv]; rfl
      have hm1 : -10 < k.tmod 10 := by omega
      have hm2 : k.tmod 10 < 10 := by omega
      have hd1 : -1000000000000000000 < k.tdiv 10 := by omega
      have hd2 : k.tdiv 10 < 1000000000000000000 := by omega
      have hne : (k != 0) = true := by simpa using h0
      have hrel : digs (k.tdiv 10).natAbs ++ (UInt8.ofNat (48 + k.natAbs % 10) :: l) = digs n.natAbs := by
        rw [← HG.out, digs_pos (n := k.natAbs) (by omega), hd, List.append_assoc]; rfl
      have HR := Lib.hid hrel
      clear hrel
      by_cases hneg : k.tmod 10 < 0
      · go_wp2_with (at_builtin; refine wpAppY rfl _ _ rfl w.heap.size _ (UInt8.ofNat (48 + k.natAbs % 10)) rfl (OwnY.lit1 _ (by omega) (digit_eq (by first | omega | (simp; omega)))) g c l rfl (fun j hj => ((bw_alloc (Below.refl _ _) _ : Below _ _ _).cell (World.block_lt_of_cell? _ _ (HO.out.cells j hj))).trans (HO.out.cells j hj)) (by omega) (by simp; omega) ?_; intro g5 c5 w5 hown5 hb5)
        go_round
        case rel => exact ⟨k.tdiv 10, _, g5, c5, HR, ⟨hd1, hd2⟩, rfl, rfl, hown5, (bw_alloc hbw _).trans hb5⟩
        case measure =>
          show (k.tdiv 10).natAbs < k.natAbs
          omega
      · go_wp2_with (at_builtin; refine wpAppY rfl _ _ rfl w.heap.size _ (UInt8.ofNat (48 + k.natAbs % 10)) rfl (OwnY.lit1 _ (by omega) (digit_eq (by first | omega | (simp; omega)))) g c l rfl (fun j hj => ((bw_alloc (Below.refl _ _) _ : Below _ _ _).cell (World.block_lt_of_cell? _ _ (HO.out.cells j hj))).trans (HO.out.cells j hj)) (by omega) (by simp; omega) ?_; intro g5 c5 w5 hown5 hb5)
        go_round
        case rel => exact ⟨k.tdiv 10, _, g5, c5, HR, ⟨hd1, hd2⟩, rfl, rfl, hown5, (bw_alloc hbw _).trans hb5⟩
        case measure =>
          show (k.tdiv 10).natAbs < k.natAbs
          omega
end Go.Proofs.YtjpjmfdadidopaaDoor
