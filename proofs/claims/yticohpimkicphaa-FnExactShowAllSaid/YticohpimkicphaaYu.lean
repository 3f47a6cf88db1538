/-
  Rows of bars that a call owns; slices.Concat and slices.Grow of bars.
-/
import Derived.Test.YticohpimkicphaaYs
import Derived.Lib.AppendZeros
namespace Go.Proofs.Yticohpimkicphaa
open Go.RowKit

def cellsB : List BrE → List Value
  | [] => []
  | y :: r => .int .i64 y.f0 :: .int .i64 y.f1 :: .int .i64 y.f2 :: .int .i64 y.f3 :: cellsB r
theorem cellsB_len : ∀ bs : List BrE, (cellsB bs).length = bs.length * 4
  | [] => rfl
  | y :: r => by
    have := cellsB_len r
    simp only [cellsB, List.length_cons]
    omega
theorem cellsB_app : ∀ xs ys : List BrE, cellsB (xs ++ ys) = cellsB xs ++ cellsB ys
  | [], _ => rfl
  | y :: r, ys => by
    simp only [cellsB, List.cons_append]
    rw [cellsB_app r ys]
theorem cellsB_one : ∀ (bs : List BrE), ∀ u ∈ cellsB bs, u.oneCell' = true
  | [], u, h => by simp [cellsB] at h
  | y :: r, u, h => by
    simp only [cellsB, List.mem_cons] at h
    rcases h with rfl | rfl | rfl | rfl | h
    · rfl
    · rfl
    · rfl
    · rfl
    · exact cellsB_one r u h
theorem cellsB_at : ∀ (bs : List BrE) (k : Nat), k < bs.length → (cellsB bs)[k * 4]? = some (.int .i64 (bs.getD k BrE.zero).f0) ∧ (cellsB bs)[k * 4 + 1]? = some (.int .i64 (bs.getD k BrE.zero).f1) ∧ (cellsB bs)[k * 4 + 2]? = some (.int .i64 (bs.getD k BrE.zero).f2) ∧ (cellsB bs)[k * 4 + 3]? = some (.int .i64 (bs.getD k BrE.zero).f3)
  | [], _, h => by simp at h
  | y :: r, 0, _ => ⟨rfl, rfl, rfl, rfl⟩
  | y :: r, k + 1, h => by
    have h2 := cellsB_at r k (by simpa using h)
    rw [show (k + 1) * 4 = k * 4 + 1 + 1 + 1 + 1 by omega, show k * 4 + 1 + 1 + 1 + 1 + 1 = (k * 4 + 1) + 1 + 1 + 1 + 1 by omega, show k * 4 + 1 + 1 + 1 + 1 + 2 = (k * 4 + 2) + 1 + 1 + 1 + 1 by omega, show k * 4 + 1 + 1 + 1 + 1 + 3 = (k * 4 + 3) + 1 + 1 + 1 + 1 by omega]
    simp only [cellsB, List.getElem?_cons_succ, List.getD_cons_succ]
    exact h2
theorem cellsB_of {w : World} {b off : Nat} {bs : List BrE} (h : ∀ k, k < bs.length → w.cell? ⟨b, off + k * 4, none⟩ = some (.int .i64 (bs.getD k BrE.zero).f0) ∧ w.cell? ⟨b, off + k * 4 + 1, none⟩ = some (.int .i64 (bs.getD k BrE.zero).f1) ∧ w.cell? ⟨b, off + k * 4 + 2, none⟩ = some (.int .i64 (bs.getD k BrE.zero).f2) ∧ w.cell? ⟨b, off + k * 4 + 3, none⟩ = some (.int .i64 (bs.getD k BrE.zero).f3)) :
    ∀ j u, (cellsB bs)[j]? = some u → w.cell? ⟨b, off + j, none⟩ = some u := by
  intro j u hj
  have hlt : j < (cellsB bs).length := by
    rcases Nat.lt_or_ge j (cellsB bs).length with h1 | h1
    · exact h1
    · rw [List.getElem?_eq_none h1] at hj; cases hj
  rw [cellsB_len] at hlt
  obtain ⟨k, hk⟩ : ∃ k, k = j / 4 := ⟨_, rfl⟩
  have hkl : k < bs.length := by omega
  obtain ⟨c0, c1, c2, c3⟩ := cellsB_at bs k hkl
  obtain ⟨d0, d1, d2, d3⟩ := h k hkl
  have hr : j = k * 4 ∨ j = k * 4 + 1 ∨ j = k * 4 + 2 ∨ j = k * 4 + 3 := by omega
  rcases hr with rfl | rfl | rfl | rfl
  · rw [← hj, c0]; exact d0
  · rw [← hj, c1]; exact d1
  · rw [← hj, c2]; exact d2
  · rw [← hj, c3]; exact d3

/-- A row of bars. -/
def OwnB (w : World) (B : Nat) (v : Value) (bs : List BrE) : Prop := w.ownsRow B 78 4 v bs.length (cellsB bs)
theorem OwnB.nil (w : World) (B : Nat) : OwnB w B (.slice none 0 0) [] := World.ownsRow_nil _ _ _ _
theorem OwnB.lit (w : World) {B : Nat} (hB : B ≤ w.heap.size) : OwnB (w.alloc (.cells #[] 78)) B (.slice (some ⟨w.heap.size, 0, none⟩) 0 0) [] :=
  World.ownsRow_lit w #[] 0 hB (by unfold maxLen; omega) rfl
theorem OwnB.below {w w' : World} {B : Nat} {v : Value} {bs : List BrE} (h : OwnB w B v bs) (hb : Below w.heap.size w w') : OwnB w' B v bs := kept_below h hb
theorem OwnB.base {w : World} {B B' : Nat} {v : Value} {bs : List BrE} (h : OwnB w B v bs) (hB : B' ≤ B) : OwnB w B' v bs := by
  refine ⟨h.1, ?_⟩
  rcases h.2 with h2 | ⟨g, cap, cur, e, hg, hh⟩
  · exact .inl h2
  · exact .inr ⟨g, cap, cur, e, Nat.le_trans hB hg, hh⟩
theorem OwnB.form {w : World} {B : Nat} {v : Value} {bs : List BrE} (h : OwnB w B v bs) : ∃ A c, v = .slice A bs.length c := by
  rcases h.2 with ⟨rfl, h2⟩ | ⟨g, cap, cur, e, _⟩
  · exact ⟨none, 0, by rw [h2]⟩
  · exact ⟨_, _, e⟩
theorem OwnB.sl {w : World} {B : Nat} {v : Value} {bs : List BrE} (h : OwnB w B v bs) : ∃ A c, v = .slice A bs.length c ∧ SlBr w A bs.length bs := by
  rcases h.2 with ⟨e, h2⟩ | ⟨g, cap, cur, e, hg, hh, _⟩
  · have : bs = [] := List.eq_nil_of_length_eq_zero h2
    subst this
    exact ⟨none, 0, e, SlBr.nil w⟩
  · refine ⟨some ⟨g, 0, none⟩, cap, e, rfl, fun _ => ⟨g, 0, rfl, ?_, fun k hk => ?_⟩⟩
    · rcases Nat.lt_or_ge g w.heap.size with h' | h'
      · exact h'
      · rw [Array.getElem?_eq_none h'] at hh; cases hh
    · obtain ⟨c0, c1, c2, c3⟩ := cellsB_at bs k hk
      have hc := World.ownsRow.cells h (g := g) (by rw [e]; rfl)
      rw [Nat.zero_add]
      have a0 := hc _ _ c0
      have a1 := hc _ _ c1
      have a2 := hc _ _ c2
      have a3 := hc _ _ c3
      rw [add_off] at a0 a1 a2 a3
      exact ⟨a0, a1, a2, a3⟩

/-- 'append(row, bars...)'. -/
theorem wp_appB {o : Oper} {a : Act} {w : World} {K : Act → World → Prop} {Q : Exit → Act → World → Prop} (s x : Operand)
    (ho : o.op = .call { callee := .builtin .append, args := #[s, x], argTypes := #[31, 31] })
    (B : Nat) (v : Value) (xs : List BrE) (hs : a.eval s = v) (hown : OwnB w B v xs) (b off m c : Nat) (us : List BrE) (hx : a.eval x = .slice (some ⟨b, off, none⟩) m c)
    (hc : SlBr w (some ⟨b, off, none⟩) m us) (hn : xs.length + m ≤ 1048576) (hB : B ≤ w.heap.size)
    (h : ∀ v' w', OwnB w' B v' (xs ++ us) → w.grownBy w' v.ownBlock → (v'.ownBlock = v.ownBlock ∨ v'.ownBlock = some w.heap.size) → K (a.put o.dst v') w') : o.wp Try.prog a w K Q := by
  obtain ⟨i0, hi, hz0, hz1, hz2⟩ := info_parts Brinfo
  have hul : us.length = m := hc.1
  obtain ⟨v', w', hr, h2, h3, h4, h5⟩ := run_append_own_at (P := Try.prog) w B 31 o.type 78 i0 (.agg #[.int .i64 0, .int .i64 0, .int .i64 0, .int .i64 0]) 4 32 Try.underlying31 hi hz0 hz1 hz2 rfl (by decide) v xs.length (cellsB xs) hown ⟨b, off, none⟩ m c (cellsB us) (by rw [cellsB_len, hul])
    (by
      intro j u hj
      rw [Go.WideShapes.add_plain]
      refine cellsB_of (fun k hk => ?_) j u hj
      exact hc.cell (by omega)) (cellsB_one us) (by unfold maxLen; omega) (by omega) hB
  unfold Oper.wp execOp
  simp only [ho, resolve, invoke, builtin, Sem.run_bind, Sem.run_pure, Result.andThen_ok, List.map_toArray, List.map_cons, List.map_nil, hs, hx, hr]
  refine h v' w' ?_ h3 h5
  unfold OwnB
  rw [List.length_append, hul, cellsB_app]
  exact h2
theorem wpAppB {ops : Array Oper} {rest : List Oper} {o : Oper} {a : Act} {w : World} {Q : Exit → Act → World → Prop} (hgd : o.guard = none) (s x : Operand)
    (ho : o.op = .call { callee := .builtin .append, args := #[s, x], argTypes := #[31, 31] })
    (B : Nat) (v : Value) (xs : List BrE) (hs : a.eval s = v) (hown : OwnB w B v xs) (b off m c : Nat) (us : List BrE) (hx : a.eval x = .slice (some ⟨b, off, none⟩) m c)
    (hc : SlBr w (some ⟨b, off, none⟩) m us) (hn : xs.length + m ≤ 1048576) (hB : B ≤ w.heap.size)
    (h : ∀ v' w', OwnB w' B v' (xs ++ us) → w.grownBy w' v.ownBlock → (v'.ownBlock = v.ownBlock ∨ v'.ownBlock = some w.heap.size) → wpList Try.prog ops Q rest (a.put o.dst v') w') : wpList Try.prog ops Q (o :: rest) a w :=
  wpList_plain hgd fun _ hK => wp_appB s x ho B v xs hs hown b off m c us hx hc hn hB fun v' w' h1 h2 h3 => hK _ _ (h v' w' h1 h2 h3)
theorem stepAppB {ops : Array Oper} {o : Oper} {a : Act} {w : World} {K : Act → World → Prop} {Q : Exit → Act → World → Prop} {E : Prop} (hgd : o.guard = none) (s x : Operand)
    (ho : o.op = .call { callee := .builtin .append, args := #[s, x], argTypes := #[31, 31] })
    (B : Nat) (v : Value) (xs : List BrE) (hs : a.eval s = v) (hown : OwnB w B v xs) (b off m c : Nat) (us : List BrE) (hx : a.eval x = .slice (some ⟨b, off, none⟩) m c)
    (hc : SlBr w (some ⟨b, off, none⟩) m us) (hn : xs.length + m ≤ 1048576) (hB : B ≤ w.heap.size)
    (h : ∀ v' w', OwnB w' B v' (xs ++ us) → w.grownBy w' v.ownBlock → (v'.ownBlock = v.ownBlock ∨ v'.ownBlock = some w.heap.size) → K (a.put o.dst v') w') :
    if Region.wanted o (yielded ops a.tmps) = true then Oper.wp Try.prog o a w K Q else E := by
  have hw : Region.wanted o (yielded ops a.tmps) = true := by simp [Region.wanted, hgd]
  rw [if_pos hw]
  exact wp_appB s x ho B v xs hs hown b off m c us hx hc hn hB h

set_option maxRecDepth 100000 in
set_option maxHeartbeats 1600000 in
theorem growB_any (n : Nat) (w : World) (hn : n ≤ 16) :
    Calls Try.prog 75 #[.slice none 0 0, .int .i64 (n : Int)] w fun e w' => ∃ V, e = .returned V ∧ OwnB w' w.heap.size V [] ∧ Below w.heap.size w w' := by
  by_cases h0 : n = 0
  · subst h0
    go_enter Try.func75, Try.ntmps75
    go_wp2
    go_ret
    exact ⟨_, rfl, OwnB.nil _ _, Below.refl _ _⟩
  · obtain ⟨i0, hi, hz0, hz1, hz2⟩ := info_parts Brinfo
    have hpos : (0 : Int) < (n : Int) := by omega
    have hcapl : grownCap w n 0 78 ≤ maxLen := grownCap_le_maxLen w n 0 78 (by unfold maxLen; omega)
    have hcge := grownCap_ge w n 0 78
    have hr := Lib.run_append_nil_zeros (P := Try.prog) w 31 3 31 78 i0 _ .i64 .i64 Try.underlying31 Try.underlying3 hi hz0 n (by omega) (by rw [hz1]; decide) (by omega) (by rw [hz2]; omega)
    generalize grownCap w n 0 78 = cap at *
    have HO := Lib.hid (show OwnB (w.drew.alloc (.cells (Builtin.zeroCells (Value.agg #[.int .i64 0, .int .i64 0, .int .i64 0, .int .i64 0]).cells n ++ Builtin.zeroCells (Value.agg #[.int .i64 0, .int .i64 0, .int .i64 0, .int .i64 0]).cells (cap - n)) 78)) w.heap.size (.slice (some ⟨w.heap.size, 0, none⟩) 0 cap) [] from
      World.ownsRow_made w.drew _ cap (Nat.le_refl _) hcapl (by rw [Array.size_append, size_zeroCells, size_zeroCells]; show n * 4 + (cap - n) * 4 = cap * 4; omega))
    have HR := Lib.hid hr
    have HCL := Lib.hid (And.intro hcapl hcge)
    clear hr hcapl hcge
    go_enter Try.func75, Try.ntmps75
    go_wp2_with (at_builtin; refine Lib.wpList_append_run _ rfl _ _ _ _ rfl _ _ rfl rfl _ _ HR.out ?_; refine Hid.out ?_)
    have hbw : Below w.heap.size w (w.drew.alloc (.cells (Builtin.zeroCells (Value.agg #[.int .i64 0, .int .i64 0, .int .i64 0, .int .i64 0]).cells n ++ Builtin.zeroCells (Value.agg #[.int .i64 0, .int .i64 0, .int .i64 0, .int .i64 0]).cells (cap - n)) 78)) := (Below.refl _ _).drew.alloc (Nat.le_refl _) _
    clear HR
    refine Lib.hid ?_
    obtain ⟨hcl, hcg⟩ := HCL.out
    have hc0 : (0 : Int) ≤ (cap : Int) := by omega
    clear hcg HCL
    go_wp2
    go_ret
    exact ⟨_, rfl, HO.out, hbw⟩

/-- The sum of the first k of two lengths. -/
def sz2 (a b k : Nat) : Nat := if k = 0 then 0 else if k = 1 then a else a + b
def ca2 (xs ys : List BrE) (k : Nat) : List BrE := if k = 0 then [] else if k = 1 then xs else xs ++ ys
set_option maxRecDepth 100000 in
set_option maxHeartbeats 3200000 in
theorem concatB_any (g b1 o1 k1 c1 b2 o2 k2 c2 : Nat) (xs ys : List BrE) (w : World) (h0 : w.cell? ⟨g, 0, none⟩ = some (.slice (some ⟨b1, o1, none⟩) k1 c1)) (h1 : w.cell? ⟨g, 1, none⟩ = some (.slice (some ⟨b2, o2, none⟩) k2 c2)) (HX : SlBr w (some ⟨b1, o1, none⟩) k1 xs) (HY : SlBr w (some ⟨b2, o2, none⟩) k2 ys) (hk : k1 + k2 ≤ 16) :
    Calls Try.prog 55 #[.slice (some ⟨g, 0, none⟩) 2 2] w fun e w' => ∃ V, e = .returned V ∧ OwnB w' w.heap.size V (xs ++ ys) ∧ Below w.heap.size w w' := by
  have HG := Lib.hid (fun W => growB_any (k1 + k2) W (by omega))
  have hxl := HX.1
  have hyl := HY.1
  have HHX := Lib.hid (fun W (hW : Below w.heap.size w W) => HX.below hW)
  have HHY := Lib.hid (fun W (hW : Below w.heap.size w W) => HY.below hW)
  have HXL := Lib.hid (And.intro hxl hyl)
  clear HX HY hxl hyl
  go_enter Try.func55, Try.ntmps55
  go_wp2_with fail
  go_loopg [3, 11] 2 (fun gh s x wr => ∃ k : Nat, k ≤ 2 ∧ gh = 2 - k ∧ x = .int .i64 (k : Int) ∧ s = .int .i64 ((sz2 k1 k2 k : Nat) : Int) ∧ w = wr)
  case atStart => exact ⟨0, by omega, by omega, rfl, rfl, rfl⟩
  case round =>
    obtain ⟨k, hk2, rfl, rfl, rfl, rfl⟩ := hrel
    have hk3 : k = 0 ∨ k = 1 ∨ k = 2 := by omega
    rcases hk3 with rfl | rfl | rfl
    · have e0 : sz2 k1 k2 0 = 0 := rfl
      rw [e0]
      clear e0
      go_wp2_with fail
      go_roundg 1
      case rel => exact ⟨1, by omega, rfl, rfl, by show Value.int .i64 _ = .int .i64 ((k1 : Nat) : Int); simp, rfl⟩
      case measure => omega
    · have e0 : sz2 k1 k2 1 = k1 := rfl
      rw [e0]
      clear e0
      go_wp2_with fail
      go_roundg 0
      case rel => exact ⟨2, by omega, rfl, rfl, by show Value.int .i64 _ = .int .i64 ((k1 + k2 : Nat) : Int); simp, rfl⟩
      case measure => omega
    · have e0 : sz2 k1 k2 2 = k1 + k2 := rfl
      rw [e0]
      clear e0
      go_wp2_with fail
      refine (HG.out _).mono ?_
      rintro e w1 ⟨V, rfl, hV, hb1⟩
      have HV := Lib.hid hV
      have d0 := cell_of hb1 h0
      have d1 := cell_of hb1 h1
      clear hV
      go_wp2_with fail
      go_loopg [6, 27] 2 (fun gh v x wr => ∃ k : Nat, k ≤ 2 ∧ gh = 2 - k ∧ x = .int .i64 (k : Int) ∧ OwnB wr w.heap.size v (ca2 xs ys k) ∧ Below w.heap.size w wr)
      case atStart => exact ⟨0, by omega, by omega, rfl, HV.out, hb1⟩
      case round =>
        clear d0 d1 hb1 HV
        obtain ⟨k, hk2, rfl, rfl, hown, hbr⟩ := hrel
        have HO := Lib.hid hown
        clear hown
        have d0 := cell_of hbr h0
        have d1 := cell_of hbr h1
        have hbs := hbr.size
        have hk3 : k = 0 ∨ k = 1 ∨ k = 2 := by omega
        rcases hk3 with rfl | rfl | rfl
        · go_wp2_with (at_builtin; refine wpAppB rfl _ _ rfl w.heap.size _ [] rfl HO.out b1 o1 k1 c1 xs rfl (HHX.out _ hbr) (by simp; omega) hbs ?_; intro v5 w5 hown5 hg5 _)
          go_roundg 1
          case rel => exact ⟨1, by omega, rfl, rfl, hown5, bw_from hbr (below_grown hg5 (fun j hj => (World.ownsRow.lt HO.out j hj).1) hbs)⟩
          case measure => omega
        · go_wp2_with (at_builtin; refine wpAppB rfl _ _ rfl w.heap.size _ xs rfl HO.out b2 o2 k2 c2 ys rfl (HHY.out _ hbr) (by rw [HXL.out.1]; omega) hbs ?_; intro v5 w5 hown5 hg5 _)
          go_roundg 0
          case rel => exact ⟨2, by omega, rfl, rfl, hown5, bw_from hbr (below_grown hg5 (fun j hj => (World.ownsRow.lt HO.out j hj).1) hbs)⟩
          case measure => omega
        · go_wp2
          go_ret
          exact ⟨_, rfl, HO.out, hbr⟩
end Go.Proofs.Yticohpimkicphaa
