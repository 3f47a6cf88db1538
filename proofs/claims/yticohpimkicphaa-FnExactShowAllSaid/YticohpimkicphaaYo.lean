/-
  Slides: the reference's list of all places that are reached, as it lies in memory; the number of places.
-/
import Derived.Test.YticohpimkicphaaYm
namespace Go.Proofs.Yticohpimkicphaa
open Go.RowKit

theorem num_take {ps : List Int} {k : Nat} (h : k < ps.length) : numI 0 (ps.take (k + 1)) = 4 * numI 0 (ps.take k) + ps.getD k 0 := by
  rw [take_snoc h]
  unfold numI
  rw [List.foldl_append]
  rfl
theorem VN.take {n k : Nat} {ps : List Int} (h : VN n ps) (hk : k ≤ n) : VN k (ps.take k) := by
  refine ⟨by rw [List.length_take, h.1]; omega, fun p hp => h.2 p (List.mem_of_mem_take hp)⟩
theorem VN.at {n k : Nat} {ps : List Int} (h : VN n ps) (hk : k < n) : 0 ≤ ps.getD k 0 ∧ ps.getD k 0 < 4 := by
  have hk' : k < ps.length := by rw [h.1]; exact hk
  rw [List.getD_eq_getElem?_getD, List.getElem?_eq_getElem hk']
  exact h.2 _ (List.getElem_mem hk')

set_option maxHeartbeats 800000 in
theorem l13Number_any (A : Option Addr) (n c : Nat) (ps : List Int) (w : World) (H : SlI w A n ps) (hv : VN n ps) (hn : n ≤ 4) :
    Calls Try.prog 66 #[.slice A n c] w fun e w' => e = .returned (.int .i64 (numI 0 ps)) ∧ w = w' := by
  have HV := Lib.hid hv
  have HN := Lib.hid (fun k (hk : k ≤ n) => num_256 (hv.take hk) (by omega))
  have hl := H.length
  have HL := Lib.hid hl
  clear hv hl
  go_enter Try.func66, Try.ntmps66
  go_wp2_with fail
  go_loop [3, 4] (fun x i => ∃ k : Nat, k ≤ n ∧ i = .int .i64 k ∧ x = .int .i64 (numI 0 (ps.take k))) (fun _ i => n - (intOf i).toNat)
  case atStart => exact ⟨0, Nat.zero_le _, rfl, rfl⟩
  case round =>
    obtain ⟨k, hk, rfl, rfl⟩ := hrel
    obtain ⟨z0, z1⟩ := HN.out k hk
    by_cases hlt : k < n
    · have HT := Lib.hid (num_take (ps := ps) (k := k) (by rw [HL.out]; exact hlt))
      obtain ⟨p0, p1⟩ := HV.out.at hlt
      obtain ⟨b, off, rfl, hb, hc⟩ := H.get hlt
      have hlt2 : (k : Int) < (n : Int) := by omega
      generalize numI 0 (ps.take k) = Z at *
      generalize ps.getD k 0 = p at *
      clear H
      go_wp2_with fail
      go_round
      case rel => exact ⟨k + 1, by omega, by go_num, by rw [HT.out]⟩
      case measure => simp [intOf]; omega
    · have hkk : k = n := by omega
      subst hkk
      have HF := Lib.hid (show ps.take k = ps by rw [List.take_of_length_le (by rw [HL.out]; exact Nat.le_refl _)])
      rw [HF.out]
      rw [HF.out] at z0 z1
      obtain ⟨Z, hZ⟩ : ∃ Z, numI 0 ps = Z := ⟨_, rfl⟩
      rw [hZ] at z0 z1 ⊢
      have HZ := Lib.hid hZ
      clear H hZ
      go_wp2_with fail
      go_ret
      exact ⟨ret_int HZ.out.symm, rfl⟩

/-- The list of all that is reached, as a slice. -/
def SlW (w : World) (A : Option Addr) (all : List Nd) : Prop :=
  ∃ b off, A = some ⟨b, off, none⟩ ∧ b < w.heap.size ∧ ∀ j, j < all.length → (∃ A' c', w.cell? ⟨b, off + j * 4, none⟩ = some (.slice A' (all.getD j Nd.zero).pl.length c') ∧ SlI w A' (all.getD j Nd.zero).pl.length (all.getD j Nd.zero).pl) ∧
    w.cell? ⟨b, off + j * 4 + 1, none⟩ = some (.int .i64 (all.getD j Nd.zero).bf) ∧ w.cell? ⟨b, off + j * 4 + 2, none⟩ = some (.int .i64 (all.getD j Nd.zero).mv) ∧ w.cell? ⟨b, off + j * 4 + 3, none⟩ = some (.int .i64 ((all.getD j Nd.zero).pt.length : Int))
theorem SlW.below {w w' : World} {A : Option Addr} {all : List Nd} (h : SlW w A all) (hb : Below w.heap.size w w') : SlW w' A all := by
  obtain ⟨b, off, e, hl, hc⟩ := h
  refine ⟨b, off, e, Nat.lt_of_lt_of_le hl hb.size, fun j hj => ?_⟩
  obtain ⟨⟨A', c', h1, h2⟩, h3, h4, h5⟩ := hc j hj
  exact ⟨⟨A', c', cell_of hb h1, h2.below hb⟩, cell_of hb h3, cell_of hb h4, cell_of hb h5⟩

/-- What the reference keeps: the list, the marks. -/
def RS (w wr : World) (out : List Nd) (qv : Value) (cs : List Value) : Prop :=
  wr.ownsRow w.heap.size 63 4 qv out.length cs ∧ qv.ownBlock ≠ some (w.heap.size + 1) ∧
  (∀ j, j < out.length → HSl w wr qv (cs.getD (j * 4) undef) (out.getD j Nd.zero).pl ∧ cs.getD (j * 4 + 1) undef = .int .i64 (out.getD j Nd.zero).bf ∧ cs.getD (j * 4 + 2) undef = .int .i64 (out.getD j Nd.zero).mv ∧ cs.getD (j * 4 + 3) undef = .int .i64 ((out.getD j Nd.zero).pt.length : Int)) ∧
  w.heap.size + 1 < wr.heap.size ∧ ∀ k, k < 256 → wr.cell? ⟨w.heap.size + 1, k, none⟩ = some (.bool (snB out k)) ∧ wr.frozen? ⟨w.heap.size + 1, k, none⟩ = false
theorem RS.below {w wr wr' : World} {out : List Nd} {qv : Value} {cs : List Value} (h : RS w wr out qv cs) (hb : Below wr.heap.size wr wr') : RS w wr' out qv cs := by
  obtain ⟨h1, h2, h3, h4, h5⟩ := h
  exact ⟨kept_below h1 hb, h2, fun j hj => ⟨(h3 j hj).1.below hb, (h3 j hj).2⟩, Nat.lt_of_lt_of_le h4 hb.size, fun k hk => ⟨cell_of hb (h5 k hk).1, (hb.frozen (p := ⟨w.heap.size + 1, k, none⟩) h4).trans (h5 k hk).2⟩⟩
theorem RS.head {w wr : World} {out : List Nd} {qv : Value} {cs : List Value} (h : RS w wr out qv cs) {i : Nat} (hi : i < out.length) :
    ∃ g cap, qv = .slice (some ⟨g, 0, none⟩) out.length cap ∧ g < wr.heap.size ∧ w.heap.size ≤ g ∧ g ≠ w.heap.size + 1 ∧ wr.cell? ⟨g, i * 4, none⟩ = some (cs.getD (i * 4) undef) ∧ wr.cell? ⟨g, i * 4 + 3, none⟩ = some (.int .i64 ((out.getD i Nd.zero).pt.length : Int)) := by
  obtain ⟨h1, h2, h3, h4, h5⟩ := h
  obtain ⟨g, cap, hv, hBg, hlt⟩ := World.ownsRow.form h1 (by omega)
  have hlen : cs.length = out.length * 4 := h1.1
  have hne : g ≠ w.heap.size + 1 := fun e => h2 (by rw [hv, e]; rfl)
  rw [hv] at h1
  have hat : ∀ j, j < cs.length → wr.cell? ⟨g, j, none⟩ = some (cs.getD j undef) := fun j hj => by
    rw [World.ownsRow.cellAt h1 j (by rw [← hlen]; exact hj), List.getD_eq_getElem?_getD, List.getElem?_eq_getElem hj]
    rfl
  refine ⟨g, cap, hv, hlt, hBg, hne, hat _ (by omega), ?_⟩
  rw [hat _ (by omega), (h3 i hi).2.2.2]
theorem RS.sl {w wr : World} {out : List Nd} {qv : Value} {cs : List Value} (h : RS w wr out qv cs) (h0 : 0 < out.length) : ∃ A c, qv = .slice A out.length c ∧ SlW wr A out := by
  obtain ⟨g, cap, hv, hlt, -, -, -⟩ := h.head h0
  obtain ⟨h1, h2, h3, h4, h5⟩ := h
  have hlen : cs.length = out.length * 4 := h1.1
  rw [hv] at h1
  have hat : ∀ j, j < cs.length → wr.cell? ⟨g, j, none⟩ = some (cs.getD j undef) := fun j hj => by
    rw [World.ownsRow.cellAt h1 j (by rw [← hlen]; exact hj), List.getD_eq_getElem?_getD, List.getElem?_eq_getElem hj]
    rfl
  refine ⟨_, cap, hv, g, 0, rfl, hlt, fun j hj => ?_⟩
  obtain ⟨⟨A, c, e, hs, _⟩, e1, e2, e3⟩ := h3 j hj
  rw [Nat.zero_add]
  refine ⟨⟨A, c, ?_, hs⟩, ?_, ?_, ?_⟩
  · rw [hat _ (by omega), e]
  · rw [hat _ (by omega), e1]
  · rw [hat _ (by omega), e2]
  · rw [hat _ (by omega), e3]
theorem grown_set (w : World) (p : Addr) (u : Value) : w.grownBy (w.setCell p u) (some p.block) :=
  ⟨rfl, rfl, rfl, by simp, fun k _ hk => Below.heap_setCell w p u k (fun e => hk (by rw [e]))⟩
theorem cgetD_left {cs us : List Value} {j : Nat} (h : j < cs.length) : (cs ++ us).getD j undef = cs.getD j undef := vgetD_left h
theorem cgetD_right {cs us : List Value} {j r : Nat} (h : j = cs.length + r) : (cs ++ us).getD j undef = us.getD r undef := by
  rw [List.getD_eq_getElem?_getD, List.getD_eq_getElem?_getD, List.getElem?_append_right (by omega)]
  congr 2
  omega
theorem RS.slide {w wr w2 w4 w5 : World} {out : List Nd} {qv qv' v : Value} {cs : List Value} {m : Nat} {xs : List Int} (_ : RS w wr out qv cs) (_ : Below wr.heap.size wr w2) (hv : HSl w w2 qv v xs)
    (hb4 : Below (w2.setCell ⟨w.heap.size + 1, m, none⟩ (.bool true)).heap.size (w2.setCell ⟨w.heap.size + 1, m, none⟩ (.bool true)) w4)
    (hg5 : w4.grownBy w5 qv.ownBlock) (hloc : qv'.ownBlock = qv.ownBlock ∨ qv'.ownBlock = some w4.heap.size) : HSl w w5 qv' v xs := by
  have hgs := grown_set w2 ⟨w.heap.size + 1, m, none⟩ (.bool true)
  have a1 := ((hv.grown hgs (fun g e => .inl (by injection e with e; exact e.symm))).below hb4)
  refine (a1.grown hg5 (fun g e => .inr e)).queue hloc (fun A n c a e ha => ?_)
  obtain ⟨A', c', e', _, hn'⟩ := a1
  rw [e'] at e
  injection e with e1 e2 e3
  subst e1
  have := (hn' a ha).2.2
  omega
theorem hsl_new2 {w wr w2 : World} {A : Option Addr} {n c g N cap : Nat} {xs : List Int} (h : OwnI w2 wr.heap.size (.slice A n c) xs) (hl : xs.length = n) (hg : g < wr.heap.size) (hw : w.heap.size + 1 < wr.heap.size) : HSl w w2 (.slice (some ⟨g, 0, none⟩) N cap) (.slice A n c) xs := by
  subst hl
  refine ⟨A, c, rfl, h.sl.2, fun a ha => ?_⟩
  obtain ⟨h1, h2⟩ := h.blk ha
  refine ⟨by omega, ?_, h2⟩
  show some g ≠ some a.block
  intro e
  injection e with e
  omega
/-- One more is reached. -/
theorem RS.push {w wr w2 w4 w5 : World} {out : List Nd} {qv qv' nv : Value} {cs : List Value} {z : Nd} {m : Nat} (h : RS w wr out qv cs) (hb2 : Below wr.heap.size wr w2) (hnv : HSl w w2 qv nv z.pl) (hm : numI 0 z.pl = (m : Int))
    (hb4 : Below (w2.setCell ⟨w.heap.size + 1, m, none⟩ (.bool true)).heap.size (w2.setCell ⟨w.heap.size + 1, m, none⟩ (.bool true)) w4)
    (hq5 : w5.ownsRow w.heap.size 63 4 qv' (out.length + 1) (cs ++ [nv, .int .i64 z.bf, .int .i64 z.mv, .int .i64 (z.pt.length : Int)])) (hg5 : w4.grownBy w5 qv.ownBlock) (hloc : qv'.ownBlock = qv.ownBlock ∨ qv'.ownBlock = some w4.heap.size) :
    RS w w5 (out ++ [z]) qv' (cs ++ [nv, .int .i64 z.bf, .int .i64 z.mv, .int .i64 (z.pt.length : Int)]) := by
  have h' := h.below hb2
  obtain ⟨h1, h2, h3, h4, h5⟩ := h'
  have hlen : cs.length = out.length * 4 := h1.1
  have hgs := grown_set w2 ⟨w.heap.size + 1, m, none⟩ (.bool true)
  have hs3 : w2.heap.size ≤ w4.heap.size := by have a := hgs.size; have b := hb4.size; omega
  have slide : ∀ v xs, HSl w w2 qv v xs → HSl w w5 qv' v xs := fun v xs hv => by
    have a1 := ((hv.grown hgs (fun g e => .inl (by injection e with e; exact e.symm))).below hb4)
    refine (a1.grown hg5 (fun g e => .inr e)).queue hloc (fun A n c a e ha => ?_)
    obtain ⟨A', c', e', _, hn'⟩ := a1
    rw [e'] at e
    injection e with e1 e2 e3
    subst e1
    have := (hn' a ha).2.2
    omega
  refine ⟨by rw [List.length_append, List.length_singleton]; exact hq5, ?_, fun j hj => ?_, by have := hg5.size; omega, fun k hk => ?_⟩
  · rcases hloc with e | e
    · rw [e]; exact h2
    · rw [e]; intro e2; injection e2 with e2; omega
  · rw [List.length_append, List.length_singleton] at hj
    rcases Nat.lt_or_ge j out.length with hjl | hjl
    · rw [getD_left hjl, cgetD_left (by omega), cgetD_left (by omega), cgetD_left (by omega), cgetD_left (by omega)]
      exact ⟨slide _ _ (h3 j hjl).1, (h3 j hjl).2⟩
    · have hjj : j = out.length := by omega
      subst hjj
      rw [getD_last, cgetD_right (r := 0) (by omega), cgetD_right (r := 1) (by omega), cgetD_right (r := 2) (by omega), cgetD_right (r := 3) (by omega)]
      exact ⟨slide _ _ hnv, rfl, rfl, rfl⟩
  · obtain ⟨c1, c2⟩ := h5 k hk
    have hne : some (w.heap.size + 1) ≠ qv.ownBlock := fun e => h2 e.symm
    have e3 : (w2.setCell ⟨w.heap.size + 1, m, none⟩ (.bool true)).cell? ⟨w.heap.size + 1, k, none⟩ = some (.bool (snB (out ++ [z]) k)) := by
      rw [sn_snoc hm]
      by_cases hkm : k = m
      · subst hkm
        rw [if_pos rfl]
        exact World.cell?_setCell_same' _ _ _ (by rw [c1]; rfl)
      · rw [if_neg hkm, ← c1]
        apply World.cell?_setCell_other
        intro e
        injection e with e1 e2
        exact hkm e2.symm
    have f3 : (w2.setCell ⟨w.heap.size + 1, m, none⟩ (.bool true)).frozen? ⟨w.heap.size + 1, k, none⟩ = false := by
      rw [← c2]
      exact World.frozen?_setCell _ _ _ _
    have hl3 : w.heap.size + 1 < (w2.setCell ⟨w.heap.size + 1, m, none⟩ (.bool true)).heap.size := by rw [World.size_setCell]; exact h4
    refine ⟨cell_grown hg5 hne (cell_of hb4 e3), ?_⟩
    rw [hg5.frozen_far ⟨w.heap.size + 1, k, none⟩ (by show w.heap.size + 1 < _; omega) hne]
    exact (hb4.frozen (p := ⟨w.heap.size + 1, k, none⟩) hl3).trans f3
end Go.Proofs.Yticohpimkicphaa
