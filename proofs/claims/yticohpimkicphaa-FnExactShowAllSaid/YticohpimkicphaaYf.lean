/-
  Slides: moves; the codes of places and moves.
-/
import Derived.Test.YticohpimkicphaaYd
import Derived.Test.YticohpimkicphaaApp
import Derived.IntWalk
import Derived.Lib.LazyBuf
namespace Go.Proofs.Yticohpimkicphaa
open Go.RowKit

/-- The numbers below k that a test takes. -/
def selL (q : Nat → Bool) : Nat → List Int
  | 0 => []
  | k + 1 => if q k then selL q k ++ [(k : Int)] else selL q k
theorem sel_yes {q : Nat → Bool} {k : Nat} (h : q k = true) : selL q (k + 1) = selL q k ++ [(k : Int)] := if_pos h
theorem sel_no {q : Nat → Bool} {k : Nat} (h : q k = false) : selL q (k + 1) = selL q k := if_neg (by rw [h]; simp)
theorem sel_len (q : Nat → Bool) (k : Nat) : (selL q k).length ≤ k := by
  induction k with
  | zero => simp [selL]
  | succ k ih =>
    cases h : q k
    · rw [sel_no h]; omega
    · rw [sel_yes h, List.length_append]; simp; omega

def GivesI (ys : List Int) (w : World) (e : Ending) (w' : World) : Prop := ∃ v, e = .returned v ∧ OwnI w' w.heap.size v ys ∧ Below w.heap.size w w'

/-- append(own, src...) at a row of integers. -/
theorem wpAppL {ops : Array Oper} {rest : List Oper} {o : Oper} {a : Act} {w : World} {Q : Exit → Act → World → Prop} (hgd : o.guard = none) (s x : Operand)
    (ho : o.op = .call { callee := .builtin .append, args := #[s, x], argTypes := #[22, 22] })
    (B : Nat) (v : Value) (xs : List Int) (hs : a.eval s = v) (hown : OwnI w B v xs) (b off m c : Nat) (us : List Int) (hx : a.eval x = .slice (some ⟨b, off, none⟩) m c)
    (hc : SlI w (some ⟨b, off, none⟩) m us) (hn : xs.length + m ≤ 2097152) (hB : B ≤ w.heap.size)
    (h : ∀ v' w', OwnI w' B v' (xs ++ us) → w.grownBy w' v.ownBlock → Below B w w' → wpList Try.prog ops Q rest (a.put o.dst v') w') : wpList Try.prog ops Q (o :: rest) a w := by
  obtain ⟨i0, hi, hz0, hz1, hz2⟩ := info_parts info64
  have hul := hc.length
  refine wpList_append_own w hgd s x _ ho B 2 i0 (.int .i64 0) 1 8 Try.underlying22 hi hz0 hz1 hz2 rfl (by decide) v xs.length _ hs hown ⟨b, off, none⟩ m c (us.map (Value.int .i64)) hx (by rw [List.length_map, hul, Nat.mul_one]) ?_ ?_ ?_ ?_ hB ?_
  · intro j y hj
    have hjm : j < m := by
      rcases Nat.lt_or_ge j m with h1 | h1
      · exact h1
      · rw [List.getElem?_eq_none (by rw [List.length_map]; omega)] at hj; cases hj
    obtain ⟨b', off', e, _, hcc⟩ := hc.get hjm
    injection e with e
    injection e with e1 e2
    subst e1; subst e2
    rw [Go.WideShapes.add_plain, hcc, ← hj]
    rw [List.getElem?_map, List.getElem?_eq_getElem (by omega), List.getD_eq_getElem?_getD, List.getElem?_eq_getElem (by omega)]
    rfl
  · intro u hu
    obtain ⟨i, _, rfl⟩ := List.mem_map.1 hu
    rfl
  · unfold maxLen; omega
  · omega
  · intro v' w' h1 h2 _
    refine h v' w' ?_ h2 (below_grown h2 (fun k hk => (World.ownsRow.lt hown k hk).1) hB)
    unfold OwnI
    rw [List.length_append, hul, List.map_append]
    exact h1

/-- A number of an owned row: read, and written. -/
theorem OwnI.put {w : World} {B n c k : Nat} {A : Option Addr} {xs : List Int} (h : OwnI w B (.slice A n c) xs) (hk : k < xs.length) : ∃ g, A = some ⟨g, 0, none⟩ ∧ B ≤ g ∧ n = xs.length ∧ w.cell? ⟨g, k, none⟩ = some (.int .i64 (xs.getD k 0)) ∧ w.frozen? ⟨g, k, none⟩ = false ∧
    ∀ u : Int, OwnI (w.setCell ⟨g, k, none⟩ (.int .i64 u)) B (.slice A n c) (xs.set k u) := by
  have hn := h.sl.1
  subst hn
  have hown := h
  unfold OwnI at hown
  obtain ⟨g, cap, hv, hBg, hlt⟩ := World.ownsRow.form hown (by omega)
  injection hv with e1 e2 e3
  subst e1; subst e3
  refine ⟨g, rfl, hBg, rfl, ?_, World.ownsRow.frozenAt hown k, fun u => ?_⟩
  · rw [World.ownsRow.cellAt hown k (by omega)]
    simp [List.getD_eq_getElem?_getD, hk]
  · have h2 := (World.ownsRow.stored hown k (.int .i64 u)).1
    unfold OwnI
    rw [List.length_set, List.map_set]
    exact h2

set_option maxRecDepth 100000 in
theorem clone_any (A : Option Addr) (n c : Nat) (xs : List Int) (w : World) (H : SlI w A n xs) (hn : 0 < n ∧ n ≤ 1048576) :
    Calls Try.prog 71 #[.slice A n c] w (GivesI xs w) := by
  obtain ⟨n0, n1⟩ := hn
  obtain ⟨b, off, rfl, hb, _⟩ := H.get (k := 0) n0
  have HH := Lib.hid (H.below (bw_alloc (Below.refl _ _) (.cells #[] 2)))
  have hnil : ∀ W, (binOp .eql 22 (.slice (some ⟨b, off, none⟩) n c) (.slice none 0 0)).run Try.prog W = .ok (.bool false) W := fun W => Lib.run_eql_slice_nil W _ _ _ n c 0 0 Try.underlying22
  clear H
  go_enter Try.func71, Try.ntmps71
  go_wp2_with (at_builtin; refine wpAppL rfl _ _ rfl w.heap.size _ [] rfl (OwnI.lit w (Nat.le_refl _)) b off n c xs rfl HH.out (by simp; omega) (by simp) ?_; intro v1 w1 hown1 hg1 hb1)
  obtain ⟨A', c', rfl⟩ := hown1.form
  go_ret
  exact ⟨_, rfl, by simpa using hown1, (bw_alloc (Below.refl _ _) _).trans hb1⟩
set_option maxRecDepth 100000 in
theorem l00Own_any (A : Option Addr) (n c : Nat) (xs : List Int) (w : World) (H : SlI w A n xs) (hn : 0 < n ∧ n ≤ 1048576) :
    Calls Try.prog 78 #[.slice A n c] w (GivesI xs w) := by
  obtain ⟨n0, n1⟩ := hn
  obtain ⟨b, off, rfl, hb, _⟩ := H.get (k := 0) n0
  have HH := Lib.hid (H.below (bw_alloc (Below.refl _ _) (.cells #[] 2)))
  clear H
  go_enter Try.func78, Try.ntmps78
  go_wp2_with (at_builtin; refine wpAppL rfl _ _ rfl w.heap.size _ [] rfl (OwnI.lit w (Nat.le_refl _)) b off n c xs rfl HH.out (by simp; omega) (by simp) ?_; intro v1 w1 hown1 hg1 hb1)
  obtain ⟨A', c', rfl⟩ := hown1.form
  go_ret
  exact ⟨_, rfl, by simpa using hown1, (bw_alloc (Below.refl _ _) _).trans hb1⟩

/-- The places behind a move. -/
def mvL (ps : List Int) (mv : Nat) : List Int := ps.set (mv / 2) (if mv % 2 = 0 then ps.getD (mv / 2) 0 + 1 else ps.getD (mv / 2) 0 - 1)
theorem mv_len (ps : List Int) (mv : Nat) : (mvL ps mv).length = ps.length := by unfold mvL; rw [List.length_set]
def mvOk (ss : List Int) (n : Nat) (bs : List BrE) (ps : List Int) (mv : Nat) : Bool := plB ss (mvL ps mv) n && myB bs (mvL ps mv)
theorem mv_at {ps : List Int} {mv i : Nat} (hi : i < ps.length) : (mvL ps mv).getD i 0 = if i = mv / 2 then (if mv % 2 = 0 then ps.getD (mv / 2) 0 + 1 else ps.getD (mv / 2) 0 - 1) else ps.getD i 0 := by
  unfold mvL
  rw [List.getD_eq_getElem?_getD, List.getElem?_set]
  by_cases h : mv / 2 = i
  · subst h; simp [hi]
  · rw [if_neg h, if_neg (Ne.symm h), List.getD_eq_getElem?_getD]
/-- Where the places are there, only the moved glass counts. -/
theorem mv_pl {ss ps : List Int} {n mv : Nat} (h : plB ss ps n = true) (hmv : mv / 2 < n) : plB ss (mvL ps mv) n = inB ((mvL ps mv).getD (mv / 2) 0) 0 (ss.getD (mv / 2) 0 - 1) := by
  obtain ⟨h1, h2⟩ := of_decide_eq_true h
  cases hb : inB ((mvL ps mv).getD (mv / 2) 0) 0 (ss.getD (mv / 2) 0 - 1)
  · exact pl_bad hmv hb
  · refine pl_all (by rw [mv_len, h1]) fun i hi => ?_
    by_cases hii : i = mv / 2
    · subst hii; exact hb
    · rw [mv_at (by omega), if_neg hii]; exact h2 i hi

set_option maxRecDepth 100000 in
set_option maxHeartbeats 1600000 in
theorem moved_any (A : Option Addr) (n c : Nat) (ss : List Int) (B : Option Addr) (m d : Nat) (bs : List BrE) (P : Option Addr) (e : Nat) (ps : List Int) (mv : Nat) (w : World) (HS : SlI w A n ss) (HB : SlBr w B m bs) (HP : SlI w P n ps) (hn : n ≤ 4) (hm : m ≤ 8) (hst : stBd ss n) (hbd : brBd bs m n) (hpl : plB ss ps n = true) (hmv : mv < 2 * n) :
    Calls Try.prog 64 #[.agg #[.slice A n c, .slice B m d], .slice P n e, .int .i64 (mv : Int)] w fun e w' => ∃ V, e = .returned (.tuple #[V, .bool (mvOk ss n bs ps mv)]) ∧ OwnI w' w.heap.size V (mvL ps mv) ∧ Below w.heap.size w w' := by
  have hl := HP.length
  obtain ⟨p1, p2⟩ := (pl_at hpl).2 (mv / 2) (by omega)
  obtain ⟨q1, q2⟩ := hst (mv / 2) (by omega)
  have HCL := Lib.hid (fun W (hW : Below w.heap.size w W) => clone_any P n e ps W (HP.below hW) ⟨by omega, by omega⟩)
  have HPO := Lib.hid (fun A' c' W (hW : Below w.heap.size w W) (h : SlI W A' n (mvL ps mv)) => placesOk_any A n c ss (.slice B m d) A' n c' (mvL ps mv) W (HS.below hW) h (by omega) (by omega) hst)
  have HMY := Lib.hid (fun A' c' W (hW : Below w.heap.size w W) (h : SlI W A' n (mvL ps mv)) => mayStand_any (.slice A n c) B m d bs A' n c' (mvL ps mv) W (HB.below hW) h (by omega) (by omega) hbd)
  have hlen := mv_len ps mv
  have hdiv : (mv : Int).tdiv 2 = ((mv / 2 : Nat) : Int) := by rw [Int.tdiv_eq_ediv_of_nonneg (by omega)]; omega
  have hmod : (mv : Int).tmod 2 = ((mv % 2 : Nat) : Int) := by rw [Int.tmod_eq_emod_of_nonneg (by omega)]; omega
  have hb0 : Below w.heap.size w (w.alloc (.cells #[.slice A n c, .slice B m d] 33)) := bw_alloc (Below.refl _ _) _
  have hgl : mv / 2 < n := by omega
  have hgi : ((mv / 2 : Nat) : Int) < (n : Int) := by omega
  unfold mvOk
  have HMV := Lib.hid (show mvL ps mv = ps.set (mv / 2) (if mv % 2 = 0 then ps.getD (mv / 2) 0 + 1 else ps.getD (mv / 2) 0 - 1) from rfl)
  clear HS HB HP hst hbd hpl
  generalize mvL ps mv = qs at *
  obtain ⟨G, hG⟩ : ∃ G, mv / 2 = G := ⟨_, rfl⟩
  rw [hG] at hdiv p1 p2 q1 q2 hgl hgi HMV
  obtain ⟨r, hr⟩ : ∃ r, mv % 2 = r := ⟨_, rfl⟩
  rw [hr] at hmod HMV
  have hr2 : r < 2 := by omega
  go_enter Try.func64, Try.ntmps64
  go_wp2_with fail
  refine (HCL.out _ hb0).mono ?_
  rintro e w1 ⟨V, rfl, GV, hb1⟩
  have hs1 := hb1.size
  obtain ⟨A', c', rfl⟩ := GV.form
  have hc0 : w1.cell? ⟨w.heap.size, 0, none⟩ = some (.slice A n c) := cell_of hb1 (by go_simp)
  have hc1 : w1.cell? ⟨w.heap.size, 1, none⟩ = some (.slice B m d) := cell_of hb1 (by go_simp)
  rw [hl] at GV ⊢
  obtain ⟨g, rfl, hBg, hnl, hcc, hff, hput⟩ := GV.put (k := G) (by rw [hl]; exact hgl)
  have hs1' : w.heap.size + 1 ≤ w1.heap.size := by simpa using hs1
  have hBg' : w.heap.size + 1 ≤ g := by simpa using hBg
  have hbw := bw_trans hb0 hb1
  clear hb1 hs1 hBg HCL hnl
  by_cases hr0 : r = 0
  · subst hr0
    have HQ := Lib.hid (hput (ps.getD G 0 + 1))
    have hqs : ps.set G (ps.getD G 0 + 1) = qs := by rw [HMV.out]; simp
    rw [hqs] at HQ
    have hq := HQ.out
    have hbs : Below w.heap.size w (w1.setCell ⟨g, G, none⟩ (.int .i64 (ps.getD G 0 + 1))) := bw_set hbw (by simp <;> omega) _
    have hd0 : (w1.setCell ⟨g, G, none⟩ (.int .i64 (ps.getD G 0 + 1))).cell? ⟨w.heap.size, 0, none⟩ = some (.slice A n c) := by rw [cell_other (by simp <;> omega)]; exact hc0
    have hd1 : (w1.setCell ⟨g, G, none⟩ (.int .i64 (ps.getD G 0 + 1))).cell? ⟨w.heap.size, 1, none⟩ = some (.slice B m d) := by rw [cell_other (by simp <;> omega)]; exact hc1
    have hsq : SlI (w1.setCell ⟨g, G, none⟩ (.int .i64 (ps.getD G 0 + 1))) (some ⟨g, 0, none⟩) n qs := by
      have h := hq.sl; rw [← h.1] at h; exact h.2
    have HSQ := Lib.hid hsq
    have HBS := Lib.hid hbs
    have HD := Lib.hid (And.intro hd0 hd1)
    clear hput hqs hq hsq hbs hd0 hd1 HMV
    have hne1 : ¬ g = w.heap.size := by omega
    have hne2 : ¬ w.heap.size = g := by omega
    generalize ps.getD G 0 = u at *
    go_wp2_with fail
    refine (HPO.out _ _ _ HBS.out HSQ.out).mono ?_
    rintro e w2 ⟨rfl, hb2⟩
    have HX := Lib.hid (HQ.out.below hb2)
    have hbz := bw_trans HBS.out hb2
    obtain ⟨hd0, hd1⟩ := HD.out
    have he0 := cell_of hb2 hd0
    have he1 := cell_of hb2 hd1
    have HSQ2 := Lib.hid (HSQ.out.below hb2)
    have hww : w.heap.size ≤ w.heap.size + 1 := by omega
    clear HPO HQ HSQ HBS HD hd0 hd1 hcc hff hc0 hc1 hne1 hne2
    cases hpo : plB ss qs n
    · clear HMY
      go_wp2
      go_ret2
      exact ⟨_, by rw [hpo]; rfl, by have h := HX.out.base (B' := w.heap.size) (by simp); simpa using h, hbz⟩
    · have HM := Lib.hid (HMY.out _ c' _ hbz HSQ2.out)
      clear HMY
      go_wp2_with fail
      refine HM.out.mono ?_
      rintro e w3 ⟨rfl, hb3⟩
      have HX3 := Lib.hid (HX.out.below hb3)
      go_wp2
      go_ret2
      exact ⟨_, by rw [hpo]; rfl, by have h := HX3.out.base (B' := w.heap.size) (by simp); simpa using h, bw_trans hbz hb3⟩
  · obtain rfl : r = 1 := by omega
    have HQ := Lib.hid (hput (ps.getD G 0 - 1))
    have hqs : ps.set G (ps.getD G 0 - 1) = qs := by rw [HMV.out]; simp
    rw [hqs] at HQ
    have hq := HQ.out
    have hbs : Below w.heap.size w (w1.setCell ⟨g, G, none⟩ (.int .i64 (ps.getD G 0 - 1))) := bw_set hbw (by simp <;> omega) _
    have hd0 : (w1.setCell ⟨g, G, none⟩ (.int .i64 (ps.getD G 0 - 1))).cell? ⟨w.heap.size, 0, none⟩ = some (.slice A n c) := by rw [cell_other (by simp <;> omega)]; exact hc0
    have hd1 : (w1.setCell ⟨g, G, none⟩ (.int .i64 (ps.getD G 0 - 1))).cell? ⟨w.heap.size, 1, none⟩ = some (.slice B m d) := by rw [cell_other (by simp <;> omega)]; exact hc1
    have hsq : SlI (w1.setCell ⟨g, G, none⟩ (.int .i64 (ps.getD G 0 - 1))) (some ⟨g, 0, none⟩) n qs := by
      have h := hq.sl; rw [← h.1] at h; exact h.2
    have HSQ := Lib.hid hsq
    have HBS := Lib.hid hbs
    have HD := Lib.hid (And.intro hd0 hd1)
    clear hput hqs hq hsq hbs hd0 hd1 HMV
    have hne1 : ¬ g = w.heap.size := by omega
    have hne2 : ¬ w.heap.size = g := by omega
    generalize ps.getD G 0 = u at *
    go_wp2_with fail
    refine (HPO.out _ _ _ HBS.out HSQ.out).mono ?_
    rintro e w2 ⟨rfl, hb2⟩
    have HX := Lib.hid (HQ.out.below hb2)
    have hbz := bw_trans HBS.out hb2
    obtain ⟨hd0, hd1⟩ := HD.out
    have he0 := cell_of hb2 hd0
    have he1 := cell_of hb2 hd1
    have HSQ2 := Lib.hid (HSQ.out.below hb2)
    have hww : w.heap.size ≤ w.heap.size + 1 := by omega
    clear HPO HQ HSQ HBS HD hd0 hd1 hcc hff hc0 hc1 hne1 hne2
    cases hpo : plB ss qs n
    · clear HMY
      go_wp2
      go_ret2
      exact ⟨_, by rw [hpo]; rfl, by have h := HX.out.base (B' := w.heap.size) (by simp); simpa using h, hbz⟩
    · have HM := Lib.hid (HMY.out _ c' _ hbz HSQ2.out)
      clear HMY
      go_wp2_with fail
      refine HM.out.mono ?_
      rintro e w3 ⟨rfl, hb3⟩
      have HX3 := Lib.hid (HX.out.below hb3)
      go_wp2
      go_ret2
      exact ⟨_, by rw [hpo]; rfl, by have h := HX3.out.base (B' := w.heap.size) (by simp); simpa using h, bw_trans hbz hb3⟩

end Go.Proofs.Yticohpimkicphaa
