/-
  ScenesOf: plain law; in the program and in the reference.
-/
import Derived.Test.YtnjndlngkoadfaaPn
import Derived.Test.YtnjndlngkoadfaaPc
namespace Go.Proofs.Ytnjndlngkoadfaa
open Go.RowKit

/-- The page k is as the one before. -/
def sameP (s : ByteArray) (k : Nat) : Prop := ∃ (h : k < s.size) (_ : 0 < k), s[k - 1] = s[k]
/-- The last scene is longer. -/
def addT (xs : List ScE) (e : Int) : List ScE := xs.set (xs.length - 1) ⟨(xs.getD (xs.length - 1) ScE.zero).f0, (xs.getD (xs.length - 1) ScE.zero).f1 + e⟩
/-- The scenes of the first k pages. -/
noncomputable def scP (s : ByteArray) (e : Int) : Nat → List ScE
  | 0 => []
  | k + 1 => @ite _ (sameP s k) (Classical.propDecidable _) (addT (scP s e k) e) (scP s e k ++ [⟨s.extract k (k + 1), e⟩])
theorem scP_yes {s : ByteArray} {e : Int} {k : Nat} (h : sameP s k) : scP s e (k + 1) = addT (scP s e k) e := by
  show @ite _ (sameP s k) (Classical.propDecidable _) _ _ = _
  exact @if_pos _ (Classical.propDecidable _) h _ _ _
theorem scP_no {s : ByteArray} {e : Int} {k : Nat} (h : ¬ sameP s k) : scP s e (k + 1) = scP s e k ++ [⟨s.extract k (k + 1), e⟩] := by
  show @ite _ (sameP s k) (Classical.propDecidable _) _ _ = _
  exact @if_neg _ (Classical.propDecidable _) h _ _ _
theorem addT_len (xs : List ScE) (e : Int) : (addT xs e).length = xs.length := by unfold addT; rw [List.length_set]
theorem scP_len (s : ByteArray) (e : Int) (k : Nat) : (scP s e k).length ≤ k := by
  induction k with
  | zero => exact Nat.le_refl 0
  | succ k ih =>
    by_cases h : sameP s k
    · rw [scP_yes h, addT_len]; omega
    · rw [scP_no h, List.length_append]; simp; omega
theorem not_same0 (s : ByteArray) : ¬ sameP s 0 := fun ⟨_, h, _⟩ => absurd h (by omega)
theorem scP_pos {s : ByteArray} {e : Int} {k : Nat} (h : 0 < k) : 0 < (scP s e k).length := by
  induction k with
  | zero => omega
  | succ k ih =>
    by_cases hs : sameP s k
    · rw [scP_yes hs, addT_len]
      obtain ⟨_, h0, _⟩ := hs
      exact ih h0
    · rw [scP_no hs, List.length_append]; simp
theorem set_in {xs : List ScE} {i : Nat} {z y : ScE} (h : y ∈ xs.set i z) : y ∈ xs ∨ y = z := List.mem_or_eq_of_mem_set h
theorem getD_mem {xs : List ScE} {j : Nat} (h : j < xs.length) : xs.getD j ScE.zero ∈ xs := by
  rw [List.getD_eq_getElem?_getD, List.getElem?_eq_getElem h]; exact List.getElem_mem h
theorem scP_bd {s : ByteArray} {e : Int} {k : Nat} (he : 1 ≤ e ∧ e ≤ 100) (hk : k ≤ s.size) : ∀ y ∈ scP s e k, y.f0.size ≤ 1 ∧ 0 ≤ y.f1 ∧ y.f1 ≤ 100 * (k : Int) := by
  induction k with
  | zero => intro y hy; cases hy
  | succ k ih =>
    have ih := ih (by omega)
    intro y hy
    by_cases hs : sameP s k
    · rw [scP_yes hs] at hy
      rcases set_in hy with h | h
      · have := ih y h; omega
      · have h0 : 0 < (scP s e k).length := by
          obtain ⟨_, h0, _⟩ := hs
          exact scP_pos h0
        have := ih _ (getD_mem (xs := scP s e k) (j := (scP s e k).length - 1) (by omega))
        rw [h]
        dsimp only
        omega
    · rw [scP_no hs, List.mem_append] at hy
      rcases hy with h | h
      · have := ih y h; omega
      · rw [List.mem_singleton.1 h]
        dsimp only
        rw [ByteArray.size_extract]
        omega
theorem scP_at {s : ByteArray} {e : Int} {k j : Nat} (he : 1 ≤ e ∧ e ≤ 100) (hk : k ≤ s.size) (hj : j < (scP s e k).length) : ((scP s e k).getD j ScE.zero).f0.size ≤ 1 ∧ 0 ≤ ((scP s e k).getD j ScE.zero).f1 ∧ ((scP s e k).getD j ScE.zero).f1 ≤ 100 * (k : Int) := scP_bd he hk _ (getD_mem hj)
theorem push_set (xs : List ScE) (x : ByteArray) (e : Int) : (xs ++ [(⟨x, 0⟩ : ScE)]).set ((xs ++ [(⟨x, 0⟩ : ScE)]).length - 1) ⟨x, e⟩ = xs ++ [(⟨x, e⟩ : ScE)] := by
  rw [List.length_append, List.length_singleton, Nat.add_sub_cancel, List.set_append_right _ _ (Nat.le_refl _), Nat.sub_self]
  rfl
theorem push_last (xs : List ScE) (x : ScE) : (xs ++ [x]).getD ((xs ++ [x]).length - 1) ScE.zero = x := by
  rw [List.length_append, List.length_singleton, Nat.add_sub_cancel, List.getD_eq_getElem?_getD]; simp

noncomputable def soC (s : ByteArray) (e : Int) : Int := if lnB s 60 then (if inB e 1 100 then (if vsB (scP s e s.size) (scP s e s.size).length then 0 else 5) else 2) else 1
noncomputable def soL (s : ByteArray) (e : Int) : List ScE := if soC s e = 0 then scP s e s.size else []
theorem so_1 {s : ByteArray} {e : Int} (h : lnB s 60 = false) : soC s e = 1 ∧ soL s e = [] := by
  have h1 : soC s e = 1 := by unfold soC; rw [h]; rfl
  exact ⟨h1, by unfold soL; rw [h1]; rfl⟩
theorem so_2 {s : ByteArray} {e : Int} (h : lnB s 60 = true) (h2 : inB e 1 100 = false) : soC s e = 2 ∧ soL s e = [] := by
  have h1 : soC s e = 2 := by unfold soC; rw [h, h2]; rfl
  exact ⟨h1, by unfold soL; rw [h1]; rfl⟩
theorem so_5 {s : ByteArray} {e : Int} (h : lnB s 60 = true) (h2 : inB e 1 100 = true) (h3 : vsB (scP s e s.size) (scP s e s.size).length = false) : soC s e = 5 ∧ soL s e = [] := by
  have h1 : soC s e = 5 := by unfold soC; rw [h, h2, h3]; rfl
  exact ⟨h1, by unfold soL; rw [h1]; rfl⟩
theorem so_0 {s : ByteArray} {e : Int} (h : lnB s 60 = true) (h2 : inB e 1 100 = true) (h3 : vsB (scP s e s.size) (scP s e s.size).length = true) : soC s e = 0 ∧ soL s e = scP s e s.size := by
  have h1 : soC s e = 0 := by unfold soC; rw [h, h2, h3]; rfl
  exact ⟨h1, by unfold soL; rw [h1]; rfl⟩
/-- Scenes and a code. -/
def GivesSC (ys : List ScE) (C : Int) (w : World) (e : Ending) (w' : World) : Prop := ∃ v, e = .returned (.tuple #[v, .int .i64 C]) ∧ OwnSc w' w.heap.size v ys ∧ Below w.heap.size w w'
theorem OwnSc.last {w : World} {B : Nat} {v : Value} {xs : List ScE} (h : OwnSc w B v xs) (h0 : 0 < xs.length) : ∃ g c, v = .slice (some ⟨g, 0, none⟩) xs.length c ∧ B ≤ g ∧ g < w.heap.size ∧
    w.cell? ⟨g, (xs.length - 1) * 2 + 1, none⟩ = some (.int .i64 (xs.getD (xs.length - 1) ScE.zero).f1) ∧ w.frozen? ⟨g, (xs.length - 1) * 2 + 1, none⟩ = false ∧
    (∀ e : Int, OwnSc (w.setCell ⟨g, (xs.length - 1) * 2 + 1, none⟩ (.int .i64 ((xs.getD (xs.length - 1) ScE.zero).f1 + e))) B v (addT xs e)) := by
  obtain ⟨A, c, rfl⟩ := h.form
  obtain ⟨g, rfl, hB, _, c0, c1, hf, p1, _⟩ := h.put (k := xs.length - 1) (by omega)
  refine ⟨g, c, rfl, hB, World.block_lt_of_cell? w _ c1, c1, hf _, fun e => p1 _⟩
theorem OwnSc.lastPush {w : World} {B : Nat} {v : Value} {xs : List ScE} {x : ByteArray} (h : OwnSc w B v (xs ++ [⟨x, 0⟩])) (e : Int) : ∃ g c, v = .slice (some ⟨g, 0, none⟩) (xs.length + 1) c ∧ B ≤ g ∧ g < w.heap.size ∧
    w.cell? ⟨g, xs.length * 2 + 1, none⟩ = some (.int .i64 0) ∧ w.frozen? ⟨g, xs.length * 2 + 1, none⟩ = false ∧
    OwnSc (w.setCell ⟨g, xs.length * 2 + 1, none⟩ (.int .i64 e)) B v (xs ++ [⟨x, e⟩]) := by
  have hl : (xs ++ [(⟨x, 0⟩ : ScE)]).length = xs.length + 1 := by rw [List.length_append]; rfl
  obtain ⟨A, c, rfl⟩ := h.form
  rw [hl] at h ⊢
  obtain ⟨g, rfl, hB, _, c0, c1, hf, p1, _⟩ := h.put (k := xs.length) (by rw [hl]; omega)
  have hz : (xs ++ [(⟨x, 0⟩ : ScE)]).getD xs.length ScE.zero = ⟨x, 0⟩ := by rw [List.getD_eq_getElem?_getD]; simp
  rw [hz] at c1 p1
  refine ⟨g, c, rfl, hB, World.block_lt_of_cell? w _ c1, c1, hf _, ?_⟩
  have h2 := p1 e
  have h3 := push_set xs x e
  rw [hl] at h3
  rw [Nat.add_sub_cancel] at h3
  rw [h3] at h2
  exact h2

set_option maxRecDepth 100000 in
set_option maxHeartbeats 3200000 in
theorem iScenesOf_any (s : ByteArray) (e : Int) (w : World) (hs : s.size ≤ 1048576) :
    Calls Try.prog 26 #[.string s, .int .i64 e] w (GivesSC (soL s e) (soC s e) w) := by
  cases h1 : lnB s 60
  · have HR := Lib.hid (so_1 (e := e) h1)
    have hc := pagesCode_is (e := e) h1 rfl w (by omega)
    rw [if_neg (by decide)] at hc
    rw [HR.out.1, HR.out.2]
    go_enter Try.func26, Try.ntmps26
    go_wp2_with (go_at_call 38; refine (hc).mono ?_; rintro e w1 ⟨rfl, rfl⟩)
    go_ret2
    exact ⟨_, rfl, OwnSc.nil _ _, Below.refl _ _⟩
  cases h2 : inB e 1 100
  · have HR := Lib.hid (so_2 h1 h2)
    have hc := pagesCode_is h1 h2 w (by omega)
    rw [if_pos rfl, if_neg (by decide)] at hc
    rw [HR.out.1, HR.out.2]
    go_enter Try.func26, Try.ntmps26
    go_wp2_with (go_at_call 38; refine (hc).mono ?_; rintro e w1 ⟨rfl, rfl⟩)
    go_ret2
    exact ⟨_, rfl, OwnSc.nil _ _, Below.refl _ _⟩
  have hc := pagesCode_is h1 h2 w (by omega)
  rw [if_pos rfl, if_pos rfl] at hc
  have he := inB_true.1 h2
  obtain ⟨-, -, hs60⟩ := lnB_of h1
  have hsz : s.size ≤ 60 := by omega
  have HE := Lib.hid he
  have HR := Lib.hid (And.intro (so_5 h1 h2) (so_0 h1 h2))
  clear he hs h1 h2 hs60
  go_enter Try.func26, Try.ntmps26
  go_wp2_with (go_at_call 38; refine (hc).mono ?_; rintro e w1 ⟨rfl, rfl⟩)
  clear hc
  go_loopg [7, 18] s.size (fun gh v x wr => ∃ k : Nat, k ≤ s.size ∧ gh = s.size - k ∧ OwnSc wr w.heap.size v (scP s e k) ∧ x = .int .i64 k ∧ Below w.heap.size w wr)
  case atStart => exact ⟨0, by omega, by omega, OwnSc.lit w (Nat.le_refl _), rfl, bw_alloc (Below.refl _ _) _⟩
  case round =>
    obtain ⟨k, hk, rfl, hown, rfl, hbr⟩ := hrel
    have hl := scP_len s e k
    have HO := Lib.hid hown
    clear hown
    by_cases hlt : k < s.size
    · have i1 : (k : Int) < (s.size : Int) := by omega
      by_cases hk0 : k = 0
      · subst hk0
        obtain ⟨he1, he2⟩ := HE.out
        have HN := Lib.hid (scP_no (e := e) (not_same0 s))
        clear HR
        go_wp2_with fail
        refine wp_region_bel (by kernel_rfl) (by kernel_rfl) ?_
        repeat (go_big_quiet_step ((fail)))
        refine wpQuiet_nil ?_
        intro w2 hw'
        obtain ⟨tq, hw''⟩ := hw'
        have hw2 := tq.2
        rw [← hw''] at hw2
        clear hw'' tq
        obtain ⟨hcw2, hfw2⟩ := bcell hw2
        try (have hzw2 : w.heap.size < w2.heap.size := by (have h := hw2.size; (try simp at h); omega))
        try (have hyw2 : w.heap.size + 1 < w2.heap.size := by (have h := hw2.size; (try simp at h); omega))
        try (have hxw2 : w.heap.size + 1 + 1 < w2.heap.size := by (have h := hw2.size; (try simp at h); omega))
        try (have hvw2 : w.heap.size + 1 + 1 + 1 < w2.heap.size := by (have h := hw2.size; (try simp at h); omega))
        have hsz2 := (bw_trans hbr hw2).size
        go_wp2_with (at_builtin; refine wpAppSc rfl _ _ rfl _ _ _ rfl ((HO.out.below hw2).alloc _) _ ⟨s.extract 0 (0 + 1), 0⟩ rfl (by go_simp) (by go_simp) (by omega) (by simp; omega) ?_; intro v5 w5 hown5 hg5 hb5; refine Hid.out ?_)
        refine Lib.hid ?_
        obtain ⟨g, c, rfl, hBg, hlg, hcc, hff, hpp⟩ := hown5.lastPush e
        have HP := Lib.hid hpp
        have hbz := bw_from (bw_alloc (bw_trans hbr hw2) _) hb5
        clear hown5 hpp hg5 hb5
        obtain ⟨L, hL⟩ : ∃ L, (scP s e 0).length = L := ⟨_, rfl⟩
        rw [hL] at hcc hff HP hl ⊢
        have hLi : (L : Int) < ((L + 1 : Nat) : Int) := by omega
        have hLs : ((L + 1 : Nat) : Int) - 1 = (L : Int) := by omega
        go_wp2_with fail
        go_roundg (s.size - (0 + 1))
        case rel => exact ⟨0 + 1, by omega, rfl, by rw [HN.out]; exact HP.out, by go_num, by (repeat (first | exact Below.refl _ _ | refine bw_drew ?_ | refine bw_drewN ?_ _ | refine bw_set ?_ (by simp; try omega) _ | refine bw_alloc ?_ _ | refine bw_trans ?_ (by assumption) | assumption))⟩
        case measure => omega
      obtain ⟨j, hj⟩ : ∃ j : Nat, (k : Int) - 1 = (j : Int) := ⟨k - 1, by omega⟩
      have hj1 : j < s.size := by omega
      have hk1 : ((k : Int) == 0) = false := by simp; omega
      have hk2 : ¬ ((k : Int) = 0) := by omega
      have hjk : j = k - 1 := by omega
      by_cases hsm : s[j] = s[k]
      · have hsame : sameP s k := ⟨hlt, by omega, by subst hjk; exact hsm⟩
        have HN := Lib.hid (scP_yes (e := e) hsame)
        have hpos := scP_pos (s := s) (e := e) (show 0 < k by omega)
        have heq : ((s[j].toNat : Int) != (s[k].toNat : Int)) = false := by rw [hsm]; simp
        have hbd := (scP_at HE.out (show k ≤ s.size by omega) (show (scP s e k).length - 1 < (scP s e k).length by omega)).2
        obtain ⟨he1, he2⟩ := HE.out
        have hhd := HO.out.last hpos
        obtain ⟨L, hL⟩ : ∃ L : Nat, (scP s e k).length = L + 1 := ⟨(scP s e k).length - 1, by omega⟩
        rw [hL, Nat.add_sub_cancel] at hhd hbd
        obtain ⟨T, hT⟩ : ∃ T, ((scP s e k).getD L ScE.zero).f1 = T := ⟨_, rfl⟩
        rw [hT] at hhd hbd
        have HT := Lib.hid hT
        clear hT
        obtain ⟨g, c, rfl, hBg, hlg, hcc, hff, hpp⟩ := hhd
        clear HR hsame hsm hpp hjk hk0
        go_wp2_with fail
        refine wp_region_bel (by kernel_rfl) (by kernel_rfl) ?_
        repeat (go_big_quiet_step ((fail)))
        refine wpQuiet_nil ?_
        intro w2 hw'
        obtain ⟨tq, hw''⟩ := hw'
        have hw2 := tq.2
        rw [← hw''] at hw2
        clear hw'' tq
        obtain ⟨hcw2, hfw2⟩ := bcell hw2
        try (have hzw2 : w.heap.size < w2.heap.size := by (have h := hw2.size; (try simp at h); omega))
        try (have hyw2 : w.heap.size + 1 < w2.heap.size := by (have h := hw2.size; (try simp at h); omega))
        try (have hxw2 : w.heap.size + 1 + 1 < w2.heap.size := by (have h := hw2.size; (try simp at h); omega))
        try (have hvw2 : w.heap.size + 1 + 1 + 1 < w2.heap.size := by (have h := hw2.size; (try simp at h); omega))
        have HP : Hid (OwnSc (w2.setCell ⟨g, L * 2 + 1, none⟩ (.int .i64 (T + e))) w.heap.size (.slice (some ⟨g, 0, none⟩) (L + 1) c) (addT (scP s e k) e)) := by
          obtain ⟨g', c', e', -, -, -, -, h⟩ := (HO.out.below hw2).last hpos
          injection e' with e1 e2 e3
          injection e1 with e1
          injection e1 with e1
          subst e1; subst e3
          have h2 := h e
          rw [hL, Nat.add_sub_cancel, HT.out] at h2
          exact h2
        have hc2 := cell_of hw2 hcc
        have hf2 := (hw2.frozen (p := ⟨g, L * 2 + 1, none⟩) hlg).trans hff
        have hlg2 := Nat.lt_of_lt_of_le hlg hw2.size
        have hLi : (L : Int) < ((L + 1 : Nat) : Int) := by omega
        have hLs : ((L + 1 : Nat) : Int) - 1 = (L : Int) := by omega
        go_wp2_with fail
        go_roundg (s.size - (k + 1))
        case rel => exact ⟨k + 1, by omega, rfl, by rw [HN.out]; exact HP.out, by go_num, by (repeat (first | exact Below.refl _ _ | refine bw_drew ?_ | refine bw_drewN ?_ _ | refine bw_set ?_ (by simp; try omega) _ | refine bw_alloc ?_ _ | refine bw_trans ?_ (by assumption) | assumption))⟩
        case measure => omega
      · have hsame : ¬ sameP s k := fun ⟨_, _, h⟩ => hsm (by subst hjk; exact h)
        obtain ⟨he1, he2⟩ := HE.out
        have HN := Lib.hid (scP_no (e := e) hsame)
        have heq : ((s[j].toNat : Int) != (s[k].toNat : Int)) = true := by
          simp only [bne_iff_ne, ne_eq]
          intro h
          exact hsm (UInt8.toNat_inj.1 (by omega))
        clear HR hsame hsm hjk hk0
        go_wp2_with fail
        refine wp_region_bel (by kernel_rfl) (by kernel_rfl) ?_
        repeat (go_big_quiet_step ((fail)))
        refine wpQuiet_nil ?_
        intro w2 hw'
        obtain ⟨tq, hw''⟩ := hw'
        have hw2 := tq.2
        rw [← hw''] at hw2
        clear hw'' tq
        obtain ⟨hcw2, hfw2⟩ := bcell hw2
        try (have hzw2 : w.heap.size < w2.heap.size := by (have h := hw2.size; (try simp at h); omega))
        try (have hyw2 : w.heap.size + 1 < w2.heap.size := by (have h := hw2.size; (try simp at h); omega))
        try (have hxw2 : w.heap.size + 1 + 1 < w2.heap.size := by (have h := hw2.size; (try simp at h); omega))
        try (have hvw2 : w.heap.size + 1 + 1 + 1 < w2.heap.size := by (have h := hw2.size; (try simp at h); omega))
        have hsz2 := (bw_trans hbr hw2).size
        go_wp2_with (at_builtin; refine wpAppSc rfl _ _ rfl _ _ _ rfl ((HO.out.below hw2).alloc _) _ ⟨s.extract k (k + 1), 0⟩ rfl (by go_simp) (by go_simp) (by omega) (by simp; omega) ?_; intro v5 w5 hown5 hg5 hb5; refine Hid.out ?_)
        refine Lib.hid ?_
        obtain ⟨g, c, rfl, hBg, hlg, hcc, hff, hpp⟩ := hown5.lastPush e
        have HP := Lib.hid hpp
        have hbz := bw_from (bw_alloc (bw_trans hbr hw2) _) hb5
        clear hown5 hpp hg5 hb5
        obtain ⟨L, hL⟩ : ∃ L, (scP s e k).length = L := ⟨_, rfl⟩
        rw [hL] at hcc hff HP hl ⊢
        have hLi : (L : Int) < ((L + 1 : Nat) : Int) := by omega
        have hLs : ((L + 1 : Nat) : Int) - 1 = (L : Int) := by omega
        go_wp2_with fail
        go_roundg (s.size - (k + 1))
        case rel => exact ⟨k + 1, by omega, rfl, by rw [HN.out]; exact HP.out, by go_num, by (repeat (first | exact Below.refl _ _ | refine bw_drew ?_ | refine bw_drewN ?_ _ | refine bw_set ?_ (by simp; try omega) _ | refine bw_alloc ?_ _ | refine bw_trans ?_ (by assumption) | assumption))⟩
        case measure => omega
    · have hkk : k = s.size := by omega
      subst hkk
      obtain ⟨A, c, rfl⟩ := HO.out.form
      have hbd := Lib.hid (fun j (hj : j < (scP s e s.size).length) => Nat.le_trans (scP_at HE.out (Nat.le_refl _) hj).1 (show 1 ≤ 9223372036854775807 by omega))
      cases hv : vsB (scP s e s.size) (scP s e s.size).length
      · have HV := Lib.hid (validScenes_is A _ c _ wr HO.out.sl.2 (by omega) hv hbd.out)
        obtain ⟨r1, r2⟩ := HR.out.1 hv
        have HQ := Lib.hid (And.intro r1 r2)
        clear HR r1 r2 hv
        go_wp2_with fail
        refine HV.out.mono ?_
        rintro e w2 ⟨rfl, hb2⟩
        go_wp2
        go_ret2
        exact ⟨_, by rw [HQ.out.1]; rfl, by rw [HQ.out.2]; exact OwnSc.nil _ _, bw_trans hbr hb2⟩
      · have HV := Lib.hid (validScenes_is A _ c _ wr HO.out.sl.2 (by omega) hv hbd.out)
        obtain ⟨r1, r2⟩ := HR.out.2 hv
        have HQ := Lib.hid (And.intro r1 r2)
        clear HR r1 r2 hv
        go_wp2_with fail
        refine HV.out.mono ?_
        rintro e w2 ⟨rfl, hb2⟩
        go_wp2
        go_ret2
        exact ⟨_, by rw [HQ.out.1]; rfl, by rw [HQ.out.2]; exact HO.out.below hb2, bw_trans hbr hb2⟩

set_option maxRecDepth 100000 in
set_option maxHeartbeats 3200000 in
theorem sScenesOf_any (s : ByteArray) (e : Int) (w : World) (hs : s.size ≤ 1048576) :
    Calls Try.prog 25 #[.string s, .int .i64 e] w (GivesSC (soL s e) (soC s e) w) := by
  cases h1 : lnB s 60
  · have HR := Lib.hid (so_1 (e := e) h1)
    have hc := Lib.hid (l08Pages_is h1 w (by omega))
    rw [HR.out.1, HR.out.2]
    go_enter Try.func25, Try.ntmps25
    go_wp2_with (go_at_call 35; refine (hc.out).mono ?_; rintro e w1 ⟨rfl, rfl⟩)
    go_ret2
    exact ⟨_, rfl, OwnSc.nil _ _, Below.refl _ _⟩
  cases h2 : inB e 1 100
  · have HR := Lib.hid (so_2 h1 h2)
    have hc := Lib.hid (l08Pages_is h1 w (by omega))
    rw [HR.out.1, HR.out.2]
    go_enter Try.func25, Try.ntmps25
    go_wp2_with (first | (go_at_call 35; refine (hc.out).mono ?_; rintro e w1 ⟨rfl, rfl⟩) | (go_at_call 36; refine (l08Each_is h2 _).mono ?_; rintro e w1 ⟨rfl, rfl⟩))
    go_ret2
    exact ⟨_, rfl, OwnSc.nil _ _, Below.refl _ _⟩
  have hc := Lib.hid (l08Pages_is h1 w (by omega))
  have hc2 := Lib.hid (l08Each_is h2 w)
  have he := inB_true.1 h2
  obtain ⟨-, -, hs60⟩ := lnB_of h1
  have hsz : s.size ≤ 60 := by omega
  have HE := Lib.hid he
  have HR := Lib.hid (And.intro (so_5 h1 h2) (so_0 h1 h2))
  clear he hs h1 h2 hs60
  go_enter Try.func25, Try.ntmps25
  go_wp2_with (first | (go_at_call 35; refine (hc.out).mono ?_; rintro e w1 ⟨rfl, rfl⟩) | (go_at_call 36; refine (hc2.out).mono ?_; rintro e w1 ⟨rfl, rfl⟩))
  clear hc hc2
  go_loopg [6, 7] s.size (fun gh v x wr => ∃ k : Nat, k ≤ s.size ∧ gh = s.size - k ∧ OwnSc wr w.heap.size v (scP s e k) ∧ x = .int .i64 k ∧ Below w.heap.size w wr)
  case atStart => exact ⟨0, by omega, by omega, OwnSc.lit w (Nat.le_refl _), rfl, bw_alloc (Below.refl _ _) _⟩
  case round =>
    obtain ⟨k, hk, rfl, hown, rfl, hbr⟩ := hrel
    have hl := scP_len s e k
    have HO := Lib.hid hown
    clear hown
    by_cases hlt : k < s.size
    · have i1 : (k : Int) < (s.size : Int) := by omega
      by_cases hk0 : k = 0
      · subst hk0
        have HN := Lib.hid (scP_no (e := e) (not_same0 s))
        clear HR
        go_wp2_with fail
        have hq1 : decide ((0 : Int) < 0) = false := by decide
        refine wp_region_bel (by kernel_rfl) (by kernel_rfl) ?_
        repeat (go_big_quiet_step ((fail)))
        refine wpQuiet_nil ?_
        intro w2 hw'
        obtain ⟨tq, hw''⟩ := hw'
        have hw2 := tq.2
        rw [← hw''] at hw2
        clear hw'' tq
        obtain ⟨hcw2, hfw2⟩ := bcell hw2
        try (have hzw2 : w.heap.size < w2.heap.size := by (have h := hw2.size; (try simp at h); omega))
        try (have hyw2 : w.heap.size + 1 < w2.heap.size := by (have h := hw2.size; (try simp at h); omega))
        try (have hxw2 : w.heap.size + 1 + 1 < w2.heap.size := by (have h := hw2.size; (try simp at h); omega))
        try (have hvw2 : w.heap.size + 1 + 1 + 1 < w2.heap.size := by (have h := hw2.size; (try simp at h); omega))
        have hsz2 := (bw_trans hbr hw2).size
        go_wp2_with (at_builtin; refine wpAppSc rfl _ _ rfl _ _ _ rfl ((HO.out.below hw2).alloc _) _ ⟨s.extract 0 (0 + 1), e⟩ rfl (by go_simp) (by go_simp) (by omega) (by simp; omega) ?_; intro v5 w5 hown5 hg5 hb5)
        have HP := Lib.hid hown5
        have hbz := bw_from (bw_alloc (bw_trans hbr hw2) _) hb5
        clear hown5 hg5 hb5
        go_wp2_with fail
        go_roundg (s.size - (0 + 1))
        case rel => exact ⟨0 + 1, by omega, rfl, by rw [HN.out]; exact HP.out, by go_num, hbz⟩
        case measure => omega
      obtain ⟨j, hj⟩ : ∃ j : Nat, (k : Int) - 1 = (j : Int) := ⟨k - 1, by omega⟩
      have hj1 : j < s.size := by omega
      have hk2 : 0 < (k : Int) := by omega
      have hk1 : decide (0 < (k : Int)) = true := decide_eq_true hk2
      have hjk : j = k - 1 := by omega
      by_cases hsm : s[j] = s[k]
      · have hsame : sameP s k := ⟨hlt, by omega, by subst hjk; exact hsm⟩
        have HN := Lib.hid (scP_yes (e := e) hsame)
        have hpos := scP_pos (s := s) (e := e) (show 0 < k by omega)
        have heq : ((s[j].toNat : Int) == (s[k].toNat : Int)) = true := by rw [hsm]; simp
        have hbd := (scP_at HE.out (show k ≤ s.size by omega) (show (scP s e k).length - 1 < (scP s e k).length by omega)).2
        obtain ⟨he1, he2⟩ := HE.out
        have hhd := HO.out.last hpos
        obtain ⟨L, hL⟩ : ∃ L : Nat, (scP s e k).length = L + 1 := ⟨(scP s e k).length - 1, by omega⟩
        rw [hL, Nat.add_sub_cancel] at hhd hbd
        obtain ⟨T, hT⟩ : ∃ T, ((scP s e k).getD L ScE.zero).f1 = T := ⟨_, rfl⟩
        rw [hT] at hhd hbd
        have HT := Lib.hid hT
        clear hT
        obtain ⟨g, c, rfl, hBg, hlg, hcc, hff, hpp⟩ := hhd
        have hk3 : 0 < k := by omega
        clear HR hsame hsm hpp hjk hk0 hk1 hk2
        go_wp2_with fail
        have hk1 : decide (0 < (k : Int)) = true := decide_eq_true (by omega)
        have hk2 : 0 < (k : Int) := by omega
        refine wp_region_bel (by kernel_rfl) (by kernel_rfl) ?_
        repeat (go_big_quiet_step ((fail)))
        refine wpQuiet_nil ?_
        intro w2 hw'
        obtain ⟨tq, hw''⟩ := hw'
        have hw2 := tq.2
        rw [← hw''] at hw2
        clear hw'' tq
        obtain ⟨hcw2, hfw2⟩ := bcell hw2
        try (have hzw2 : w.heap.size < w2.heap.size := by (have h := hw2.size; (try simp at h); omega))
        try (have hyw2 : w.heap.size + 1 < w2.heap.size := by (have h := hw2.size; (try simp at h); omega))
        try (have hxw2 : w.heap.size + 1 + 1 < w2.heap.size := by (have h := hw2.size; (try simp at h); omega))
        try (have hvw2 : w.heap.size + 1 + 1 + 1 < w2.heap.size := by (have h := hw2.size; (try simp at h); omega))
        have HP : Hid (OwnSc (w2.setCell ⟨g, L * 2 + 1, none⟩ (.int .i64 (T + e))) w.heap.size (.slice (some ⟨g, 0, none⟩) (L + 1) c) (addT (scP s e k) e)) := by
          obtain ⟨g', c', e', -, -, -, -, h⟩ := (HO.out.below hw2).last hpos
          injection e' with e1 e2 e3
          injection e1 with e1
          injection e1 with e1
          subst e1; subst e3
          have h2 := h e
          rw [hL, Nat.add_sub_cancel, HT.out] at h2
          exact h2
        have hc2 := cell_of hw2 hcc
        have hf2 := (hw2.frozen (p := ⟨g, L * 2 + 1, none⟩) hlg).trans hff
        have hlg2 := Nat.lt_of_lt_of_le hlg hw2.size
        have hLi : (L : Int) < ((L + 1 : Nat) : Int) := by omega
        have hLs : ((L + 1 : Nat) : Int) - 1 = (L : Int) := by omega
        go_wp2_with fail
        go_roundg (s.size - (k + 1))
        case rel => exact ⟨k + 1, by omega, rfl, by rw [HN.out]; exact HP.out, by go_num, by (repeat (first | exact Below.refl _ _ | refine bw_drew ?_ | refine bw_drewN ?_ _ | refine bw_set ?_ (by simp; try omega) _ | refine bw_alloc ?_ _ | refine bw_trans ?_ (by assumption) | assumption))⟩
        case measure => omega
      · have hsame : ¬ sameP s k := fun ⟨_, _, h⟩ => hsm (by subst hjk; exact h)
        have HN := Lib.hid (scP_no (e := e) hsame)
        have heq : ((s[j].toNat : Int) == (s[k].toNat : Int)) = false := by
          simp only [beq_eq_false_iff_ne, ne_eq]
          intro h
          exact hsm (UInt8.toNat_inj.1 (by omega))
        have hk3 : 0 < k := by omega
        clear HR hsame hsm hjk hk0 hk1 hk2
        go_wp2_with fail
        have hk1 : decide (0 < (k : Int)) = true := decide_eq_true (by omega)
        have hk2 : 0 < (k : Int) := by omega
        refine wp_region_bel (by kernel_rfl) (by kernel_rfl) ?_
        repeat (go_big_quiet_step ((fail)))
        refine wpQuiet_nil ?_
        intro w2 hw'
        obtain ⟨tq, hw''⟩ := hw'
        have hw2 := tq.2
        rw [← hw''] at hw2
        clear hw'' tq
        obtain ⟨hcw2, hfw2⟩ := bcell hw2
        try (have hzw2 : w.heap.size < w2.heap.size := by (have h := hw2.size; (try simp at h); omega))
        try (have hyw2 : w.heap.size + 1 < w2.heap.size := by (have h := hw2.size; (try simp at h); omega))
        try (have hxw2 : w.heap.size + 1 + 1 < w2.heap.size := by (have h := hw2.size; (try simp at h); omega))
        try (have hvw2 : w.heap.size + 1 + 1 + 1 < w2.heap.size := by (have h := hw2.size; (try simp at h); omega))
        have hsz2 := (bw_trans hbr hw2).size
        go_wp2_with (at_builtin; refine wpAppSc rfl _ _ rfl _ _ _ rfl ((HO.out.below hw2).alloc _) _ ⟨s.extract k (k + 1), e⟩ rfl (by go_simp) (by go_simp) (by omega) (by simp; omega) ?_; intro v5 w5 hown5 hg5 hb5)
        have HP := Lib.hid hown5
        have hbz := bw_from (bw_alloc (bw_trans hbr hw2) _) hb5
        clear hown5 hg5 hb5
        go_wp2_with fail
        go_roundg (s.size - (k + 1))
        case rel => exact ⟨k + 1, by omega, rfl, by rw [HN.out]; exact HP.out, by go_num, hbz⟩
        case measure => omega
    · have hkk : k = s.size := by omega
      subst hkk
      obtain ⟨A, c, rfl⟩ := HO.out.form
      have hbd := Lib.hid (fun j (hj : j < (scP s e s.size).length) => Nat.le_trans (scP_at HE.out (Nat.le_refl _) hj).1 (show 1 ≤ 9223372036854775807 by omega))
      cases hv : vsB (scP s e s.size) (scP s e s.size).length
      · have HV := Lib.hid (l08Ok_is A _ c _ wr HO.out.sl.2 (by omega) hv hbd.out)
        obtain ⟨r1, r2⟩ := HR.out.1 hv
        have HQ := Lib.hid (And.intro r1 r2)
        clear HR r1 r2 hv
        go_wp2_with fail
        refine HV.out.mono ?_
        rintro e w2 ⟨rfl, hb2⟩
        go_wp2
        go_ret2
        exact ⟨_, by rw [HQ.out.1]; rfl, by rw [HQ.out.2]; exact OwnSc.nil _ _, bw_trans hbr hb2⟩
      · have HV := Lib.hid (l08Ok_is A _ c _ wr HO.out.sl.2 (by omega) hv hbd.out)
        obtain ⟨r1, r2⟩ := HR.out.2 hv
        have HQ := Lib.hid (And.intro r1 r2)
        clear HR r1 r2 hv
        go_wp2_with fail
        refine HV.out.mono ?_
        rintro e w2 ⟨rfl, hb2⟩
        go_wp2
        go_ret2
        exact ⟨_, by rw [HQ.out.1]; rfl, by rw [HQ.out.2]; exact HO.out.below hb2, bw_trans hbr hb2⟩
end Go.Proofs.Ytnjndlngkoadfaa
