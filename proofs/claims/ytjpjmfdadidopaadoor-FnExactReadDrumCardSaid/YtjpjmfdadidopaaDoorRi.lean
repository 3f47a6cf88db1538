/-
  The reference's splitting of a text.
-/
import Derived.Test.YtjpjmfdadidopaaDoorRh
import Derived.Laws.DeepStrings4
namespace Go.Proofs.YtjpjmfdadidopaaDoor
open Go.RowKit

def OwnT (w : World) (B : Nat) (v : Value) (xs : List ByteArray) : Prop := w.ownsRow B 9 1 v xs.length (xs.map Value.string)
theorem OwnT.lit (w : World) {B : Nat} (hB : B ≤ w.heap.size) : OwnT (w.alloc (.cells #[] 9)) B (.slice (some ⟨w.heap.size, 0, none⟩) 0 0) [] :=
  World.ownsRow_lit w #[] 0 hB (by unfold maxLen; omega) rfl
theorem OwnT.alloc {w : World} {B : Nat} {v : Value} {xs : List ByteArray} (h : OwnT w B v xs) (o : Obj) : OwnT (w.alloc o) B v xs := World.ownsRow.alloc h o
theorem OwnT.cells {w : World} {B g m c : Nat} {xs : List ByteArray} (h : OwnT w B (.slice (some ⟨g, 0, none⟩) m c) xs) : ∀ j (hj : j < xs.length), w.cell? ⟨g, j, none⟩ = some (.string xs[j]) := by
  intro j hj
  have := World.ownsRow.cells h (g := g) rfl j (.string xs[j]) (by simp [hj])
  rw [add_off'] at this
  exact this
theorem infoT : (Tryd.prog.info? 9).map (fun i => (i.zero, i.size, i.bytes)) = some (some (.string ⟨#[]⟩), 1, 16) := by kernel_rfl
theorem wpAppT {ops : Array Oper} {rest : List Oper} {o : Oper} {a : Act} {w : World} {Q : Exit → Act → World → Prop} (hgd : o.guard = none) (s x : Operand)
    (ho : o.op = .call { callee := .builtin .append, args := #[s, x], argTypes := #[32, 32] })
    (B : Nat) (v : Value) (xs : List ByteArray) (hs : a.eval s = v) (hown : OwnT w B v xs) (g : Nat) (u : ByteArray) (hx : a.eval x = .slice (some ⟨g, 0, none⟩) 1 1)
    (hc : w.cell? ⟨g, 0, none⟩ = some (.string u)) (hn : xs.length ≤ 1048576) (hB : B ≤ w.heap.size)
    (h : ∀ g' c' w', OwnT w' B (.slice (some ⟨g', 0, none⟩) (xs ++ [u]).length c') (xs ++ [u]) → Below B w w' → wpList Tryd.prog ops Q rest (a.put o.dst (.slice (some ⟨g', 0, none⟩) (xs ++ [u]).length c')) w') : wpList Tryd.prog ops Q (o :: rest) a w := by
  obtain ⟨i0, hi, hz0, hz1, hz2⟩ := info_parts' infoT
  refine wpList_append_own w hgd s x _ ho B 9 i0 (.string ⟨#[]⟩) 1 16 Tryd.underlying32 hi hz0 hz1 hz2 rfl (by decide) v xs.length _ hs hown ⟨g, 0, none⟩ 1 1 [.string u] hx rfl ?_ ?_ ?_ ?_ hB ?_
  · intro j y hj
    cases j with
    | zero => simp at hj; subst hj; rw [add_off']; exact hc
    | succ j => simp at hj
  · simp [Value.oneCell']
  · unfold maxLen; omega
  · omega
  · intro v' w' h1 h2 _
    have h3 : OwnT w' B v' (xs ++ [u]) := by unfold OwnT; simpa using h1
    rcases h3.2 with ⟨_, h4⟩ | ⟨g', cap', cur, e, _⟩
    · simp at h4
    · subst e
      exact h g' cap' w' h3 (below_grown' h2 (fun k hk => (World.ownsRow.lt hown k hk).1) hB)

theorem ext_list (s : ByteArray) (f i : Nat) : (s.extract f i).data.toList = (s.data.toList.take i).drop f := by
  rw [ByteArray.data_extract, Array.toList_extract, List.extract_eq_take_drop, List.drop_take]
theorem drop_cons (s : ByteArray) (i : Nat) (h : i < s.size) : s.data.toList.drop i = s[i] :: s.data.toList.drop (i + 1) := by
  rw [List.drop_eq_getElem_cons (show i < s.data.toList.length from h)]; rfl
theorem ext_step (s : ByteArray) (f i : Nat) (h : i < s.size) (hf : f ≤ i) : (s.extract f (i + 1)).data.toList = (s.extract f i).data.toList ++ [s[i]] := by
  rw [ext_list, ext_list, take_snoc s i h, List.drop_append_of_le_length]
  have : s.data.toList.length = s.size := rfl
  rw [List.length_take]; omega
theorem ext_empty (s : ByteArray) (i : Nat) : (s.extract i i).data.toList = [] := by
  rw [ext_list]; simp

set_option maxHeartbeats 3200000 in
set_option maxRecDepth 100000 in
theorem l01Split_any (s : ByteArray) (b : UInt8) (w : World) (hs : s.size ≤ 1048576) :
    Calls Tryd.prog 11 #[.string s, .int .u8 (b.toNat : Int)] w fun e w' => ∃ g c xs, e = .returned (.slice (some ⟨g, 0, none⟩) xs.length c) ∧ OwnT w' w.heap.size (.slice (some ⟨g, 0, none⟩) xs.length c) xs ∧ xs.map (fun x => x.data.toList) = spl b [] s.data.toList ∧ Below w.heap.size w w' := by
  go_enter Tryd.func11, Tryd.ntmps11
  go_wp2_with fail
  go_loopw [5, 6, 7] (fun x y z wr => ∃ (g c f i : Nat) (xs : List ByteArray), x = .slice (some ⟨g, 0, none⟩) xs.length c ∧ y = .int .i64 (f : Int) ∧ z = .int .i64 (i : Int) ∧ f ≤ i ∧ i ≤ s.size ∧ xs.length ≤ i ∧ OwnT wr w.heap.size (.slice (some ⟨g, 0, none⟩) xs.length c) xs ∧ Hid (xs.map (fun x => x.data.toList) ++ spl b (s.extract f i).data.toList (s.data.toList.drop i) = spl b [] s.data.toList) ∧ Below w.heap.size w wr) (fun _ _ z _ => s.size - (intOf z).toNat)
  case atStart => exact ⟨_, _, 0, 0, [], rfl, rfl, rfl, Nat.le_refl _, Nat.zero_le _, Nat.zero_le _, OwnT.lit _ (Nat.le_refl _), Lib.hid (by rw [ext_empty]; rfl), bw_alloc (Below.refl _ _) _⟩
  case round =>
    obtain ⟨g, c, f, i, xs, rfl, rfl, rfl, hf, hi, hxl, hown, HS, hbw⟩ := hrel
    have HO := Lib.hid hown
    have hsz := hbw.size
    clear hown
    by_cases hie : i < s.size
    · have hiz : (i : Int) < (s.size : Int) := by omega
      have hfz : (f : Int) ≤ (i : Int) := by omega
      by_cases hb : s[i] = b
      · have heq : ((s[i].toNat : Int) == (b.toNat : Int)) = true := by rw [hb]; simp
        have HB := Lib.hid hb
        clear hb
        go_wp2_with (at_builtin; refine wpAppT rfl _ _ rfl w.heap.size _ xs rfl (HO.out.alloc _) wr.heap.size (s.extract f i) rfl (by go_simp) (by omega) (by simp; omega) ?_; intro g5 c5 w5 hown5 hb5)
        go_round
        case rel => exact ⟨g5, c5, i + 1, i + 1, xs ++ [s.extract f i], by rw [List.length_append]; rfl, by simp, by simp, Nat.le_refl _, by omega, by simp; omega, hown5, Lib.hid (by rw [← HS.out, drop_cons s i hie, HB.out, spl, if_pos rfl, ext_empty]; simp), (bw_alloc hbw _).trans hb5⟩
        case measure => simp [intOf]; omega
      · have heq : ((s[i].toNat : Int) == (b.toNat : Int)) = false := by
          simp only [beq_eq_false_iff_ne]
          intro h
          exact hb (UInt8.toNat_inj.1 (by omega))
        have HB := Lib.hid hb
        clear hb
        go_wp2
        go_round
        case rel => exact ⟨g, c, f, i + 1, xs, rfl, rfl, by simp, by omega, by omega, by omega, HO.out, Lib.hid (by rw [← HS.out, drop_cons s i hie, spl, if_neg HB.out, ext_step s f i hie hf]), hbw⟩
        case measure => simp [intOf]; omega
    · obtain rfl : i = s.size := by omega
      have hfz : (f : Int) ≤ (s.size : Int) := by omega
      go_wp2_with (at_builtin; refine wpAppT rfl _ _ rfl w.heap.size _ xs rfl (HO.out.alloc _) wr.heap.size (s.extract f s.size) rfl (by go_simp) (by omega) (by simp; omega) ?_; intro g5 c5 w5 hown5 hb5)
      go_ret
      exact ⟨g5, c5, xs ++ [s.extract f s.size], by rw [List.length_append]; rfl, hown5, by rw [← HS.out]; rw [show s.data.toList.drop s.size = [] from List.drop_eq_nil_of_le (Nat.le_refl _), spl]; simp, (bw_alloc hbw _).trans hb5⟩
end Go.Proofs.YtjpjmfdadidopaaDoor
