/-
  The program's reader of a drum.
-/
import Derived.Test.YtjpjmfdadidopaaDoorRd
import Derived.Lib.IndexMore
namespace Go.Proofs.YtjpjmfdadidopaaDoor
open Go.RowKit

theorem index_cons (b c : UInt8) (r : List UInt8) : Lib.index (c :: r) [b] = if c = b then 0 else if Lib.index r [b] < 0 then Lib.index r [b] else Lib.index r [b] + 1 := by
  rw [Lib.index]
  by_cases h : c = b
  · subst h; simp
  · have h1 : [b].isPrefixOf (c :: r) = false := by
      simp [List.isPrefixOf]
      exact fun e => h e.symm
    rw [h1, if_neg h]
    have h2 := Lib.index_ge r [b]
    by_cases h3 : Lib.index r [b] = -1
    · rw [h3]; rfl
    · rw [if_neg (by simp), if_neg (by simpa using h3), if_neg (by omega)]
theorem index_app (b : UInt8) (B : List UInt8) : ∀ A : List UInt8, b ∉ A → Lib.index (A ++ b :: B) [b] = (A.length : Int)
  | [], _ => by rw [List.nil_append, index_cons, if_pos rfl]; rfl
  | c :: A, h => by
    have h1 : b ∉ A := fun h2 => h (List.mem_cons_of_mem _ h2)
    have h2 : ¬ c = b := fun e => h (by rw [e]; exact List.mem_cons_self)
    rw [List.cons_append, index_cons, if_neg h2, index_app b B A h1, if_neg (by omega)]
    simp
theorem cut_app {b : UInt8} {A : List UInt8} (B : List UInt8) (h : b ∉ A) : Lib.cut (A ++ b :: B) [b] = (A, B, true) := by
  unfold Lib.cut
  rw [index_app b B A h, if_pos (by omega)]
  simp
theorem cut_nil (b : UInt8) : Lib.cut [] [b] = ([], [], false) := by
  unfold Lib.cut
  rw [if_neg (by simp [Lib.index])]
theorem cut_len1 (s p : List UInt8) : (Lib.cut s p).1.length ≤ s.length := by
  unfold Lib.cut; split <;> simp; omega
theorem cut_len2 (s p : List UInt8) : (Lib.cut s p).2.1.length ≤ s.length := by
  unfold Lib.cut; split <;> simp

theorem digs_mem {c : UInt8} : ∀ (k u : Nat), u ≤ k → c ∈ digs u → 48 ≤ c.toNat ∧ c.toNat ≤ 57
  | k, u, hk, h => by
    by_cases h0 : u = 0
    · rw [h0, digs_zero] at h; cases h
    · rw [digs_pos h0] at h
      rcases List.mem_append.1 h with h | h
      · match k, hk with
        | 0, hk => omega
        | k + 1, hk => exact digs_mem k (u / 10) (by omega) h
      · rw [List.mem_singleton.1 h, UInt8.toNat_ofNat']; omega
theorem itoa_mem {c : UInt8} {v : Int} (hv : 1 ≤ v) (h : c ∈ Lib.itoa v) : 48 ≤ c.toNat ∧ c.toNat ≤ 57 := by
  rw [itoa_pos (by omega)] at h
  exact digs_mem _ _ (Nat.le_refl _) h
theorem itoa_ne_nil (v : Int) : Lib.itoa v ≠ [] := by
  intro h
  rcases Int.lt_trichotomy v 0 with h1 | h1 | h1
  · rw [itoa_neg' h1] at h; cases h
  · rw [h1, itoa_zero] at h; cases h
  · rw [itoa_pos h1, digs_pos (by omega)] at h; simp at h
theorem drumS_list (r h t : Int) : (drumS r h t).data.toList = Lib.itoa r ++ 120 :: (Lib.itoa h ++ 47 :: Lib.itoa t) := by
  simp [drumS, itoaS]

/-- What a reader of drums says of a text. -/
def RP (s : ByteArray) (o : Option (Int × Int × Int)) : Prop :=
  (∀ r h t, o = some (r, h, t) → drumOk r h t = true ∧ s = drumS r h t) ∧ (∀ r h t, drumOk r h t = true → s = drumS r h t → o = some (r, h, t))
theorem RP.uniq {s : ByteArray} {o o' : Option (Int × Int × Int)} (h1 : RP s o) (h2 : RP s o') : o = o' := by
  rcases o with _ | ⟨r, h, t⟩
  · rcases o' with _ | ⟨r, h, t⟩
    · rfl
    · obtain ⟨a, b⟩ := h2.1 r h t rfl
      exact h1.2 r h t a b
  · obtain ⟨a, b⟩ := h1.1 r h t rfl
    exact (h2.2 r h t a b).symm
theorem cut_key {s : ByteArray} {U R H T : List UInt8} {f1 f2 : Bool} (hc1 : Lib.cut s.data.toList [120] = (U, R, f1)) (hc2 : Lib.cut R [47] = (H, T, f2)) {o1 o2 o3 : Option Int}
    (d1 : DecP ⟨U.toArray⟩ o1) (d2 : DecP ⟨H.toArray⟩ o2) (d3 : DecP ⟨T.toArray⟩ o3) (r h t : Int) (hk : drumOk r h t = true) (hs : s = drumS r h t) : o1 = some r ∧ o2 = some h ∧ o3 = some t := by
  obtain ⟨⟨_, _⟩, ⟨_, _⟩, ⟨_, _⟩⟩ := drumOk_bd hk
  rw [hs, drumS_list, cut_app _ (fun hm => by have := (itoa_mem (by omega) hm).2; revert this; decide)] at hc1
  injection hc1 with e1 hc1
  injection hc1 with e2 e3
  subst e1; subst e2
  rw [cut_app _ (fun hm => by have := (itoa_mem (by omega) hm).1; revert this; decide)] at hc2
  injection hc2 with e4 hc2
  injection hc2 with e5 e6
  subst e4; subst e5
  exact ⟨d1.2 r (by omega) (by omega) rfl, d2.2 h (by omega) (by omega) rfl, d3.2 t (by omega) (by omega) rfl⟩
theorem rp_none1 {s : ByteArray} (h : ∀ r h t, drumOk r h t = true → s ≠ drumS r h t) : RP s none := ⟨fun _ _ _ e => (by cases e), fun r h' t hk e => absurd e (h r h' t hk)⟩
theorem rp_some {s : ByteArray} {U R H T : List UInt8} {f1 f2 : Bool} (hc1 : Lib.cut s.data.toList [120] = (U, R, f1)) (hc2 : Lib.cut R [47] = (H, T, f2)) {x y z : Int}
    (d1 : DecP ⟨U.toArray⟩ (some x)) (d2 : DecP ⟨H.toArray⟩ (some y)) (d3 : DecP ⟨T.toArray⟩ (some z)) (he : drumT x y z = s) : RP s (some (x, y, z)) := by
  refine ⟨fun r h t e => ?_, fun r h t hk hs => ?_⟩
  · cases e
    unfold drumT at he
    by_cases hk : drumOk x y z = true
    · rw [if_pos hk] at he
      exact ⟨hk, he.symm⟩
    · rw [if_neg hk] at he
      rw [← he] at hc1
      rw [show ((⟨#[]⟩ : ByteArray).data.toList) = [] from rfl, cut_nil] at hc1
      injection hc1 with e1 _
      subst e1
      have := d1.1 x rfl
      have h2 : Lib.itoa x = [] := by
        have h3 := congrArg (fun b : ByteArray => b.data.toList) this
        simpa [itoaS] using h3
      exact absurd h2 (itoa_ne_nil x)
  · obtain ⟨a, b, c⟩ := cut_key hc1 hc2 d1 d2 d3 r h t hk hs
    cases a; cases b; cases c; rfl
def retDr (o : Option (Int × Int × Int)) : Value := match o with
  | some (r, h, t) => .tuple #[.agg #[.int .i64 r, .int .i64 h, .int .i64 t], .bool true]
  | none => .tuple #[.agg #[.int .i64 0, .int .i64 0, .int .i64 0], .bool false]
theorem cut_any (s : ByteArray) (b : UInt8) {U R : List UInt8} {f : Bool} (w : World) (hs : s.size ≤ 1048576) (hE : Env w) (hc : Lib.cut s.data.toList [b] = (U, R, f)) :
    Calls Tryd.prog 14 #[.string s, .string ⟨#[b]⟩] w fun e w' => e = .returned (.tuple #[.string ⟨U.toArray⟩, .string ⟨R.toArray⟩, .bool f]) ∧ Below w.heap.size w w' := by
  obtain ⟨_, _, _, m, hm⟩ := hE
  refine (Tryd.strings_Cut s ⟨#[b]⟩ m w (by omega) hm).mono ?_
  rintro e w' ⟨he, n, rfl⟩
  refine ⟨?_, bw_drewN (Below.refl _ _) n⟩
  rw [he, show ((⟨#[b]⟩ : ByteArray).data.toList) = [b] from rfl, hc]
end Go.Proofs.YtjpjmfdadidopaaDoor
