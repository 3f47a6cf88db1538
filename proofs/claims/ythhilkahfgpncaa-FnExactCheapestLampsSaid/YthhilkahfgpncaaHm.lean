/-
  Sets of bits: their indices.
-/
import Derived.Test.YthhilkahfgpncaaHk
import Derived.Laws.BitsAllLaws
import Derived.Laws.BitsLemmas
namespace Go.Proofs.Ythhilkahfgpncaa
open Go.RowKit

theorem sel_stop {q : Nat → Bool} {j k : Nat} (hjk : j ≤ k) (h : ∀ i, j ≤ i → i < k → q i = false) : selL q k = selL q j := by
  induction k with
  | zero => have : j = 0 := by omega
            rw [this]
  | succ k ih =>
    rcases Nat.lt_or_ge j (k + 1) with h1 | h1
    · rw [sel_no (h k (by omega) (by omega))]
      exact ih (by omega) fun i h2 h3 => h i h2 (by omega)
    · have : j = k + 1 := by omega
      rw [this]
theorem and_one (x : Nat) (hx : x < 9223372036854775808) : bits .and .i64 (x : Int) 1 = ((x % 2 : Nat) : Int) := by
  have h1 : (BitVec.ofInt 64 (x : Int)).toNat = x := by
    rw [BitVec.ofInt_natCast, BitVec.toNat_ofNat]; exact Nat.mod_eq_of_lt (by omega)
  have h2 : (BitVec.ofInt 64 (1 : Int)).toNat = 1 := rfl
  show IntKind.i64.wrap ((BitVec.ofInt 64 (x : Int) &&& BitVec.ofInt 64 (1 : Int)).toNat : Int) = _
  rw [BitVec.toNat_and, h1, h2, Nat.and_one_is_mod, IntKind.wrap_i64]
  omega
theorem shift_is (b k : Nat) : (b : Int) / 2 ^ k = ((b / 2 ^ k : Nat) : Int) := by simp
theorem bit_is (b k : Nat) (hb : b < 65536) : (bits .and .i64 ((b : Int) / 2 ^ k) 1 == 1) = b.testBit k := by
  have hle : b / 2 ^ k ≤ b := Nat.div_le_self _ _
  rw [shift_is, and_one _ (by omega), Nat.testBit_eq_decide_div_mod_eq]
  rw [Bool.eq_iff_iff]
  simp only [beq_iff_eq, decide_eq_true_iff]
  omega
theorem bits_stop {b k : Nat} (h : b / 2 ^ k = 0) (i : Nat) (hi : k ≤ i) : b.testBit i = false := by
  have h1 : b < 2 ^ k := by
    rcases Nat.div_eq_zero_iff.1 h with h | h
    · have := Nat.two_pow_pos k; omega
    · exact h
  exact Nat.testBit_lt_two_pow (Nat.lt_of_lt_of_le h1 (Nat.pow_le_pow_right (by omega) hi))
/-- The indices of a set of bits. -/
def ixL (b : Nat) : List Int := selL b.testBit 16
theorem ix_at {b k : Nat} (hb : b < 2 ^ k) (hk : k ≤ 16) : ixL b = selL b.testBit k :=
  sel_stop hk fun i h1 _ => bits_stop (Nat.div_eq_of_lt hb) i h1

def GivesI (ys : List Int) (w : World) (e : Ending) (w' : World) : Prop := ∃ v, e = .returned v ∧ OwnI w' w.heap.size v ys ∧ Below w.heap.size w w'
set_option maxRecDepth 100000 in
set_option maxHeartbeats 800000 in
theorem indicesOf_any (b : Nat) (w : World) (hb : b < 65536) :
    Calls Try.prog 87 #[.int .i64 (b : Int)] w (GivesI (ixL b) w) := by
  go_enter Try.func87, Try.ntmps87
  go_wp2_with fail
  go_loopg [3, 4] 16 (fun gh v x wr => ∃ k : Nat, k ≤ 16 ∧ gh = 16 - k ∧ OwnI wr w.heap.size v (selL b.testBit k) ∧ x = .int .i64 k ∧ Below w.heap.size w wr)
  case atStart => exact ⟨0, by omega, by omega, OwnI.lit w (Nat.le_refl _), rfl, bw_alloc (Below.refl _ _) _⟩
  case round =>
    obtain ⟨k, hk, rfl, hown, rfl, hbr⟩ := hrel
    have HO := Lib.hid hown
    have hl := sel_len b.testBit k
    have hsz := hbr.size
    clear hown
    by_cases h0 : b / 2 ^ k = 0
    · have hg : ¬ (0 < (b : Int) / 2 ^ k) := by rw [shift_is, h0]; simp
      have HE := Lib.hid (show ixL b = selL b.testBit k from sel_stop hk fun i h1 _ => bits_stop h0 i h1)
      obtain ⟨A', c', rfl⟩ := HO.out.form
      clear h0
      go_wp2
      go_ret
      exact ⟨_, rfl, by rw [HE.out]; exact HO.out, hbr⟩
    · have hk16 : k < 16 := by
        rcases Nat.lt_or_ge k 16 with h | h
        · exact h
        · have : k = 16 := by omega
          subst this
          exact absurd (Nat.div_eq_of_lt hb) h0
      have hg : 0 < (b : Int) / 2 ^ k := by rw [shift_is]; exact Int.natCast_pos.2 (Nat.pos_of_ne_zero h0)
      have hbit := bit_is b k hb
      cases hq : b.testBit k
      · have HE := Lib.hid (sel_no hq)
        rw [hq] at hbit
        clear h0 hq
        go_wp2
        go_roundg (16 - (k + 1))
        case rel => exact ⟨k + 1, by omega, rfl, by rw [HE.out]; exact HO.out, by go_num, hbr⟩
        case measure => omega
      · have HE := Lib.hid (sel_yes hq)
        rw [hq] at hbit
        clear h0 hq
        go_wp2_with (at_builtin; refine wpAppI rfl _ _ rfl _ _ _ rfl (HO.out.alloc _) _ ((k : Int)) rfl (by go_simp) (by omega) (by simp; omega) ?_; intro v1 w1 hown1 hg1 hb1)
        go_roundg (16 - (k + 1))
        case rel => exact ⟨k + 1, by omega, rfl, by rw [HE.out]; exact hown1, by go_num, bw_from (bw_alloc hbr _) hb1⟩
        case measure => omega
end Go.Proofs.Ythhilkahfgpncaa
