/-
  Lenses and halls: single lenses, lists of lenses, single halls: in the program and in the reference.
-/
import Derived.Test.YthhilkahfgpncaaRow
namespace Go.Proofs.Ythhilkahfgpncaa
open Go.RowKit

def isFo (n : Int) : Bool := inB n 1 2000
def isTh (n : Int) : Bool := inB n 1 100000
def isSl (n : Int) : Bool := inB n 1 200
theorem isFo_true {n : Int} : isFo n = true ↔ 1 ≤ n ∧ n ≤ 2000 := inB_true
theorem isTh_true {n : Int} : isTh n = true ↔ 1 ≤ n ∧ n ≤ 100000 := inB_true
theorem isSl_true {n : Int} : isSl n = true ↔ 1 ≤ n ∧ n ≤ 200 := inB_true
theorem isFocal_is {n : Int} {b : Bool} (h : isFo n = b) (w : World) :
    Calls Try.prog 66 #[.int .i64 n] w fun e w' => e = .returned (.bool b) ∧ w = w' := by
  have h' : inB n 1 2000 = b := h
  go_enter Try.func66, Try.ntmps66
  go_wp2_with (go_at_call 70; refine (within_is (by assumption) _).mono ?_; rintro e w1 ⟨rfl, rfl⟩)
  go_ret
  exact ⟨rfl, rfl⟩
theorem isThrow_is {n : Int} {b : Bool} (h : isTh n = b) (w : World) :
    Calls Try.prog 91 #[.int .i64 n] w fun e w' => e = .returned (.bool b) ∧ w = w' := by
  have h' : inB n 1 100000 = b := h
  go_enter Try.func91, Try.ntmps91
  go_wp2_with (go_at_call 70; refine (within_is (by assumption) _).mono ?_; rintro e w1 ⟨rfl, rfl⟩)
  go_ret
  exact ⟨rfl, rfl⟩
theorem l10Focal_is {n : Int} {b : Bool} (h : isFo n = b) (w : World) :
    Calls Try.prog 93 #[.int .i64 n] w fun e w' => e = .returned (.bool b) ∧ w = w' := by
  have h' : inB n 1 2000 = b := h
  go_enter Try.func93, Try.ntmps93
  go_wp2_with (go_at_call 68; refine (l00In_is (by assumption) _).mono ?_; rintro e w1 ⟨rfl, rfl⟩)
  go_ret
  exact ⟨rfl, rfl⟩
theorem l11Focal_is {n : Int} {b : Bool} (h : isFo n = b) (w : World) :
    Calls Try.prog 54 #[.int .i64 n] w fun e w' => e = .returned (.bool b) ∧ w = w' := by
  have h' : inB n 1 2000 = b := h
  go_enter Try.func54, Try.ntmps54
  go_wp2_with (go_at_call 68; refine (l00In_is (by assumption) _).mono ?_; rintro e w1 ⟨rfl, rfl⟩)
  go_ret
  exact ⟨rfl, rfl⟩
theorem l11Slide_is {n : Int} {b : Bool} (h : isSl n = b) (w : World) :
    Calls Try.prog 53 #[.int .i64 n] w fun e w' => e = .returned (.bool b) ∧ w = w' := by
  have h' : inB n 1 200 = b := h
  go_enter Try.func53, Try.ntmps53
  go_wp2_with (go_at_call 68; refine (l00In_is (by assumption) _).mono ?_; rintro e w1 ⟨rfl, rfl⟩)
  go_ret
  exact ⟨rfl, rfl⟩
/-- The first place whose element answers yes; -1 if there is none. -/
def fidx (p : Int → Bool) (xs : List Int) : Int := if xs.any p then (xs.findIdx p : Int) else -1
theorem fidx_any (p : Int → Bool) (xs : List Int) : decide (0 ≤ fidx p xs) = xs.any p := by
  unfold fidx; cases xs.any p <;> simp
theorem getD_lt {xs : List Int} {k : Nat} (h : k < xs.length) : xs.getD k 0 = xs[k] := by simp [List.getD_eq_getElem?_getD, h]
theorem fidx_at {p : Int → Bool} {xs : List Int} {k : Nat} (hk : k < xs.length) (hp : p (xs.getD k 0) = true) (hno : ∀ j, j < k → p (xs.getD j 0) = false) : fidx p xs = k := by
  rw [getD_lt hk] at hp
  have h1 : xs.any p = true := List.any_eq_true.2 ⟨xs[k], List.getElem_mem hk, hp⟩
  unfold fidx
  rw [if_pos h1]
  congr 1
  rw [List.findIdx_eq hk]
  exact ⟨hp, fun j hj => by rw [← getD_lt (Nat.lt_trans hj hk)]; exact hno j hj⟩
theorem any_false {p : Int → Bool} {xs : List Int} (hno : ∀ j, j < xs.length → p (xs.getD j 0) = false) : xs.any p = false := by
  rw [List.any_eq_false]
  intro x hx
  obtain ⟨j, hj, rfl⟩ := List.getElem_of_mem hx
  have := hno j hj
  rw [getD_lt hj] at this
  rw [this]; simp
theorem fidx_none {p : Int → Bool} {xs : List Int} (hno : ∀ j, j < xs.length → p (xs.getD j 0) = false) : fidx p xs = -1 := by
  unfold fidx; rw [any_false hno]; rfl
theorem any_true {p : Int → Bool} {xs : List Int} {k : Nat} (hk : k < xs.length) (hp : p (xs.getD k 0) = true) : xs.any p = true := by
  rw [getD_lt hk] at hp
  exact List.any_eq_true.2 ⟨xs[k], List.getElem_mem hk, hp⟩

theorem foClos_is {n : Int} {b : Bool} (h : isFo n = b) (w : World) :
    Calls Try.prog 94 #[.int .i64 n] w fun e w' => e = .returned (.bool (!b)) ∧ w = w' := by
  go_enter Try.func94, Try.ntmps94
  go_wp2_with (go_at_call 66; refine (isFocal_is (by assumption) _).mono ?_; rintro e w1 ⟨rfl, rfl⟩)
  go_ret
  exact ⟨rfl, rfl⟩

set_option maxHeartbeats 800000 in
theorem foIdx_any (p : Int → Bool)  (A : Option Addr) (n c : Nat) (xs : List Int) (w : World) (H : SlI w A n xs) (hn : n ≤ 1048576)
    (hcl : ∀ k, k < n → ∀ W, Below w.heap.size w W → Calls Try.prog 94 #[.int .i64 (xs.getD k 0)] W fun e w' => e = .returned (.bool (p (xs.getD k 0))) ∧ Below W.heap.size W w') :
    Calls Try.prog 96 #[.slice A n c, .func (.func 94) #[] #[]] w fun e w' => e = .returned (.int .i64 (fidx p xs)) ∧ Below w.heap.size w w' := by
  have HL := Lib.hid H.length
  have HC := Lib.hid hcl
  clear hcl
  go_enter Try.func96, Try.ntmps96
  go_wp2_with fail
  go_loopw [8] (fun x wr => ∃ k : Nat, k ≤ n ∧ x = .int .i64 k ∧ Hid (∀ j, j < k → p (xs.getD j 0) = false) ∧ Below w.heap.size w wr) (fun x _ => (n - (intOf x).toNat))
  case atStart => exact ⟨0, by omega, rfl, fun j hj => absurd hj (by omega), Below.refl _ _⟩
  case round =>
    obtain ⟨k, hk, rfl, hno, hbr⟩ := hrel
    by_cases hlt : k < n
    · obtain ⟨b, off, rfl, hbl, hc⟩ := (H.below hbr).get hlt
      clear H
      cases hp : p (xs.getD k 0)
      · have hn' : ∀ j, j < k + 1 → p (xs.getD j 0) = false := fun j hj => by
          rcases Nat.lt_or_ge j k with h | h
          · exact hno.out j h
          · have : j = k := by omega
            subst this; exact hp
        have HN := Lib.hid hn'
        clear hn'
        go_wp2_with fail
        refine (HC.out k hlt _ hbr).mono ?_
        rw [hp]
        rintro e w1 ⟨rfl, hb1⟩
        go_wp2_with fail
        go_roundw
        case rel => exact ⟨k + 1, by omega, by go_num, HN.out, bw_trans hbr hb1⟩
        case measure => simp [intOf]; omega
      · have HF := Lib.hid (fidx_at (by rw [HL.out]; exact hlt) hp hno.out)
        go_wp2_with fail
        refine (HC.out k hlt _ hbr).mono ?_
        rw [hp]
        rintro e w1 ⟨rfl, hb1⟩
        go_wp2
        go_ret
        exact ⟨ret_int (by rw [HF.out]), bw_trans hbr hb1⟩
    · have hkk : k = n := by omega
      subst hkk
      have HF := Lib.hid (fidx_none (fun j hj => hno.out j (by rw [← HL.out]; exact hj)))
      clear H
      go_wp2
      go_ret
      exact ⟨ret_int (by rw [HF.out]), hbr⟩

set_option maxHeartbeats 800000 in
theorem foCon_any (p : Int → Bool)  (A : Option Addr) (n c : Nat) (xs : List Int) (w : World) (H : SlI w A n xs) (hn : n ≤ 1048576) {b : Bool} (hb : xs.any p = b)
    (hcl : ∀ k, k < n → ∀ W, Below w.heap.size w W → Calls Try.prog 94 #[.int .i64 (xs.getD k 0)] W fun e w' => e = .returned (.bool (p (xs.getD k 0))) ∧ Below W.heap.size W w') :
    Calls Try.prog 71 #[.slice A n c, .func (.func 94) #[] #[]] w fun e w' => e = .returned (.bool b) ∧ Below w.heap.size w w' := by
  have HF := Lib.hid (fidx_any p xs)
  have HB := Lib.hid hb
  clear hb
  go_enter Try.func71, Try.ntmps71
  go_wp2_with fail
  refine (foIdx_any p  A n c xs w H hn hcl).mono ?_
  rintro e w1 ⟨rfl, hb1⟩
  go_wp2
  go_ret
  exact ⟨ret_bool (by rw [← HB.out, ← HF.out]), hb1⟩

def notFo (n : Int) : Bool := !isFo n
/-- All are lenses. -/
def allFo (xs : List Int) : Bool := !xs.any notFo
theorem allFo_at {xs : List Int} (h : allFo xs = true) {k : Nat} (hk : k < xs.length) : 1 ≤ xs.getD k 0 ∧ xs.getD k 0 ≤ 2000 := by
  unfold allFo at h
  rcases Bool.eq_false_or_eq_true (notFo (xs.getD k 0)) with h1 | h1
  · rw [any_true hk h1] at h; cases h
  · unfold notFo at h1; exact isFo_true.1 (by simpa using h1)
def lkB (xs : List Int) (n : Nat) (m : Int) : Bool := decide ((n : Int) ≤ m) && allFo xs

set_option maxHeartbeats 800000 in
theorem lensesOk_is (A : Option Addr) (n c : Nat) (xs : List Int) (m : Int) (w : World) (H : SlI w A n xs) (hn : n ≤ 1048576) {b : Bool} (hb : lkB xs n m = b) :
    Calls Try.prog 65 #[.slice A n c, .int .i64 m] w fun e w' => e = .returned (.bool b) ∧ Below w.heap.size w w' := by
  unfold lkB at hb
  cases h1 : decide ((n : Int) ≤ m)
  · rw [h1] at hb
    have HB := Lib.hid hb
    clear hb
    go_enter Try.func65, Try.ntmps65
    go_wp2
    go_ret
    exact ⟨ret_bool (by rw [← HB.out]; simp), Below.refl _ _⟩
  · rw [h1] at hb
    have hb' : xs.any notFo = !b := by rw [← hb]; simp [allFo]
    have HB := Lib.hid hb'
    clear hb hb'
    go_enter Try.func65, Try.ntmps65
    go_wp2_with fail
    refine (foCon_any notFo A n c xs _ H hn HB.out (fun k _ W _ => (foClos_is rfl W).mono fun e w' ⟨he, hw⟩ => ⟨he, hw ▸ Below.refl _ _⟩)).mono ?_
    rintro e w1 ⟨rfl, hb1⟩
    go_wp2
    go_ret
    exact ⟨ret_bool (by simp), hb1⟩
end Go.Proofs.Ythhilkahfgpncaa
