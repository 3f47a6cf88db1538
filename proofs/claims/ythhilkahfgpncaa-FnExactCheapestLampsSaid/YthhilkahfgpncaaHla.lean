/-
  Lamps: their code and their sums, in the program and in the reference.
-/
import Derived.Test.YthhilkahfgpncaaHx
import Derived.Test.YthhilkahfgpncaaHy
namespace Go.Proofs.Ythhilkahfgpncaa
open Go.RowKit

def isLu (n : Int) : Bool := inB n 1 100000
def isPr (n : Int) : Bool := inB n 0 100000
def notLu (n : Int) : Bool := !isLu n
def notPr (n : Int) : Bool := !isPr n

theorem luClos_is {n : Int} {b : Bool} (h : isLu n = b) (w : World) :
    Calls Try.prog 99 #[.int .i64 n] w fun e w' => e = .returned (.bool (!b)) ∧ w = w' := by
  have h' : inB n 1 100000 = b := h
  go_enter Try.func99, Try.ntmps99
  go_wp2_with (go_at_call 70; refine (within_is (by assumption) _).mono ?_; rintro e w1 ⟨rfl, rfl⟩)
  go_ret
  exact ⟨rfl, rfl⟩

theorem prClos_is {n : Int} {b : Bool} (h : isPr n = b) (w : World) :
    Calls Try.prog 83 #[.int .i64 n] w fun e w' => e = .returned (.bool (!b)) ∧ w = w' := by
  have h' : inB n 0 100000 = b := h
  go_enter Try.func83, Try.ntmps83
  go_wp2_with (go_at_call 70; refine (within_is (by assumption) _).mono ?_; rintro e w1 ⟨rfl, rfl⟩)
  go_ret
  exact ⟨rfl, rfl⟩

set_option maxHeartbeats 800000 in
theorem luIdx_any (p : Int → Bool)  (A : Option Addr) (n c : Nat) (xs : List Int) (w : World) (H : SlI w A n xs) (hn : n ≤ 1048576)
    (hcl : ∀ k, k < n → ∀ W, Below w.heap.size w W → Calls Try.prog 99 #[.int .i64 (xs.getD k 0)] W fun e w' => e = .returned (.bool (p (xs.getD k 0))) ∧ Below W.heap.size W w') :
    Calls Try.prog 96 #[.slice A n c, .func (.func 99) #[] #[]] w fun e w' => e = .returned (.int .i64 (fidx p xs)) ∧ Below w.heap.size w w' := by
  have HL := Lib.hid H.length
  have HC := Lib.hid hcl
  clear hcl
  go_enter Try.func96, Try.ntmps96
  go_wp2_with fail
  go_loopw [8] (fun x wr => ∃ k : Nat, k ≤ n ∧ x = .int .i64 k ∧ Hid (∀ j, j < k → p (xs.getD j 0) = false) ∧ Below w.heap.size w wr) (fun x _ => (n - (intOf x).toNat))
  case atStart => exact ⟨0, by omega, rfl, fun j hj => absurd hj (by omega), Below.refl _ _⟩
  case round =>
    obtain ⟨k, hk, rfl, hno, hbr⟩ := hrel
    by_cases hlt : k < n
    · obtain ⟨b, off, rfl, hbl, hc⟩ := (H.below hbr).get hlt
      clear H
      cases hp : p (xs.getD k 0)
      · have hn' : ∀ j, j < k + 1 → p (xs.getD j 0) = false := fun j hj => by
          rcases Nat.lt_or_ge j k with h | h
          · exact hno.out j h
          · have : j = k := by omega
            subst this; exact hp
        have HN := Lib.hid hn'
        clear hn'
        go_wp2_with fail
        refine (HC.out k hlt _ hbr).mono ?_
        rw [hp]
        rintro e w1 ⟨rfl, hb1⟩
        go_wp2_with fail
        go_roundw
        case rel => exact ⟨k + 1, by omega, by go_num, HN.out, bw_trans hbr hb1⟩
        case measure => simp [intOf]; omega
      · have HF := Lib.hid (fidx_at (by rw [HL.out]; exact hlt) hp hno.out)
        go_wp2_with fail
        refine (HC.out k hlt _ hbr).mono ?_
        rw [hp]
        rintro e w1 ⟨rfl, hb1⟩
        go_wp2
        go_ret
        exact ⟨ret_int (by rw [HF.out]), bw_trans hbr hb1⟩
    · have hkk : k = n := by omega
      subst hkk
      have HF := Lib.hid (fidx_none (fun j hj => hno.out j (by rw [← HL.out]; exact hj)))
      clear H
      go_wp2
      go_ret
      exact ⟨ret_int (by rw [HF.out]), hbr⟩

set_option maxHeartbeats 800000 in
theorem luCon_any (p : Int → Bool)  (A : Option Addr) (n c : Nat) (xs : List Int) (w : World) (H : SlI w A n xs) (hn : n ≤ 1048576) {b : Bool} (hb : xs.any p = b)
    (hcl : ∀ k, k < n → ∀ W, Below w.heap.size w W → Calls Try.prog 99 #[.int .i64 (xs.getD k 0)] W fun e w' => e = .returned (.bool (p (xs.getD k 0))) ∧ Below W.heap.size W w') :
    Calls Try.prog 71 #[.slice A n c, .func (.func 99) #[] #[]] w fun e w' => e = .returned (.bool b) ∧ Below w.heap.size w w' := by
  have HF := Lib.hid (fidx_any p xs)
  have HB := Lib.hid hb
  clear hb
  go_enter Try.func71, Try.ntmps71
  go_wp2_with fail
  refine (luIdx_any p  A n c xs w H hn hcl).mono ?_
  rintro e w1 ⟨rfl, hb1⟩
  go_wp2
  go_ret
  exact ⟨ret_bool (by rw [← HB.out, ← HF.out]), hb1⟩

set_option maxHeartbeats 800000 in
theorem prIdx_any (p : Int → Bool)  (A : Option Addr) (n c : Nat) (xs : List Int) (w : World) (H : SlI w A n xs) (hn : n ≤ 1048576)
    (hcl : ∀ k, k < n → ∀ W, Below w.heap.size w W → Calls Try.prog 83 #[.int .i64 (xs.getD k 0)] W fun e w' => e = .returned (.bool (p (xs.getD k 0))) ∧ Below W.heap.size W w') :
    Calls Try.prog 96 #[.slice A n c, .func (.func 83) #[] #[]] w fun e w' => e = .returned (.int .i64 (fidx p xs)) ∧ Below w.heap.size w w' := by
  have HL := Lib.hid H.length
  have HC := Lib.hid hcl
  clear hcl
  go_enter Try.func96, Try.ntmps96
  go_wp2_with fail
  go_loopw [8] (fun x wr => ∃ k : Nat, k ≤ n ∧ x = .int .i64 k ∧ Hid (∀ j, j < k → p (xs.getD j 0) = false) ∧ Below w.heap.size w wr) (fun x _ => (n - (intOf x).toNat))
  case atStart => exact ⟨0, by omega, rfl, fun j hj => absurd hj (by omega), Below.refl _ _⟩
  case round =>
    obtain ⟨k, hk, rfl, hno, hbr⟩ := hrel
    by_cases hlt : k < n
    · obtain ⟨b, off, rfl, hbl, hc⟩ := (H.below hbr).get hlt
      clear H
      cases hp : p (xs.getD k 0)
      · have hn' : ∀ j, j < k + 1 → p (xs.getD j 0) = false := fun j hj => by
          rcases Nat.lt_or_ge j k with h | h
          · exact hno.out j h
          · have : j = k := by omega
            subst this; exact hp
        have HN := Lib.hid hn'
        clear hn'
        go_wp2_with fail
        refine (HC.out k hlt _ hbr).mono ?_
        rw [hp]
        rintro e w1 ⟨rfl, hb1⟩
        go_wp2_with fail
        go_roundw
        case rel => exact ⟨k + 1, by omega, by go_num, HN.out, bw_trans hbr hb1⟩
        case measure => simp [intOf]; omega
      · have HF := Lib.hid (fidx_at (by rw [HL.out]; exact hlt) hp hno.out)
        go_wp2_with fail
        refine (HC.out k hlt _ hbr).mono ?_
        rw [hp]
        rintro e w1 ⟨rfl, hb1⟩
        go_wp2
        go_ret
        exact ⟨ret_int (by rw [HF.out]), bw_trans hbr hb1⟩
    · have hkk : k = n := by omega
      subst hkk
      have HF := Lib.hid (fidx_none (fun j hj => hno.out j (by rw [← HL.out]; exact hj)))
      clear H
      go_wp2
      go_ret
      exact ⟨ret_int (by rw [HF.out]), hbr⟩

set_option maxHeartbeats 800000 in
theorem prCon_any (p : Int → Bool)  (A : Option Addr) (n c : Nat) (xs : List Int) (w : World) (H : SlI w A n xs) (hn : n ≤ 1048576) {b : Bool} (hb : xs.any p = b)
    (hcl : ∀ k, k < n → ∀ W, Below w.heap.size w W → Calls Try.prog 83 #[.int .i64 (xs.getD k 0)] W fun e w' => e = .returned (.bool (p (xs.getD k 0))) ∧ Below W.heap.size W w') :
    Calls Try.prog 71 #[.slice A n c, .func (.func 83) #[] #[]] w fun e w' => e = .returned (.bool b) ∧ Below w.heap.size w w' := by
  have HF := Lib.hid (fidx_any p xs)
  have HB := Lib.hid hb
  clear hb
  go_enter Try.func71, Try.ntmps71
  go_wp2_with fail
  refine (prIdx_any p  A n c xs w H hn hcl).mono ?_
  rintro e w1 ⟨rfl, hb1⟩
  go_wp2
  go_ret
  exact ⟨ret_bool (by rw [← HB.out, ← HF.out]), hb1⟩

/-- All are lamps, and they are not too many. -/
def luB (xs : List Int) (n : Nat) : Bool := decide ((n : Int) ≤ 8) && !xs.any notLu
def laC (need : Int) (xs : List Int) (n : Nat) : Int := if inB need 0 100000 && luB xs n then 0 else 2
theorem la_code (need : Int) (xs : List Int) (n : Nat) : (laC need xs n = 2 ∧ (inB need 0 100000 && luB xs n) = false) ∨ (laC need xs n = 0 ∧ inB need 0 100000 = true ∧ n ≤ 8 ∧ xs.any notLu = false) := by
  unfold laC luB
  cases inB need 0 100000 <;> cases hx : xs.any notLu <;> by_cases h : (n : Int) ≤ 8 <;> simp [h] <;> omega
theorem lu_at {xs : List Int} (h : xs.any notLu = false) {k : Nat} (hk : k < xs.length) : 1 ≤ xs.getD k 0 ∧ xs.getD k 0 ≤ 100000 := by
  cases h1 : notLu (xs.getD k 0)
  · unfold notLu isLu at h1; exact inB_true.1 (by simpa using h1)
  · rw [any_true hk h1] at h; cases h
theorem pr_at {xs : List Int} (h : xs.any notPr = false) {k : Nat} (hk : k < xs.length) : 0 ≤ xs.getD k 0 ∧ xs.getD k 0 ≤ 100000 := by
  cases h1 : notPr (xs.getD k 0)
  · unfold notPr isPr at h1; exact inB_true.1 (by simpa using h1)
  · rw [any_true hk h1] at h; cases h

set_option maxHeartbeats 800000 in
theorem lampsCode_any (A : Option Addr) (n c : Nat) (xs : List Int) (need : Int) (w : World) (H : SlI w A n xs) (hn : n ≤ 1048576) :
    Calls Try.prog 81 #[.slice A n c, .int .i64 need] w fun e w' => e = .returned (.int .i64 (laC need xs n)) ∧ Below w.heap.size w w' := by
  have HC := Lib.hid (fun b hb => luCon_any notLu A n c xs w H hn (b := b) hb (fun k _ W _ => (luClos_is rfl W).mono fun e w' ⟨he, hw⟩ => ⟨he, hw ▸ Below.refl _ _⟩))
  clear H
  unfold laC luB
  cases h1 : inB need 0 100000
  · go_enter Try.func81, Try.ntmps81
    go_wp2_with (go_at_call 70; refine (within_is h1 _).mono ?_; rintro e w1 ⟨rfl, rfl⟩)
    go_ret
    exact ⟨rfl, Below.refl _ _⟩
  by_cases h2 : (n : Int) ≤ 8
  case neg =>
    have d2 : decide ((n : Int) ≤ 8) = false := decide_eq_false h2
    rw [d2]
    go_enter Try.func81, Try.ntmps81
    go_wp2_with (go_at_call 70; refine (within_is h1 _).mono ?_; rintro e w1 ⟨rfl, rfl⟩)
    go_ret
    exact ⟨rfl, Below.refl _ _⟩
  have d2 : decide ((n : Int) ≤ 8) = true := decide_eq_true h2
  rw [d2]
  cases h3 : xs.any notLu
  · have HQ := Lib.hid (HC.out _ h3)
    clear HC h3 d2
    go_enter Try.func81, Try.ntmps81
    go_wp2_with (go_at_call 70; refine (within_is h1 _).mono ?_; rintro e w1 ⟨rfl, rfl⟩)
    refine HQ.out.mono ?_
    rintro e w1 ⟨rfl, hb1⟩
    go_wp2
    go_ret
    exact ⟨rfl, hb1⟩
  · have HQ := Lib.hid (HC.out _ h3)
    clear HC h3 d2
    go_enter Try.func81, Try.ntmps81
    go_wp2_with (go_at_call 70; refine (within_is h1 _).mono ?_; rintro e w1 ⟨rfl, rfl⟩)
    refine HQ.out.mono ?_
    rintro e w1 ⟨rfl, hb1⟩
    go_wp2
    go_ret
    exact ⟨rfl, hb1⟩

theorem l12Lamps_is (A : Option Addr) (n c : Nat) (xs : List Int) (w : World) (H : SlI w A n xs) (hn : n ≤ 1048576) {b : Bool} (hb : luB xs n = b) :
    Calls Try.prog 98 #[.slice A n c] w fun e w' => e = .returned (.bool b) ∧ w = w' := by
  have HL := Lib.hid H.length
  have HB := Lib.hid hb
  clear hb
  go_enter Try.func98, Try.ntmps98
  go_wp2_with fail
  go_loopg [3] n (fun gh x wr => ∃ k : Nat, k ≤ n ∧ gh = n - k ∧ x = .int .i64 k ∧ Hid (∀ j, j < k → notLu (xs.getD j 0) = false) ∧ w = wr)
  case atStart => exact ⟨0, by omega, by omega, rfl, fun j hj => absurd hj (by omega), rfl⟩
  case round =>
    obtain ⟨k, hk, rfl, rfl, hno, rfl⟩ := hrel
    by_cases hlt : k < n
    · obtain ⟨b', off, rfl, hbl, hc⟩ := H.get hlt
      cases hp0 : isLu (xs.getD k 0)
      · have hp : inB (xs.getD k 0) 1 100000 = false := hp0
        have hbad : b = false := by
          have h1 : notLu (xs.getD k 0) = true := by unfold notLu; rw [hp0]; rfl
          have h2 := any_true (by rw [HL.out]; exact hlt) h1
          rw [← HB.out]; unfold luB; rw [h2]; simp
        subst hbad
        clear H HB hp0
        generalize xs.getD k 0 = x at *
        go_wp2_with (go_at_call 68; refine (l00In_is hp _).mono ?_; rintro e w1 ⟨rfl, rfl⟩)
        go_ret
        exact ⟨rfl, rfl⟩
      · have hp : inB (xs.getD k 0) 1 100000 = true := hp0
        have hn' : ∀ j, j < k + 1 → notLu (xs.getD j 0) = false := fun j hj => by
          rcases Nat.lt_or_ge j k with h | h
          · exact hno.out j h
          · have : j = k := by omega
            subst this; unfold notLu; rw [hp0]; rfl
        have HN := Lib.hid hn'
        clear hn' H hp0
        generalize xs.getD k 0 = x at hc hp
        go_wp2_with (go_at_call 68; refine (l00In_is hp _).mono ?_; rintro e w1 ⟨rfl, rfl⟩)
        go_roundg (n - (k + 1))
        case rel => exact ⟨k + 1, by omega, rfl, by go_num, HN.out, rfl⟩
        case measure => omega
    · have hkk : k = n := by omega
      subst hkk
      have hall := any_false (p := notLu) (xs := xs) (fun j hj => hno.out j (by rw [← HL.out]; exact hj))
      have hbb : decide ((k : Int) ≤ 8) = b := by rw [← HB.out]; unfold luB; rw [hall]; simp
      clear hall H HB
      subst hbb
      by_cases h2 : (k : Int) ≤ 8
      · have d2 : decide ((k : Int) ≤ 8) = true := decide_eq_true h2
        go_wp2
        go_ret
        first | exact ⟨rfl, rfl⟩ | exact ⟨ret_bool d2.symm, rfl⟩
      · have d2 : decide ((k : Int) ≤ 8) = false := decide_eq_false h2
        go_wp2
        go_ret
        first | exact ⟨rfl, rfl⟩ | exact ⟨ret_bool d2.symm, rfl⟩

theorem l12Need_any (A : Option Addr) (n c : Nat) (xs : List Int) (need : Int) (w : World) (H : SlI w A n xs) (hn : n ≤ 1048576) :
    Calls Try.prog 77 #[.slice A n c, .int .i64 need] w fun e w' => e = .returned (.int .i64 (laC need xs n)) ∧ w = w' := by
  have HK := Lib.hid (fun b hb => l12Lamps_is A n c xs w H hn (b := b) hb)
  clear H
  unfold laC
  cases h2 : luB xs n
  · have HQ := Lib.hid (HK.out _ h2)
    rw [Bool.and_false]
    clear HK h2
    go_enter Try.func77, Try.ntmps77
    go_wp2_with (go_at_call 98; refine (HQ.out).mono ?_; rintro e w1 ⟨rfl, rfl⟩)
    go_ret
    exact ⟨rfl, rfl⟩
  have HQ := Lib.hid (HK.out _ h2)
  clear HK h2
  cases h1 : inB need 0 100000
  · go_enter Try.func77, Try.ntmps77
    go_wp2_with (first | (go_at_call 98; refine (HQ.out).mono ?_; rintro e w1 ⟨rfl, rfl⟩) | (go_at_call 68; refine (l00In_is h1 _).mono ?_; rintro e w1 ⟨rfl, rfl⟩))
    go_ret
    exact ⟨rfl, rfl⟩
  · go_enter Try.func77, Try.ntmps77
    go_wp2_with (first | (go_at_call 98; refine (HQ.out).mono ?_; rintro e w1 ⟨rfl, rfl⟩) | (go_at_call 68; refine (l00In_is h1 _).mono ?_; rintro e w1 ⟨rfl, rfl⟩))
    go_ret
    exact ⟨rfl, rfl⟩

/-- The sum of the chosen numbers among the first k. -/
def smS (xs : List Int) (q : Nat → Bool) : Nat → Int
  | 0 => 0
  | k + 1 => if q k then smS xs q k + xs.getD k 0 else smS xs q k
theorem sm_yes {xs : List Int} {q : Nat → Bool} {k : Nat} (h : q k = true) : smS xs q (k + 1) = smS xs q k + xs.getD k 0 := if_pos h
theorem sm_no {xs : List Int} {q : Nat → Bool} {k : Nat} (h : q k = false) : smS xs q (k + 1) = smS xs q k := if_neg (by rw [h]; simp)
/-- All are at least nought and at most a hundred thousand. -/
def smallI (xs : List Int) (n : Nat) : Prop := ∀ k, k < n → 0 ≤ xs.getD k 0 ∧ xs.getD k 0 ≤ 100000
theorem sm_bd {xs : List Int} {n : Nat} (hx : smallI xs n) (q : Nat → Bool) {k : Nat} (hk : k ≤ n) : 0 ≤ smS xs q k ∧ smS xs q k ≤ 100000 * (k : Int) := by
  induction k with
  | zero => exact ⟨Int.le_refl _, by simp [smS]⟩
  | succ k ih =>
    obtain ⟨h1, h2⟩ := ih (by omega)
    obtain ⟨h3, h4⟩ := hx k (by omega)
    cases h : q k
    · rw [sm_no h]; exact ⟨h1, by omega⟩
    · rw [sm_yes h]; exact ⟨by omega, by omega⟩
theorem sm_sel (xs : List Int) (q : Nat → Bool) (k : Nat) : ((selL q k).map fun i => xs.getD i.toNat 0).sum = smS xs q k := by
  induction k with
  | zero => rfl
  | succ k ih =>
    cases h : q k
    · rw [sel_no h, sm_no h, ih]
    · rw [sel_yes h, sm_yes h, List.map_append, List.sum_append, ih]; simp
theorem sm_zero {xs : List Int} {n : Nat} (hx : ∀ k, k < n → xs.getD k 0 = 0) (q : Nat → Bool) {k : Nat} (hk : k ≤ n) : smS xs q k = 0 := by
  induction k with
  | zero => rfl
  | succ k ih =>
    cases h : q k
    · rw [sm_no h]; exact ih (by omega)
    · rw [sm_yes h, ih (by omega), hx k (by omega)]; rfl

theorem l12Sum_any (A : Option Addr) (n c : Nat) (xs : List Int) (b : Nat) (w : World) (H : SlI w A n xs) (n8 : n ≤ 8) (hb : b < 65536) (hx : smallI xs n) :
    Calls Try.prog 79 #[.slice A n c, .int .i64 (b : Int)] w fun e w' => e = .returned (.int .i64 (smS xs b.testBit n)) ∧ w = w' := by
  have HX := Lib.hid hx
  have HB := Lib.hid hb
  clear hx hb
  go_enter Try.func79, Try.ntmps79
  go_wp2_with fail
  go_loopg [5, 6] n (fun gh v x wr => ∃ k : Nat, k ≤ n ∧ gh = n - k ∧ v = .int .i64 (smS xs b.testBit k) ∧ x = .int .i64 k ∧ w = wr)
  case atStart => exact ⟨0, by omega, by omega, rfl, rfl, rfl⟩
  case round =>
    obtain ⟨k, hk, rfl, rfl, rfl, rfl⟩ := hrel
    obtain ⟨s1, s2⟩ := sm_bd HX.out b.testBit hk
    by_cases hlt : k < n
    · obtain ⟨b', off, rfl, hbl, hc⟩ := H.get hlt
      obtain ⟨s3, s4⟩ := HX.out k hlt
      have hbit := bit_is b k HB.out
      clear H
      cases hq : b.testBit k
      · have HE := Lib.hid (sm_no (xs := xs) hq)
        rw [hq] at hbit
        clear hq
        generalize smS xs b.testBit k = S at *
        generalize xs.getD k 0 = x at *
        go_wp2_with fail
        go_roundg (n - (k + 1))
        case rel => exact ⟨k + 1, by omega, rfl, by rw [HE.out], by go_num, rfl⟩
        case measure => omega
      · have HE := Lib.hid (sm_yes (xs := xs) hq)
        rw [hq] at hbit
        clear hq
        generalize smS xs b.testBit k = S at *
        generalize xs.getD k 0 = x at *
        go_wp2_with fail
        go_roundg (n - (k + 1))
        case rel => exact ⟨k + 1, by omega, rfl, by rw [HE.out] <;> go_num, by go_num, rfl⟩
        case measure => omega
    · have hkk : k = n := by omega
      subst hkk
      clear H
      go_wp2
      go_ret
      exact ⟨rfl, rfl⟩

set_option maxHeartbeats 800000 in
theorem l12Some_any (n b : Nat) (w : World) (n16 : n ≤ 16) (hb : b < 65536) :
    Calls Try.prog 78 #[.int .i64 (n : Int), .int .i64 (b : Int)] w (GivesI (selL b.testBit n) w) := by
  have HB := Lib.hid hb
  clear hb
  go_enter Try.func78, Try.ntmps78
  go_wp2_with fail
  go_loopg [5, 6] n (fun gh v x wr => ∃ k : Nat, k ≤ n ∧ gh = n - k ∧ OwnI wr w.heap.size v (selL b.testBit k) ∧ x = .int .i64 k ∧ Below w.heap.size w wr)
  case atStart => exact ⟨0, by omega, by omega, OwnI.lit w (Nat.le_refl _), rfl, bw_alloc (Below.refl _ _) _⟩
  case round =>
    obtain ⟨k, hk, rfl, hown, rfl, hbr⟩ := hrel
    have HO := Lib.hid hown
    have hl := sel_len b.testBit k
    have hsz := hbr.size
    clear hown
    by_cases hlt : k < n
    · have hbit := bit_is b k HB.out
      cases hq : b.testBit k
      · have HE := Lib.hid (sel_no hq)
        rw [hq] at hbit
        clear hq
        go_wp2_with fail
        go_roundg (n - (k + 1))
        case rel => exact ⟨k + 1, by omega, rfl, by rw [HE.out]; exact HO.out, by go_num, hbr⟩
        case measure => omega
      · have HE := Lib.hid (sel_yes hq)
        rw [hq] at hbit
        clear hq
        go_wp2_with (at_builtin; refine wpAppI rfl _ _ rfl _ _ _ rfl (HO.out.alloc _) _ ((k : Int)) rfl (by go_simp) (by omega) (by simp; omega) ?_; intro v4 w4 hown4 hg4 hb4)
        go_roundg (n - (k + 1))
        case rel => exact ⟨k + 1, by omega, rfl, by rw [HE.out]; exact hown4, by go_num, bw_from (bw_alloc hbr _) hb4⟩
        case measure => omega
    · have hkk : k = n := by omega
      subst hkk
      obtain ⟨A', c', rfl⟩ := HO.out.form
      go_wp2
      go_ret
      exact ⟨_, rfl, HO.out, hbr⟩
end Go.Proofs.Ythhilkahfgpncaa
