/-
  Slides: what is valid; ValidSlide in the program.
-/
import Derived.Test.YticohpimkicphaaYa
import Derived.Test.YticohpimkicphaaAny
namespace Go.Proofs.Yticohpimkicphaa
open Go.RowKit
/-- The first place whose element answers yes; -1 if there is none. -/
def fidx (p : Int → Bool) (xs : List Int) : Int := if xs.any p then (xs.findIdx p : Int) else -1
theorem fidx_any (p : Int → Bool) (xs : List Int) : decide (0 ≤ fidx p xs) = xs.any p := by
  unfold fidx; cases xs.any p <;> simp
theorem getD_lt {xs : List Int} {k : Nat} (h : k < xs.length) : xs.getD k 0 = xs[k] := by simp [List.getD_eq_getElem?_getD, h]
theorem fidx_at {p : Int → Bool} {xs : List Int} {k : Nat} (hk : k < xs.length) (hp : p (xs.getD k 0) = true) (hno : ∀ j, j < k → p (xs.getD j 0) = false) : fidx p xs = k := by
  rw [getD_lt hk] at hp
  have h1 : xs.any p = true := List.any_eq_true.2 ⟨xs[k], List.getElem_mem hk, hp⟩
  unfold fidx
  rw [if_pos h1]
  congr 1
  rw [List.findIdx_eq hk]
  exact ⟨hp, fun j hj => by rw [← getD_lt (Nat.lt_trans hj hk)]; exact hno j hj⟩
theorem any_false {p : Int → Bool} {xs : List Int} (hno : ∀ j, j < xs.length → p (xs.getD j 0) = false) : xs.any p = false := by
  rw [List.any_eq_false]
  intro x hx
  obtain ⟨j, hj, rfl⟩ := List.getElem_of_mem hx
  have := hno j hj
  rw [getD_lt hj] at this
  rw [this]; simp
theorem fidx_none {p : Int → Bool} {xs : List Int} (hno : ∀ j, j < xs.length → p (xs.getD j 0) = false) : fidx p xs = -1 := by
  unfold fidx; rw [any_false hno]; rfl
theorem any_true {p : Int → Bool} {xs : List Int} {k : Nat} (hk : k < xs.length) (hp : p (xs.getD k 0) = true) : xs.any p = true := by
  rw [getD_lt hk] at hp
  exact List.any_eq_true.2 ⟨xs[k], List.getElem_mem hk, hp⟩

def isSt (n : Int) : Bool := inB n 1 4
def notSt (n : Int) : Bool := !isSt n
/-- A bar that is not valid among n glasses with the stops ss. -/
def bdB (ss : List Int) (n : Nat) (y : BrE) : Bool :=
  !(inB y.f0 0 ((n : Int) - 1)) || !(inB y.f2 (y.f0 + 1) ((n : Int) - 1)) || !(inB y.f1 0 (ss.getD y.f0.toNat 0 - 1)) || !(inB y.f3 0 (ss.getD y.f2.toNat 0 - 1))
/-- All stops are valid. -/
def stOk (ss : List Int) (n : Nat) : Bool := inB (n : Int) 1 4 && !ss.any notSt
def vsB (ss : List Int) (n : Nat) (bs : List BrE) (m : Nat) : Bool := stOk ss n && (decide ((m : Int) ≤ 8) && !bs.any (bdB ss n))
/-- The stops' bounds. -/
def stBd (ss : List Int) (n : Nat) : Prop := ∀ k, k < n → 1 ≤ ss.getD k 0 ∧ ss.getD k 0 ≤ 4
theorem st_at {ss : List Int} {n : Nat} (hl : ss.length = n) (h : stOk ss n = true) : 1 ≤ n ∧ n ≤ 4 ∧ stBd ss n := by
  unfold stOk at h
  rw [Bool.and_eq_true] at h
  have h1 := inB_true.1 h.1
  refine ⟨by omega, by omega, fun k hk => ?_⟩
  cases h2 : notSt (ss.getD k 0)
  · unfold notSt isSt at h2; exact inB_true.1 (by simpa using h2)
  · have h3 := h.2
    rw [any_true (by omega) h2] at h3; cases h3
theorem bd_ok {ss : List Int} {n : Nat} {y : BrE} (h : bdB ss n y = false) : (0 ≤ y.f0 ∧ y.f0 < y.f2 ∧ y.f2 < n) ∧ (0 ≤ y.f1 ∧ y.f1 < ss.getD y.f0.toNat 0) ∧ (0 ≤ y.f3 ∧ y.f3 < ss.getD y.f2.toNat 0) := by
  unfold bdB at h
  simp only [Bool.or_eq_false_iff, Bool.not_eq_false'] at h
  obtain ⟨⟨⟨h1, h2⟩, h3⟩, h4⟩ := h
  have := inB_true.1 h1; have := inB_true.1 h2; have := inB_true.1 h3; have := inB_true.1 h4
  omega

theorem vsClos_is {n : Int} {b : Bool} (h : isSt n = b) (w : World) :
    Calls Try.prog 58 #[.int .i64 n] w fun e w' => e = .returned (.bool (!b)) ∧ w = w' := by
  have h' : inB n 1 4 = b := h
  go_enter Try.func58, Try.ntmps58
  go_wp2_with (go_at_call 59; refine (within_is (by assumption) _).mono ?_; rintro e w1 ⟨rfl, rfl⟩)
  go_ret
  exact ⟨rfl, rfl⟩

set_option maxHeartbeats 800000 in
theorem vsIdx_any (p : Int → Bool)  (A : Option Addr) (n c : Nat) (xs : List Int) (w : World) (H : SlI w A n xs) (hn : n ≤ 1048576)
    (hcl : ∀ k, k < n → ∀ W, Below w.heap.size w W → Calls Try.prog 58 #[.int .i64 (xs.getD k 0)] W fun e w' => e = .returned (.bool (p (xs.getD k 0))) ∧ Below W.heap.size W w') :
    Calls Try.prog 76 #[.slice A n c, .func (.func 58) #[] #[]] w fun e w' => e = .returned (.int .i64 (fidx p xs)) ∧ Below w.heap.size w w' := by
  have HL := Lib.hid H.length
  have HC := Lib.hid hcl
  clear hcl
  go_enter Try.func76, Try.ntmps76
  go_wp2_with fail
  go_loopw [8] (fun x wr => ∃ k : Nat, k ≤ n ∧ x = .int .i64 k ∧ Hid (∀ j, j < k → p (xs.getD j 0) = false) ∧ Below w.heap.size w wr) (fun x _ => (n - (intOf x).toNat))
  case atStart => exact ⟨0, by omega, rfl, fun j hj => absurd hj (by omega), Below.refl _ _⟩
  case round =>
    obtain ⟨k, hk, rfl, hno, hbr⟩ := hrel
    by_cases hlt : k < n
    · obtain ⟨b, off, rfl, hbl, hc⟩ := (H.below hbr).get hlt
      clear H
      cases hp : p (xs.getD k 0)
      · have hn' : ∀ j, j < k + 1 → p (xs.getD j 0) = false := fun j hj => by
          rcases Nat.lt_or_ge j k with h | h
          · exact hno.out j h
          · have : j = k := by omega
            subst this; exact hp
        have HN := Lib.hid hn'
        clear hn'
        go_wp2_with fail
        refine (HC.out k hlt _ hbr).mono ?_
        rw [hp]
        rintro e w1 ⟨rfl, hb1⟩
        go_wp2_with fail
        go_roundw
        case rel => exact ⟨k + 1, by omega, by go_num, HN.out, bw_trans hbr hb1⟩
        case measure => simp [intOf]; omega
      · have HF := Lib.hid (fidx_at (by rw [HL.out]; exact hlt) hp hno.out)
        go_wp2_with fail
        refine (HC.out k hlt _ hbr).mono ?_
        rw [hp]
        rintro e w1 ⟨rfl, hb1⟩
        go_wp2
        go_ret
        exact ⟨ret_int (by rw [HF.out]), bw_trans hbr hb1⟩
    · have hkk : k = n := by omega
      subst hkk
      have HF := Lib.hid (fidx_none (fun j hj => hno.out j (by rw [← HL.out]; exact hj)))
      clear H
      go_wp2
      go_ret
      exact ⟨ret_int (by rw [HF.out]), hbr⟩

set_option maxHeartbeats 800000 in
theorem vsCon_any (p : Int → Bool)  (A : Option Addr) (n c : Nat) (xs : List Int) (w : World) (H : SlI w A n xs) (hn : n ≤ 1048576) {b : Bool} (hb : xs.any p = b)
    (hcl : ∀ k, k < n → ∀ W, Below w.heap.size w W → Calls Try.prog 58 #[.int .i64 (xs.getD k 0)] W fun e w' => e = .returned (.bool (p (xs.getD k 0))) ∧ Below W.heap.size W w') :
    Calls Try.prog 57 #[.slice A n c, .func (.func 58) #[] #[]] w fun e w' => e = .returned (.bool b) ∧ Below w.heap.size w w' := by
  have HF := Lib.hid (fidx_any p xs)
  have HB := Lib.hid hb
  clear hb
  go_enter Try.func57, Try.ntmps57
  go_wp2_with fail
  refine (vsIdx_any p  A n c xs w H hn hcl).mono ?_
  rintro e w1 ⟨rfl, hb1⟩
  go_wp2
  go_ret
  exact ⟨ret_bool (by rw [← HB.out, ← HF.out]), hb1⟩

set_option maxHeartbeats 1600000 in
theorem vbClos_any (a x b y : Int) (n : Nat) (g1 g2 : Nat) (A : Option Addr) (c : Nat) (ss : List Int) (w : World)
    (hn : w.cell? ⟨g1, 0, none⟩ = some (.int .i64 (n : Int))) (hx : w.cell? ⟨g2, 0, none⟩ = some (.slice A n c)) (H : SlI w A n ss) (n14 : 1 ≤ n ∧ n ≤ 4) (hst : stBd ss n) :
    Calls Try.prog 61 #[.agg #[.int .i64 a, .int .i64 x, .int .i64 b, .int .i64 y], .pointer (some ⟨g1, 0, none⟩), .pointer (some ⟨g2, 0, none⟩)] w fun e w' => e = .returned (.bool (bdB ss n ⟨a, x, b, y⟩)) ∧ Below w.heap.size w w' := by
  have l1 := World.block_lt_of_cell? w _ hn
  have l2 := World.block_lt_of_cell? w _ hx
  obtain ⟨n1, n4⟩ := n14
  unfold bdB
  dsimp only
  have l1' : g1 < w.heap.size := l1
  have l2' : g2 < w.heap.size := l2
  clear l1 l2
  cases h1 : inB a 0 ((n : Int) - 1)
  · clear H hst
    go_enter Try.func61, Try.ntmps61
    go_wp2_with fail
    refine wp_region_bel (by kernel_rfl) (by kernel_rfl) ?_
    repeat (go_big_quiet_step (((go_at_call 59; exact calm_same (within_is h1 _)))))
    refine wpQuiet_nil ?_
    intro w2 hw'
    obtain ⟨tq, hw''⟩ := hw'
    have hw2 := tq.2
    rw [← hw''] at hw2
    clear hw'' tq
    obtain ⟨hcw2, hfw2⟩ := bcell hw2
    try (have hzw2 : w.heap.size < w2.heap.size := by (have h := hw2.size; (try simp at h); omega))
    try (have hyw2 : w.heap.size + 1 < w2.heap.size := by (have h := hw2.size; (try simp at h); omega))
    try (have hxw2 : w.heap.size + 1 + 1 < w2.heap.size := by (have h := hw2.size; (try simp at h); omega))
    try (have hvw2 : w.heap.size + 1 + 1 + 1 < w2.heap.size := by (have h := hw2.size; (try simp at h); omega))
    go_wp2
    go_ret
    exact ⟨rfl, bw_trans (bw_alloc (Below.refl _ _) _) hw2⟩
  obtain ⟨a1, a2⟩ := inB_true.1 h1
  obtain ⟨J, rfl⟩ : ∃ J : Nat, a = (J : Int) := ⟨a.toNat, by omega⟩
  obtain ⟨q, off, rfl, hbl, hc1⟩ := H.get (k := J) (by omega)
  obtain ⟨s1, s2⟩ := hst J (by omega)
  rw [Int.toNat_natCast]
  cases h2 : inB b ((J : Int) + 1) ((n : Int) - 1)
  · clear H hst
    generalize ss.getD J 0 = S1 at *
    go_enter Try.func61, Try.ntmps61
    go_wp2_with fail
    refine wp_region_bel (by kernel_rfl) (by kernel_rfl) ?_
    repeat (go_big_quiet_step (((go_at_call 59; exact calm_same (within_is (by assumption) _)))))
    refine wpQuiet_nil ?_
    intro w2 hw'
    obtain ⟨tq, hw''⟩ := hw'
    have hw2 := tq.2
    rw [← hw''] at hw2
    clear hw'' tq
    obtain ⟨hcw2, hfw2⟩ := bcell hw2
    try (have hzw2 : w.heap.size < w2.heap.size := by (have h := hw2.size; (try simp at h); omega))
    try (have hyw2 : w.heap.size + 1 < w2.heap.size := by (have h := hw2.size; (try simp at h); omega))
    try (have hxw2 : w.heap.size + 1 + 1 < w2.heap.size := by (have h := hw2.size; (try simp at h); omega))
    try (have hvw2 : w.heap.size + 1 + 1 + 1 < w2.heap.size := by (have h := hw2.size; (try simp at h); omega))
    go_wp2
    go_ret
    exact ⟨rfl, bw_trans (bw_alloc (Below.refl _ _) _) hw2⟩
  obtain ⟨b1, b2⟩ := inB_true.1 h2
  obtain ⟨K, rfl⟩ : ∃ K : Nat, b = (K : Int) := ⟨b.toNat, by omega⟩
  obtain ⟨q', off', e', hbl', hc2⟩ := H.get (k := K) (by omega)
  injection e' with e'
  injection e' with e1 e2
  subst e1; subst e2
  obtain ⟨s3, s4⟩ := hst K (by omega)
  rw [Int.toNat_natCast]
  have i1 : (J : Int) < (n : Int) := by omega
  have i2 : (K : Int) < (n : Int) := by omega
  clear H hst
  generalize ss.getD J 0 = S1 at *
  generalize ss.getD K 0 = S2 at *
  cases h3 : inB x 0 (S1 - 1)
  · go_enter Try.func61, Try.ntmps61
    go_wp2_with fail
    refine wp_region_bel (by kernel_rfl) (by kernel_rfl) ?_
    repeat (go_big_quiet_step (((go_at_call 59; exact calm_same (within_is (by assumption) _)))))
    refine wpQuiet_nil ?_
    intro w2 hw'
    obtain ⟨tq, hw''⟩ := hw'
    have hw2 := tq.2
    rw [← hw''] at hw2
    clear hw'' tq
    obtain ⟨hcw2, hfw2⟩ := bcell hw2
    try (have hzw2 : w.heap.size < w2.heap.size := by (have h := hw2.size; (try simp at h); omega))
    try (have hyw2 : w.heap.size + 1 < w2.heap.size := by (have h := hw2.size; (try simp at h); omega))
    try (have hxw2 : w.heap.size + 1 + 1 < w2.heap.size := by (have h := hw2.size; (try simp at h); omega))
    try (have hvw2 : w.heap.size + 1 + 1 + 1 < w2.heap.size := by (have h := hw2.size; (try simp at h); omega))
    go_wp2
    go_ret
    exact ⟨rfl, bw_trans (bw_alloc (Below.refl _ _) _) hw2⟩
  cases h4 : inB y 0 (S2 - 1)
  · go_enter Try.func61, Try.ntmps61
    go_wp2_with fail
    refine wp_region_bel (by kernel_rfl) (by kernel_rfl) ?_
    repeat (go_big_quiet_step (((go_at_call 59; exact calm_same (within_is (by assumption) _)))))
    refine wpQuiet_nil ?_
    intro w2 hw'
    obtain ⟨tq, hw''⟩ := hw'
    have hw2 := tq.2
    rw [← hw''] at hw2
    clear hw'' tq
    obtain ⟨hcw2, hfw2⟩ := bcell hw2
    try (have hzw2 : w.heap.size < w2.heap.size := by (have h := hw2.size; (try simp at h); omega))
    try (have hyw2 : w.heap.size + 1 < w2.heap.size := by (have h := hw2.size; (try simp at h); omega))
    try (have hxw2 : w.heap.size + 1 + 1 < w2.heap.size := by (have h := hw2.size; (try simp at h); omega))
    try (have hvw2 : w.heap.size + 1 + 1 + 1 < w2.heap.size := by (have h := hw2.size; (try simp at h); omega))
    go_wp2
    go_ret
    exact ⟨rfl, bw_trans (bw_alloc (Below.refl _ _) _) hw2⟩
  · go_enter Try.func61, Try.ntmps61
    go_wp2_with fail
    refine wp_region_bel (by kernel_rfl) (by kernel_rfl) ?_
    repeat (go_big_quiet_step (((go_at_call 59; exact calm_same (within_is (by assumption) _)))))
    refine wpQuiet_nil ?_
    intro w2 hw'
    obtain ⟨tq, hw''⟩ := hw'
    have hw2 := tq.2
    rw [← hw''] at hw2
    clear hw'' tq
    obtain ⟨hcw2, hfw2⟩ := bcell hw2
    try (have hzw2 : w.heap.size < w2.heap.size := by (have h := hw2.size; (try simp at h); omega))
    try (have hyw2 : w.heap.size + 1 < w2.heap.size := by (have h := hw2.size; (try simp at h); omega))
    try (have hxw2 : w.heap.size + 1 + 1 < w2.heap.size := by (have h := hw2.size; (try simp at h); omega))
    try (have hvw2 : w.heap.size + 1 + 1 + 1 < w2.heap.size := by (have h := hw2.size; (try simp at h); omega))
    go_wp2
    go_ret
    exact ⟨rfl, bw_trans (bw_alloc (Below.refl _ _) _) hw2⟩

set_option maxHeartbeats 800000 in
theorem vbIdx_any (p : BrE → Bool) (q1 : Value) (q2 : Value) (A : Option Addr) (n c : Nat) (xs : List BrE) (w : World) (H : SlBr w A n xs) (hn : n ≤ 1048576)
    (hcl : ∀ k, k < n → ∀ W, Below w.heap.size w W → Calls Try.prog 61 #[.agg #[.int .i64 ((xs.getD k BrE.zero).f0), .int .i64 ((xs.getD k BrE.zero).f1), .int .i64 ((xs.getD k BrE.zero).f2), .int .i64 ((xs.getD k BrE.zero).f3)], q1, q2] W fun e w' => e = .returned (.bool (p (xs.getD k BrE.zero))) ∧ Below W.heap.size W w') :
    Calls Try.prog 77 #[.slice A n c, .func (.func 61) #[] #[q1, q2]] w fun e w' => e = .returned (.int .i64 (gidx p xs)) ∧ Below w.heap.size w w' := by
  have HL := Lib.hid H.1
  have HC := Lib.hid hcl
  clear hcl
  go_enter Try.func77, Try.ntmps77
  go_wp2_with fail
  go_loopw [8] (fun x wr => ∃ k : Nat, k ≤ n ∧ x = .int .i64 k ∧ Hid (∀ j, j < k → p (xs.getD j BrE.zero) = false) ∧ Below w.heap.size w wr) (fun x _ => (n - (intOf x).toNat))
  case atStart => exact ⟨0, by omega, rfl, fun j hj => absurd hj (by omega), Below.refl _ _⟩
  case round =>
    obtain ⟨k, hk, rfl, hno, hbr⟩ := hrel
    by_cases hlt : k < n
    · obtain ⟨b, off, rfl, hbl, hc0, hc1, hc2, hc3⟩ := (H.below hbr).get hlt
      clear H
      cases hp : p (xs.getD k BrE.zero)
      · have hn' : ∀ j, j < k + 1 → p (xs.getD j BrE.zero) = false := fun j hj => by
          rcases Nat.lt_or_ge j k with h | h
          · exact hno.out j h
          · have : j = k := by omega
            subst this; exact hp
        have HN := Lib.hid hn'
        clear hn'
        have HCK := Lib.hid (HC.out k hlt _ hbr)
        rw [hp] at HCK
        clear HC hp
        generalize xs.getD k BrE.zero = y at *
        go_wp2_with fail
        refine HCK.out.mono ?_
        rintro e w1 ⟨rfl, hb1⟩
        go_wp2_with fail
        go_roundw
        case rel => exact ⟨k + 1, by omega, by go_num, HN.out, bw_trans hbr hb1⟩
        case measure => simp [intOf]; omega
      · have HF := Lib.hid (gidx_at (by rw [HL.out]; exact hlt) hp hno.out)
        have HCK := Lib.hid (HC.out k hlt _ hbr)
        rw [hp] at HCK
        clear HC hp
        generalize xs.getD k BrE.zero = y at *
        go_wp2_with fail
        refine HCK.out.mono ?_
        rintro e w1 ⟨rfl, hb1⟩
        go_wp2
        go_ret
        exact ⟨ret_int (by rw [HF.out]), bw_trans hbr hb1⟩
    · have hkk : k = n := by omega
      subst hkk
      have HF := Lib.hid (gidx_none (fun j hj => hno.out j (by rw [← HL.out]; exact hj)))
      clear H
      go_wp2
      go_ret
      exact ⟨ret_int (by rw [HF.out]), hbr⟩

set_option maxHeartbeats 800000 in
theorem vbCon_any (p : BrE → Bool) (q1 : Value) (q2 : Value) (A : Option Addr) (n c : Nat) (xs : List BrE) (w : World) (H : SlBr w A n xs) (hn : n ≤ 1048576) {b : Bool} (hb : xs.any p = b)
    (hcl : ∀ k, k < n → ∀ W, Below w.heap.size w W → Calls Try.prog 61 #[.agg #[.int .i64 ((xs.getD k BrE.zero).f0), .int .i64 ((xs.getD k BrE.zero).f1), .int .i64 ((xs.getD k BrE.zero).f2), .int .i64 ((xs.getD k BrE.zero).f3)], q1, q2] W fun e w' => e = .returned (.bool (p (xs.getD k BrE.zero))) ∧ Below W.heap.size W w') :
    Calls Try.prog 60 #[.slice A n c, .func (.func 61) #[] #[q1, q2]] w fun e w' => e = .returned (.bool b) ∧ Below w.heap.size w w' := by
  have HF := Lib.hid (gidx_any p xs)
  have HB := Lib.hid hb
  clear hb
  go_enter Try.func60, Try.ntmps60
  go_wp2_with fail
  refine (vbIdx_any p q1 q2 A n c xs w H hn hcl).mono ?_
  rintro e w1 ⟨rfl, hb1⟩
  go_wp2
  go_ret
  exact ⟨ret_bool (by rw [← HB.out, ← HF.out]), hb1⟩

set_option maxHeartbeats 1600000 in
theorem validSlide_any (A : Option Addr) (n c : Nat) (ss : List Int) (B : Option Addr) (m d : Nat) (bs : List BrE) (w : World) (HS : SlI w A n ss) (HB : SlBr w B m bs) (hn : n ≤ 1048576) (hm : m ≤ 1048576) :
    Calls Try.prog 27 #[.agg #[.slice A n c, .slice B m d]] w fun e w' => e = .returned (.bool (vsB ss n bs m)) ∧ Below w.heap.size w w' := by
  have HC := Lib.hid (fun W (hW : Below w.heap.size w W) b hb => vsCon_any notSt A n c ss W (HS.below hW) hn (b := b) hb (fun k _ W _ => (vsClos_is rfl W).mono fun e w' ⟨he, hw⟩ => ⟨he, hw ▸ Below.refl _ _⟩))
  have HL := HS.length
  unfold vsB
  by_cases h0 : (n : Int) < 1
  · have hr : stOk ss n = false := by unfold stOk; rw [inB_lo (by omega)]; rfl
    rw [hr]
    clear HS HB HC hr HL
    go_enter Try.func27, Try.ntmps27
    go_wp2
    go_ret
    refine ⟨rfl, ?_⟩
    repeat (first | exact Below.refl _ _ | refine bw_drew ?_ | refine bw_drewN ?_ _ | refine bw_set ?_ (by simp; try omega) _ | refine bw_alloc ?_ _ | refine bw_trans ?_ (by assumption) | assumption)
  by_cases h4 : (n : Int) ≤ 4
  case neg =>
    have hr : stOk ss n = false := by unfold stOk; rw [inB_hi (by omega)]; rfl
    rw [hr]
    have h4' : 4 < (n : Int) := by omega
    clear HS HB HC hr HL
    go_enter Try.func27, Try.ntmps27
    go_wp2
    go_ret
    refine ⟨rfl, ?_⟩
    repeat (first | exact Below.refl _ _ | refine bw_drew ?_ | refine bw_drewN ?_ _ | refine bw_set ?_ (by simp; try omega) _ | refine bw_alloc ?_ _ | refine bw_trans ?_ (by assumption) | assumption)
  have h4' : ¬ 4 < (n : Int) := by omega
  have hin : inB (n : Int) 1 4 = true := inB_of (by omega) (by omega)
  cases hst : ss.any notSt
  case true =>
    have hr : stOk ss n = false := by unfold stOk; rw [hin, hst]; rfl
    rw [hr]
    have HQ := Lib.hid (fun W hW => HC.out W hW _ hst)
    clear HS HB HC hr HL hin hst
    go_enter Try.func27, Try.ntmps27
    go_wp2_with fail
    refine (HQ.out _ (by (repeat (first | exact Below.refl _ _ | refine bw_drew ?_ | refine bw_drewN ?_ _ | refine bw_set ?_ (by simp; try omega) _ | refine bw_alloc ?_ _ | refine bw_trans ?_ (by assumption) | assumption)))).mono ?_
    rintro e w1 ⟨rfl, hb1⟩
    go_wp2
    go_ret
    refine ⟨rfl, bw_trans ?_ hb1⟩
    repeat (first | exact Below.refl _ _ | refine bw_drew ?_ | refine bw_drewN ?_ _ | refine bw_set ?_ (by simp; try omega) _ | refine bw_alloc ?_ _ | refine bw_trans ?_ (by assumption) | assumption)
  have hr : stOk ss n = true := by unfold stOk; rw [hin, hst]; rfl
  obtain ⟨n1, n4, hbd⟩ := st_at HL hr
  rw [hr]
  have HQ := Lib.hid (fun W hW => HC.out W hW _ hst)
  by_cases hm8 : (m : Int) ≤ 8
  case neg =>
    rw [decide_eq_false hm8]
    clear HS HB HC hr HL hin hst
    go_enter Try.func27, Try.ntmps27
    go_wp2_with fail
    refine (HQ.out _ (by (repeat (first | exact Below.refl _ _ | refine bw_drew ?_ | refine bw_drewN ?_ _ | refine bw_set ?_ (by simp; try omega) _ | refine bw_alloc ?_ _ | refine bw_trans ?_ (by assumption) | assumption)))).mono ?_
    rintro e w1 ⟨rfl, hb1⟩
    have hc1 : w1.cell? ⟨w.heap.size, 1, none⟩ = some (.slice B m d) := cell_of hb1 (by go_simp)
    go_wp2
    go_ret
    refine ⟨rfl, bw_trans ?_ hb1⟩
    repeat (first | exact Below.refl _ _ | refine bw_drew ?_ | refine bw_drewN ?_ _ | refine bw_set ?_ (by simp; try omega) _ | refine bw_alloc ?_ _ | refine bw_trans ?_ (by assumption) | assumption)
  rw [decide_eq_true hm8]
  have HBC := Lib.hid (fun W (hW : Below w.heap.size w W) g1 g2 (hg1 : W.cell? ⟨g1, 0, none⟩ = some (.int .i64 (n : Int))) (hg2 : W.cell? ⟨g2, 0, none⟩ = some (.slice A n c)) => vbCon_any (bdB ss n) (.pointer (some ⟨g1, 0, none⟩)) (.pointer (some ⟨g2, 0, none⟩)) B m d bs W (HB.below hW) hm rfl
    (fun k hk W2 hW2 => vbClos_any _ _ _ _ n g1 g2 A c ss W2 (cell_of hW2 hg1) (cell_of hW2 hg2) ((HS.below hW).below hW2) ⟨n1, n4⟩ hbd))
  clear HS HB HC hr HL hin hst hbd
  have hz : (true && (true && !bs.any (bdB ss n))) = !bs.any (bdB ss n) := rfl
  rw [hz]
  clear hz
  generalize bs.any (bdB ss n) = R at *
  go_enter Try.func27, Try.ntmps27
  go_wp2_with fail
  refine (HQ.out _ (by (repeat (first | exact Below.refl _ _ | refine bw_drew ?_ | refine bw_drewN ?_ _ | refine bw_set ?_ (by simp; try omega) _ | refine bw_alloc ?_ _ | refine bw_trans ?_ (by assumption) | assumption)))).mono ?_
  rintro e w1 ⟨rfl, hb1⟩
  have hbw : Below w.heap.size w w1 := bw_trans (by (repeat (first | exact Below.refl _ _ | refine bw_drew ?_ | refine bw_drewN ?_ _ | refine bw_set ?_ (by simp; try omega) _ | refine bw_alloc ?_ _ | refine bw_trans ?_ (by assumption) | assumption))) hb1
  have hc0 : w1.cell? ⟨w.heap.size, 0, none⟩ = some (.slice A n c) := cell_of hb1 (by go_simp)
  have hc1 : w1.cell? ⟨w.heap.size, 1, none⟩ = some (.slice B m d) := cell_of hb1 (by go_simp)
  have hcn : w1.cell? ⟨w.heap.size + 1, 0, none⟩ = some (.int .i64 (n : Int)) := cell_of hb1 (by go_simp)
  have HR := Lib.hid (HBC.out w1 hbw (w.heap.size + 1) w.heap.size hcn hc0)
  clear HBC HQ hcn
  go_wp2_with fail
  refine HR.out.mono ?_
  rintro e w2 ⟨rfl, hb2⟩
  go_wp2
  go_ret
  exact ⟨by cases R <;> rfl, bw_trans hbw hb2⟩
end Go.Proofs.Yticohpimkicphaa
