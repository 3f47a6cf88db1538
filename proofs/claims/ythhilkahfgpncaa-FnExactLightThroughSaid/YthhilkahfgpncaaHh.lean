/-
  Light behind losses: in the program and in the reference; the law.
-/
import Derived.Test.YthhilkahfgpncaaHf
import Derived.Test.YthhilkahfgpncaaFrac
namespace Go.Proofs.Ythhilkahfgpncaa
open Go.RowKit

def notLo (n : Int) : Bool := !inB n 0 1000
theorem loClos_is {n : Int} {b : Bool} (h : inB n 0 1000 = b) (w : World) :
    Calls Try.prog 72 #[.int .i64 n] w fun e w' => e = .returned (.bool (!b)) ∧ w = w' := by
  go_enter Try.func72, Try.ntmps72
  go_wp2_with (go_at_call 70; refine (within_is (by assumption) _).mono ?_; rintro e w1 ⟨rfl, rfl⟩)
  go_ret
  exact ⟨rfl, rfl⟩

set_option maxHeartbeats 800000 in
theorem loIdx_any (p : Int → Bool)  (A : Option Addr) (n c : Nat) (xs : List Int) (w : World) (H : SlI w A n xs) (hn : n ≤ 1048576)
    (hcl : ∀ k, k < n → ∀ W, Below w.heap.size w W → Calls Try.prog 72 #[.int .i64 (xs.getD k 0)] W fun e w' => e = .returned (.bool (p (xs.getD k 0))) ∧ Below W.heap.size W w') :
    Calls Try.prog 96 #[.slice A n c, .func (.func 72) #[] #[]] w fun e w' => e = .returned (.int .i64 (fidx p xs)) ∧ Below w.heap.size w w' := by
  have HL := Lib.hid H.length
  have HC := Lib.hid hcl
  clear hcl
  go_enter Try.func96, Try.ntmps96
  go_wp2_with fail
  go_loopw [8] (fun x wr => ∃ k : Nat, k ≤ n ∧ x = .int .i64 k ∧ Hid (∀ j, j < k → p (xs.getD j 0) = false) ∧ Below w.heap.size w wr) (fun x _ => (n - (intOf x).toNat))
  case atStart => exact ⟨0, by omega, rfl, fun j hj => absurd hj (by omega), Below.refl _ _⟩
  case round =>
    obtain ⟨k, hk, rfl, hno, hbr⟩ := hrel
    by_cases hlt : k < n
    · obtain ⟨b, off, rfl, hbl, hc⟩ := (H.below hbr).get hlt
      clear H
      cases hp : p (xs.getD k 0)
      · have hn' : ∀ j, j < k + 1 → p (xs.getD j 0) = false := fun j hj => by
          rcases Nat.lt_or_ge j k with h | h
          · exact hno.out j h
          · have : j = k := by omega
            subst this; exact hp
        have HN := Lib.hid hn'
        clear hn'
        go_wp2_with fail
        refine (HC.out k hlt _ hbr).mono ?_
        rw [hp]
        rintro e w1 ⟨rfl, hb1⟩
        go_wp2_with fail
        go_roundw
        case rel => exact ⟨k + 1, by omega, by go_num, HN.out, bw_trans hbr hb1⟩
        case measure => simp [intOf]; omega
      · have HF := Lib.hid (fidx_at (by rw [HL.out]; exact hlt) hp hno.out)
        go_wp2_with fail
        refine (HC.out k hlt _ hbr).mono ?_
        rw [hp]
        rintro e w1 ⟨rfl, hb1⟩
        go_wp2
        go_ret
        exact ⟨ret_int (by rw [HF.out]), bw_trans hbr hb1⟩
    · have hkk : k = n := by omega
      subst hkk
      have HF := Lib.hid (fidx_none (fun j hj => hno.out j (by rw [← HL.out]; exact hj)))
      clear H
      go_wp2
      go_ret
      exact ⟨ret_int (by rw [HF.out]), hbr⟩

set_option maxHeartbeats 800000 in
theorem loCon_any (p : Int → Bool)  (A : Option Addr) (n c : Nat) (xs : List Int) (w : World) (H : SlI w A n xs) (hn : n ≤ 1048576) {b : Bool} (hb : xs.any p = b)
    (hcl : ∀ k, k < n → ∀ W, Below w.heap.size w W → Calls Try.prog 72 #[.int .i64 (xs.getD k 0)] W fun e w' => e = .returned (.bool (p (xs.getD k 0))) ∧ Below W.heap.size W w') :
    Calls Try.prog 71 #[.slice A n c, .func (.func 72) #[] #[]] w fun e w' => e = .returned (.bool b) ∧ Below w.heap.size w w' := by
  have HF := Lib.hid (fidx_any p xs)
  have HB := Lib.hid hb
  clear hb
  go_enter Try.func71, Try.ntmps71
  go_wp2_with fail
  refine (loIdx_any p  A n c xs w H hn hcl).mono ?_
  rintro e w1 ⟨rfl, hb1⟩
  go_wp2
  go_ret
  exact ⟨ret_bool (by rw [← HB.out, ← HF.out]), hb1⟩

/-- The number and what it is divided by behind the first k losses. -/
def pN (lum : Int) (xs : List Int) : Nat → Int
  | 0 => lum
  | k + 1 => pN lum xs k * (1000 - xs.getD k 0)
def pD : Nat → Int
  | 0 => 1
  | k + 1 => pD k * 1000
theorem mul_bd0 {a b A : Int} (h1 : 0 ≤ a) (h2 : a ≤ A) (h3 : 0 ≤ b) (h4 : b ≤ 1000) : 0 ≤ a * b ∧ a * b ≤ A * 1000 :=
  ⟨Int.mul_nonneg h1 h3, Int.mul_le_mul h2 h4 h3 (by omega)⟩
def bdN : Nat → Int
  | 0 => 100000
  | k + 1 => bdN k * 1000
theorem pN_bd {lum : Int} {xs : List Int} (hl : 0 ≤ lum ∧ lum ≤ 100000) {k : Nat} (h : ∀ j, j < k → 0 ≤ xs.getD j 0 ∧ xs.getD j 0 ≤ 1000) : 0 ≤ pN lum xs k ∧ pN lum xs k ≤ bdN k := by
  induction k with
  | zero => exact hl
  | succ k ih =>
    obtain ⟨a, b⟩ := ih fun j hj => h j (by omega)
    obtain ⟨c, d⟩ := h k (by omega)
    exact mul_bd0 a b (by omega) (by omega)
theorem bd4 {k : Nat} (h : k ≤ 4) : bdN k ≤ 100000000000000000 ∧ 1 ≤ pD k ∧ pD k ≤ 1000000000000 := by
  match k, h with
  | 0, _ => decide
  | 1, _ => decide
  | 2, _ => decide
  | 3, _ => decide
  | 4, _ => decide
theorem bd3 {k : Nat} (h : k ≤ 3) : bdN k ≤ 100000000000000 ∧ 1 ≤ pD k ∧ pD k ≤ 1000000000 := by
  match k, h with
  | 0, _ => decide
  | 1, _ => decide
  | 2, _ => decide
  | 3, _ => decide

def ltOk (lum : Int) (xs : List Int) (n : Nat) : Bool := inB lum 0 100000 && decide (n ≤ 4) && !xs.any notLo
def ltT (lum : Int) (xs : List Int) (n : Nat) : Int × Int × Int := if ltOk lum xs n then (lowNum (pN lum xs n) (pD n), lowDen (pN lum xs n) (pD n), 0) else (0, 0, 2)
theorem lt_no {lum : Int} {xs : List Int} {n : Nat} (h : ltOk lum xs n = false) : ltT lum xs n = (0, 0, 2) := by unfold ltT; rw [h]; rfl
theorem lt_yes {lum : Int} {xs : List Int} {n : Nat} (h : ltOk lum xs n = true) : ltT lum xs n = (lowNum (pN lum xs n) (pD n), lowDen (pN lum xs n) (pD n), 0) := by unfold ltT; rw [h]; rfl
theorem lo_at {xs : List Int} (h : xs.any notLo = false) {k : Nat} (hk : k < xs.length) : 0 ≤ xs.getD k 0 ∧ xs.getD k 0 ≤ 1000 := by
  rcases Bool.eq_false_or_eq_true (notLo (xs.getD k 0)) with h1 | h1
  · rw [any_true hk h1] at h; cases h
  · unfold notLo at h1; exact inB_true.1 (by simpa using h1)

set_option maxRecDepth 100000 in
set_option maxHeartbeats 800000 in
theorem lightThrough_any (lum : Int) (A : Option Addr) (n c : Nat) (xs : List Int) (w : World) (H : SlI w A n xs) (hn : n ≤ 1048576) :
    Calls Try.prog 31 #[.int .i64 lum, .slice A n c] w fun e w' => e = .returned (.tuple #[.agg #[.int .i64 ((ltT lum xs n).1), .int .i64 ((ltT lum xs n).2.1)], .int .i64 ((ltT lum xs n).2.2)]) ∧ Below w.heap.size w w' := by
  cases h1 : inB lum 0 100000
  · have hT := lt_no (lum := lum) (xs := xs) (n := n) (by unfold ltOk; rw [h1]; rfl)
    have HT := Lib.hid hT
    clear hT
    go_enter Try.func31, Try.ntmps31
    go_wp2_with (go_at_call 70; refine (within_is h1 _).mono ?_; rintro e w1 ⟨rfl, rfl⟩)
    refine bodyPost_ret (v := .tuple #[.agg #[.int .i64 (0), .int .i64 (0)], .int .i64 (2)]) (by simp [results, Try.results31, go_sem, *]) rfl ⟨by rw [HT.out], ?_⟩
    repeat (first | exact Below.refl _ _ | refine bw_drew ?_ | refine bw_drewN ?_ _ | refine bw_set ?_ (by simp; try omega) _ | refine bw_alloc ?_ _ | refine bw_trans ?_ (by assumption) | assumption)
  by_cases h2 : n ≤ 4
  · have d2 : decide (4 < (n : Int)) = false := decide_eq_false (by omega)
    have HW : SlI (w.alloc (.cells #[.int .i64 0, .int .i64 0] 46)) A n xs := H.below (bw_alloc (Below.refl _ _) _)
    have hcl : ∀ k, k < n → ∀ W, Below (w.alloc (.cells #[.int .i64 0, .int .i64 0] 46)).heap.size (w.alloc (.cells #[.int .i64 0, .int .i64 0] 46)) W → Calls Try.prog 72 #[.int .i64 (xs.getD k 0)] W fun e w' => e = .returned (.bool (notLo (xs.getD k 0))) ∧ Below W.heap.size W w' :=
      fun k _ W _ => (loClos_is rfl W).mono fun e w' ⟨he, hw⟩ => ⟨he, hw ▸ Below.refl _ _⟩
    have HCL := Lib.hid hcl
    clear hcl
    cases h3 : xs.any notLo
    · have hT := lt_yes (lum := lum) (xs := xs) (n := n) (by unfold ltOk; rw [h1, h3, decide_eq_true h2]; rfl)
      have HT := Lib.hid hT
      have H3 := Lib.hid h3
      have HL := Lib.hid H.length
      have hlum := inB_true.1 h1
      clear hT h3
      go_enter Try.func31, Try.ntmps31
      go_wp2_with (go_at_call 70; refine (within_is h1 _).mono ?_; rintro e w1 ⟨rfl, rfl⟩)
      refine (loCon_any notLo A n c xs _ HW hn H3.out HCL.out).mono ?_
      rintro e w1 ⟨rfl, hb1⟩
      have hz1 : w.heap.size < w1.heap.size := by (have h := hb1.size; simp at h; omega)
      go_wp2_with fail
      go_loop [6, 7, 26] (fun x y z => ∃ k : Nat, k ≤ n ∧ x = .int .i64 (pN lum xs k) ∧ y = .int .i64 (pD k) ∧ z = .int .i64 k) (fun _ _ z => (n - (intOf z).toNat))
      case atStart => exact ⟨0, by omega, rfl, rfl, rfl⟩
      case round =>
        obtain ⟨k, hk, rfl, rfl, rfl⟩ := hrel
        have hpn := pN_bd (xs := xs) hlum (k := k) (fun j hj => lo_at H3.out (by rw [HL.out]; omega))
        by_cases hlt : k < n
        · obtain ⟨e1, e2, e3⟩ := bd3 (k := k) (by omega)
          obtain ⟨g1, g2⟩ := hpn
          obtain ⟨x1, x2⟩ := lo_at H3.out (k := k) (by rw [HL.out]; exact hlt)
          obtain ⟨b, off, rfl, hbl, hc⟩ := (HW.below hb1).get hlt
          have hq : pN lum xs (k + 1) = pN lum xs k * (1000 - xs.getD k 0) := rfl
          have hq2 : pD (k + 1) = pD k * 1000 := rfl
          have HQ := Lib.hid hq
          have HQ2 := Lib.hid hq2
          clear H HW hq hq2
          generalize xs.getD k 0 = x at *
          generalize pN lum xs k = p at *
          generalize pD k = q at *
          obtain ⟨m1, m2⟩ := mul_bd0 (a := p) (b := 1000 - x) (A := 100000000000000) g1 (by omega) (by omega) (by omega)
          go_wp2
          go_round
          case rel => exact ⟨k + 1, by omega, by rw [HQ.out], by rw [HQ2.out], by go_num⟩
          case measure => simp [intOf]; omega
        · have hkk : k = n := by omega
          subst hkk
          obtain ⟨e1, e2, e3⟩ := bd4 h2
          obtain ⟨g1, g2⟩ := hpn
          clear H HW
          generalize pN lum xs k = p at *
          generalize pD k = q at *
          go_wp2_with fail
          refine (lowest_any p q _ ⟨by omega, by omega⟩ ⟨by omega, by omega⟩).mono ?_
          rintro e w2 ⟨rfl, hb2⟩
          obtain ⟨hc1, hf1⟩ := bcell hb1
          obtain ⟨hc2, hf2⟩ := bcell hb2
          have hz2 : w.heap.size < w2.heap.size := by (have h := hb2.size; omega)
          go_wp2
          refine bodyPost_ret (v := .tuple #[.agg #[.int .i64 (lowNum p q), .int .i64 (lowDen p q)], .int .i64 (0)]) (by simp [results, Try.results31, go_sem, *]) rfl ⟨by rw [HT.out], ?_⟩
          repeat (first | exact Below.refl _ _ | refine bw_drew ?_ | refine bw_drewN ?_ _ | refine bw_set ?_ (by simp; try omega) _ | refine bw_alloc ?_ _ | refine bw_trans ?_ (by assumption) | assumption)
    · have hT := lt_no (lum := lum) (xs := xs) (n := n) (by unfold ltOk; rw [h3]; simp)
      have HT := Lib.hid hT
      have H3 := Lib.hid h3
      clear hT h3
      go_enter Try.func31, Try.ntmps31
      go_wp2_with (go_at_call 70; refine (within_is h1 _).mono ?_; rintro e w1 ⟨rfl, rfl⟩)
      refine (loCon_any notLo A n c xs _ HW hn H3.out HCL.out).mono ?_
      rintro e w1 ⟨rfl, hb1⟩
      have hz1 : w.heap.size < w1.heap.size := by (have h := hb1.size; simp at h; omega)
      obtain ⟨hc1, hf1⟩ := bcell hb1
      clear H HW
      go_wp2
      refine bodyPost_ret (v := .tuple #[.agg #[.int .i64 (0), .int .i64 (0)], .int .i64 (2)]) (by simp [results, Try.results31, go_sem, *]) rfl ⟨by rw [HT.out], ?_⟩
      repeat (first | exact Below.refl _ _ | refine bw_drew ?_ | refine bw_drewN ?_ _ | refine bw_set ?_ (by simp; try omega) _ | refine bw_alloc ?_ _ | refine bw_trans ?_ (by assumption) | assumption)
  · have d2 : decide (4 < (n : Int)) = true := decide_eq_true (by omega)
    have hT := lt_no (lum := lum) (xs := xs) (n := n) (by unfold ltOk; rw [decide_eq_false h2]; simp)
    have HT := Lib.hid hT
    clear hT
    go_enter Try.func31, Try.ntmps31
    go_wp2_with (go_at_call 70; refine (within_is h1 _).mono ?_; rintro e w1 ⟨rfl, rfl⟩)
    refine bodyPost_ret (v := .tuple #[.agg #[.int .i64 (0), .int .i64 (0)], .int .i64 (2)]) (by simp [results, Try.results31, go_sem, *]) rfl ⟨by rw [HT.out], ?_⟩
    repeat (first | exact Below.refl _ _ | refine bw_drew ?_ | refine bw_drewN ?_ _ | refine bw_set ?_ (by simp; try omega) _ | refine bw_alloc ?_ _ | refine bw_trans ?_ (by assumption) | assumption)
end Go.Proofs.Ythhilkahfgpncaa
