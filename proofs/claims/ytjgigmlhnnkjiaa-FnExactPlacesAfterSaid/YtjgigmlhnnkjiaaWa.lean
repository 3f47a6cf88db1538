/-
  Valid wheels: in the program and in the reference.
-/
import Derived.Test.YtjgigmlhnnkjiaaSw
import Derived.Test.YtjgigmlhnnkjiaaAny
namespace Go.Proofs.Ytjgigmlhnnkjiaa
open Go.RowKit

def isTe (n : Int) : Bool := inB n 2 200
theorem isTe_true {n : Int} : isTe n = true ↔ 2 ≤ n ∧ n ≤ 200 := inB_true
def badW (y : WhE) : Bool := !isTe y.f0
theorem whClos_any (y : WhE) (w : World) :
    Calls Try.prog 37 #[.agg #[.int .i64 (y.f0), .bool (y.f1)]] w fun e w' => e = .returned (.bool (badW y)) ∧ Below w.heap.size w w' := by
  obtain ⟨a, b⟩ := y
  cases h : inB a 2 200
  · have h' : badW ⟨a, b⟩ = true := by unfold badW isTe; rw [h]; rfl
    have HH := Lib.hid h'
    clear h'
    go_enter Try.func37, Try.ntmps37
    go_wp2_with (go_at_call 35; refine (within_is h _).mono ?_; rintro e w1 ⟨rfl, rfl⟩)
    go_ret
    refine ⟨ret_bool HH.out.symm, ?_⟩
    repeat (first | exact Below.refl _ _ | refine bw_drew ?_ | refine bw_drewN ?_ _ | refine bw_set ?_ (by simp; try omega) _ | refine bw_alloc ?_ _ | refine bw_trans ?_ (by assumption) | assumption)
  · have h' : badW ⟨a, b⟩ = false := by unfold badW isTe; rw [h]; rfl
    have HH := Lib.hid h'
    clear h'
    go_enter Try.func37, Try.ntmps37
    go_wp2_with (go_at_call 35; refine (within_is h _).mono ?_; rintro e w1 ⟨rfl, rfl⟩)
    go_ret
    refine ⟨ret_bool HH.out.symm, ?_⟩
    repeat (first | exact Below.refl _ _ | refine bw_drew ?_ | refine bw_drewN ?_ _ | refine bw_set ?_ (by simp; try omega) _ | refine bw_alloc ?_ _ | refine bw_trans ?_ (by assumption) | assumption)

set_option maxHeartbeats 800000 in
theorem whIdx_any (p : WhE → Bool)  (A : Option Addr) (n c : Nat) (xs : List WhE) (w : World) (H : SlWh w A n xs) (hn : n ≤ 1048576)
    (hcl : ∀ (y : WhE) W, Below w.heap.size w W → Calls Try.prog 37 #[.agg #[.int .i64 (y.f0), .bool (y.f1)]] W fun e w' => e = .returned (.bool (p y)) ∧ Below W.heap.size W w') :
    Calls Try.prog 55 #[.slice A n c, .func (.func 37) #[] #[]] w fun e w' => e = .returned (.int .i64 (gidx p xs)) ∧ Below w.heap.size w w' := by
  have HL := Lib.hid H.1
  have HC := Lib.hid hcl
  clear hcl
  go_enter Try.func55, Try.ntmps55
  go_wp2_with fail
  go_loopw [8] (fun x wr => ∃ k : Nat, k ≤ n ∧ x = .int .i64 k ∧ Hid (∀ j, j < k → p (xs.getD j WhE.zero) = false) ∧ Below w.heap.size w wr) (fun x _ => (n - (intOf x).toNat))
  case atStart => exact ⟨0, by omega, rfl, fun j hj => absurd hj (by omega), Below.refl _ _⟩
  case round =>
    obtain ⟨k, hk, rfl, hno, hbr⟩ := hrel
    by_cases hlt : k < n
    · obtain ⟨b, off, rfl, hbl, hc0, hc1⟩ := (H.below hbr).get hlt
      clear H
      cases hp : p (xs.getD k WhE.zero)
      · have hn' : ∀ j, j < k + 1 → p (xs.getD j WhE.zero) = false := fun j hj => by
          rcases Nat.lt_or_ge j k with h | h
          · exact hno.out j h
          · have : j = k := by omega
            subst this; exact hp
        have HN := Lib.hid hn'
        clear hn'
        generalize xs.getD k WhE.zero = y at *
        go_wp2_with fail
        refine (HC.out y _ hbr).mono ?_
        rw [hp]
        rintro e w1 ⟨rfl, hb1⟩
        go_wp2_with fail
        go_roundw
        case rel => exact ⟨k + 1, by omega, by go_num, HN.out, bw_trans hbr hb1⟩
        case measure => simp [intOf]; omega
      · have HF := Lib.hid (gidx_at (by rw [HL.out]; exact hlt) hp hno.out)
        generalize xs.getD k WhE.zero = y at *
        go_wp2_with fail
        refine (HC.out y _ hbr).mono ?_
        rw [hp]
        rintro e w1 ⟨rfl, hb1⟩
        go_wp2
        go_ret
        exact ⟨ret_int (by rw [HF.out]), bw_trans hbr hb1⟩
    · have hkk : k = n := by omega
      subst hkk
      have HF := Lib.hid (gidx_none (fun j hj => hno.out j (by rw [← HL.out]; exact hj)))
      clear H
      go_wp2
      go_ret
      exact ⟨ret_int (by rw [HF.out]), hbr⟩

set_option maxHeartbeats 800000 in
theorem whCon_any (p : WhE → Bool)  (A : Option Addr) (n c : Nat) (xs : List WhE) (w : World) (H : SlWh w A n xs) (hn : n ≤ 1048576) {b : Bool} (hb : xs.any p = b)
    (hcl : ∀ (y : WhE) W, Below w.heap.size w W → Calls Try.prog 37 #[.agg #[.int .i64 (y.f0), .bool (y.f1)]] W fun e w' => e = .returned (.bool (p y)) ∧ Below W.heap.size W w') :
    Calls Try.prog 36 #[.slice A n c, .func (.func 37) #[] #[]] w fun e w' => e = .returned (.bool b) ∧ Below w.heap.size w w' := by
  have HF := Lib.hid (gidx_any p xs)
  have HB := Lib.hid hb
  clear hb
  go_enter Try.func36, Try.ntmps36
  go_wp2_with fail
  refine (whIdx_any p  A n c xs w H hn hcl).mono ?_
  rintro e w1 ⟨rfl, hb1⟩
  go_wp2
  go_ret
  exact ⟨ret_bool (by rw [← HB.out, ← HF.out]), hb1⟩

/-- Valid wheels. -/
def vwB (crank : Int) (xs : List WhE) (n : Nat) : Bool := isTe crank && (decide (n ≤ 8) && !xs.any badW)
theorem vw_false1 {crank : Int} {xs : List WhE} {n : Nat} (h : isTe crank = false) : vwB crank xs n = false := by unfold vwB; rw [h]; rfl
theorem vw_false2 {crank : Int} {xs : List WhE} {n : Nat} (h : ¬ n ≤ 8) : vwB crank xs n = false := by unfold vwB; rw [decide_eq_false h]; simp
theorem vw_false3 {crank : Int} {xs : List WhE} {n : Nat} (h : xs.any badW = true) : vwB crank xs n = false := by unfold vwB; rw [h]; simp
theorem vw_true {crank : Int} {xs : List WhE} {n : Nat} (h1 : isTe crank = true) (h2 : n ≤ 8) (h3 : xs.any badW = false) : vwB crank xs n = true := by unfold vwB; rw [h1, h3, decide_eq_true h2]; rfl

set_option maxHeartbeats 800000 in
theorem validWheels_is (crank : Int) (A : Option Addr) (n c : Nat) (xs : List WhE) (w : World) (H : SlWh w A n xs) (hn : n ≤ 1048576) {b : Bool} (hb : vwB crank xs n = b) :
    Calls Try.prog 13 #[.int .i64 crank, .slice A n c] w fun e w' => e = .returned (.bool b) ∧ Below w.heap.size w w' := by
  cases h1 : inB crank 2 200
  · rw [vw_false1 h1] at hb
    subst hb
    go_enter Try.func13, Try.ntmps13
    go_wp2_with (go_at_call 35; refine (within_is h1 _).mono ?_; rintro e w1 ⟨rfl, rfl⟩)
    go_ret
    exact ⟨rfl, Below.refl _ _⟩
  by_cases h2 : n ≤ 8
  · have d2 : decide ((n : Int) ≤ 8) = true := decide_eq_true (by omega)
    cases h3 : xs.any badW
    · rw [vw_true h1 h2 h3] at hb
      subst hb
      have H3 := Lib.hid h3
      clear h3
      go_enter Try.func13, Try.ntmps13
      go_wp2_with (go_at_call 35; refine (within_is h1 _).mono ?_; rintro e w1 ⟨rfl, rfl⟩)
      refine (whCon_any badW A n c xs _ H hn H3.out (fun y W _ => whClos_any y W)).mono ?_
      rintro e w1 ⟨rfl, hb1⟩
      go_wp2
      go_ret
      exact ⟨rfl, hb1⟩
    · rw [vw_false3 h3] at hb
      subst hb
      have H3 := Lib.hid h3
      clear h3
      go_enter Try.func13, Try.ntmps13
      go_wp2_with (go_at_call 35; refine (within_is h1 _).mono ?_; rintro e w1 ⟨rfl, rfl⟩)
      refine (whCon_any badW A n c xs _ H hn H3.out (fun y W _ => whClos_any y W)).mono ?_
      rintro e w1 ⟨rfl, hb1⟩
      go_wp2
      go_ret
      exact ⟨rfl, hb1⟩
  · have d2 : decide ((n : Int) ≤ 8) = false := decide_eq_false (by omega)
    rw [vw_false2 h2] at hb
    subst hb
    go_enter Try.func13, Try.ntmps13
    go_wp2_with (go_at_call 35; refine (within_is h1 _).mono ?_; rintro e w1 ⟨rfl, rfl⟩)
    go_ret
    exact ⟨rfl, Below.refl _ _⟩

theorem l14Teeth_is {n : Int} {b : Bool} (h : isTe n = b) (w : World) :
    Calls Try.prog 40 #[.int .i64 n] w fun e w' => e = .returned (.bool b) ∧ w = w' := by
  have h' : inB n 2 200 = b := h
  go_enter Try.func40, Try.ntmps40
  go_wp2_with (go_at_call 41; refine (l00In_is (by assumption) _).mono ?_; rintro e w1 ⟨rfl, rfl⟩)
  go_ret
  exact ⟨rfl, rfl⟩

set_option maxHeartbeats 800000 in
theorem l14Ok_is (crank : Int) (A : Option Addr) (n c : Nat) (xs : List WhE) (w : World) (H : SlWh w A n xs) (hn : n ≤ 1048576) {b : Bool} (hb : vwB crank xs n = b) :
    Calls Try.prog 33 #[.int .i64 crank, .slice A n c] w fun e w' => e = .returned (.bool b) ∧ Below w.heap.size w w' := by
  have HL := Lib.hid H.1
  have HB := Lib.hid hb
  clear hb
  go_enter Try.func33, Try.ntmps33
  go_wp2_with fail
  go_loopw [5] (fun x wr => ∃ k : Nat, k ≤ n ∧ x = .int .i64 k ∧ Hid (∀ j, j < k → badW (xs.getD j WhE.zero) = false) ∧ Below w.heap.size w wr) (fun x _ => (n - (intOf x).toNat))
  case atStart => exact ⟨0, by omega, rfl, fun j hj => absurd hj (by omega), Below.refl _ _⟩
  case round =>
    obtain ⟨k, hk, rfl, hno, hbr⟩ := hrel
    by_cases hlt : k < n
    · obtain ⟨bb, off, rfl, hbl, hc0, hc1⟩ := (H.below hbr).get hlt
      clear H
      cases hp : isTe (xs.getD k WhE.zero).f0
      · have hbad : b = false := by
          rw [← HB.out]
          exact vw_false3 (gany_true (d := WhE.zero) (k := k) (by rw [HL.out]; exact hlt) (by unfold badW; rw [hp]; rfl))
        subst hbad
        clear HB
        generalize xs.getD k WhE.zero = y at *
        go_wp2_with (go_at_call 40; refine (l14Teeth_is hp _).mono ?_; rintro e w1 ⟨rfl, rfl⟩)
        go_ret
        exact ⟨rfl, hbr⟩
      · have hn' : ∀ j, j < k + 1 → badW (xs.getD j WhE.zero) = false := fun j hj => by
          rcases Nat.lt_or_ge j k with h | h
          · exact hno.out j h
          · have : j = k := by omega
            subst this; unfold badW; rw [hp]; rfl
        have HN := Lib.hid hn'
        clear hn'
        generalize xs.getD k WhE.zero = y at *
        go_wp2_with (go_at_call 40; refine (l14Teeth_is hp _).mono ?_; rintro e w1 ⟨rfl, rfl⟩)
        go_roundw
        case rel => exact ⟨k + 1, by omega, by go_num, HN.out, hbr⟩
        case measure => simp [intOf]; omega
    · have hkk : k = n := by omega
      subst hkk
      have HA := Lib.hid (gany_false (p := badW) (xs := xs) (fun j hj => hno.out j (by rw [← HL.out]; exact hj)))
      clear H
      cases h1 : isTe crank
      · have hb' : b = false := by rw [← HB.out]; exact vw_false1 h1
        subst hb'
        clear HB
        go_wp2_with (go_at_call 40; refine (l14Teeth_is h1 _).mono ?_; rintro e w1 ⟨rfl, rfl⟩)
        go_ret
        exact ⟨rfl, hbr⟩
      by_cases h2 : k ≤ 8
      · have d2 : decide ((k : Int) ≤ 8) = true := decide_eq_true (by omega)
        have hb' : b = true := by rw [← HB.out]; exact vw_true h1 h2 HA.out
        subst hb'
        clear HB
        go_wp2_with (go_at_call 40; refine (l14Teeth_is h1 _).mono ?_; rintro e w1 ⟨rfl, rfl⟩)
        go_ret
        exact ⟨rfl, hbr⟩
      · have d2 : decide ((k : Int) ≤ 8) = false := decide_eq_false (by omega)
        have hb' : b = false := by rw [← HB.out]; exact vw_false2 h2
        subst hb'
        clear HB
        go_wp2_with (go_at_call 40; refine (l14Teeth_is h1 _).mono ?_; rintro e w1 ⟨rfl, rfl⟩)
        go_ret
        exact ⟨rfl, hbr⟩
end Go.Proofs.Ytjgigmlhnnkjiaa
