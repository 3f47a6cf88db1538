/-
  ExactTick: in the program and in the reference; the law.
-/
import Derived.Test.YtnjndlngkoadfaaPh
import Derived.Deep.LoopGhost
namespace Go.Proofs.Ytnjndlngkoadfaa
open Go.RowKit

/-- The greatest number up to k that answers yes. -/
def fnd (p : Int → Bool) : Nat → Int
  | 0 => 0
  | k + 1 => if p ((k : Int) + 1) then (k : Int) + 1 else fnd p k
theorem fnd_yes {p : Int → Bool} {k : Nat} (hk : 1 ≤ k) (h : p (k : Int) = true) : fnd p k = k := by
  match k, hk with
  | k + 1, _ =>
    show (if p ((k : Int) + 1) then (k : Int) + 1 else fnd p k) = _
    rw [if_pos (by simpa using h)]; simp
theorem fnd_no {p : Int → Bool} {k : Nat} (hk : 1 ≤ k) (h : p (k : Int) = false) : fnd p k = fnd p (k - 1) := by
  match k, hk with
  | k + 1, _ =>
    show (if p ((k : Int) + 1) then (k : Int) + 1 else fnd p k) = _
    rw [if_neg (by simpa using h)]; rfl
theorem fnd_congr {p q : Int → Bool} {k : Nat} (h : ∀ d : Nat, 1 ≤ d → d ≤ k → p d = q d) : fnd p k = fnd q k := by
  induction k with
  | zero => rfl
  | succ k ih =>
    have e := ih fun d h1 h2 => h d h1 (by omega)
    have e2 := h (k + 1) (by omega) (by omega)
    show (if p ((k : Int) + 1) then (k : Int) + 1 else fnd p k) = (if q ((k : Int) + 1) then (k : Int) + 1 else fnd q k)
    rw [e, show ((k : Int) + 1) = ((k + 1 : Nat) : Int) by simp, e2]
theorem fnd_skip {q : Int → Bool} {j k : Nat} (hjk : j ≤ k) (h : ∀ d : Nat, j < d → d ≤ k → q d = false) : fnd q k = fnd q j := by
  induction k with
  | zero => have : j = 0 := by omega
            rw [this]
  | succ k ih =>
    rcases Nat.lt_or_ge j (k + 1) with h1 | h1
    · rw [fnd_no (by omega) (h (k + 1) h1 (Nat.le_refl _))]
      exact ih (by omega) fun d h2 h3 => h d h2 (by omega)
    · have : j = k + 1 := by omega
      rw [this]

/-- The greatest common divisor of the first k ticks. -/
def gdT (xs : List ScE) : Nat → Int
  | 0 => 0
  | k + 1 => gcdI (gdT xs k) (xs.getD k ScE.zero).f1
theorem gdT_bd {xs : List ScE} {n k : Nat} (h : tkOk xs n) (hk : k ≤ n) : 0 ≤ gdT xs k ∧ gdT xs k ≤ 1000 ∧ (1 ≤ k → 1 ≤ gdT xs k) := by
  match k with
  | 0 => simp [gdT]
  | k + 1 =>
    have ht := h k (by omega)
    have h1 := gcdI_pos (a := gdT xs k) (b := (xs.getD k ScE.zero).f1) (by omega)
    have h2 := gcdI_le_right (a := gdT xs k) (b := (xs.getD k ScE.zero).f1) (by omega)
    have e : gdT xs (k + 1) = gcdI (gdT xs k) (xs.getD k ScE.zero).f1 := rfl
    rw [e]; omega
theorem gdT_dvd {xs : List ScE} {d : Int} {k : Nat} : d ∣ gdT xs k ↔ ∀ j, j < k → d ∣ (xs.getD j ScE.zero).f1 := by
  induction k with
  | zero => simp [gdT]
  | succ k ih =>
    constructor
    · intro h j hj
      have h1 : d ∣ gdT xs k := Int.dvd_trans h (gcdI_dvd_left _ _)
      have h2 : d ∣ (xs.getD k ScE.zero).f1 := Int.dvd_trans h (gcdI_dvd_right _ _)
      rcases Nat.lt_or_ge j k with h3 | h3
      · exact ih.1 h1 j h3
      · have : j = k := by omega
        subst this; exact h2
    · intro h
      exact Int.dvd_coe_gcd (ih.2 fun j hj => h j (by omega)) (h k (by omega))
def etP (m : Int) (y : ScE) : Bool := y.f1.tmod m != 0
def etA (xs : List ScE) (d : Int) : Bool := !xs.any (etP d)
def etG (g : Int) (d : Int) : Bool := g % d == 0
theorem etA_eq {xs : List ScE} {n : Nat} (hl : xs.length = n) {d : Int} : etA xs d = etG (gdT xs n) d := by
  have e1 : etG (gdT xs n) d = true ↔ d ∣ gdT xs n := by
    unfold etG; simp [Int.dvd_iff_emod_eq_zero]
  have e2 : etA xs d = true ↔ ∀ j, j < n → d ∣ (xs.getD j ScE.zero).f1 := by
    unfold etA
    constructor
    · intro h j hj
      have := gany_at (d := ScE.zero) (p := etP d) (xs := xs) (by simpa using h) (k := j) (by omega)
      unfold etP at this
      exact Int.dvd_of_tmod_eq_zero (by simpa using this)
    · intro h
      have := gany_false (d := ScE.zero) (p := etP d) (xs := xs) (fun j hj => by
        have := Int.tmod_eq_zero_of_dvd (h j (by omega))
        unfold etP; rw [this]; rfl)
      rw [this]; rfl
  rw [Bool.eq_iff_iff, e1, e2, gdT_dvd]
def etN (xs : List ScE) (n : Nat) : Int := fnd (etG (gdT xs n)) 100
theorem etN_A {xs : List ScE} {n : Nat} (hl : xs.length = n) : fnd (etA xs) 100 = etN xs n := fnd_congr fun _ _ _ => etA_eq hl
theorem etA_1 {xs : List ScE} : etA xs 1 = true := by
  unfold etA
  have := gany_false (d := ScE.zero) (p := etP 1) (xs := xs) (fun j hj => by unfold etP; simp [Int.tmod_one])
  simp [this]
noncomputable def loC' (xs : List ScE) (n : Nat) : Int := if vsB xs n then 0 else 1
noncomputable def etV (xs : List ScE) (n : Nat) : Int := if vsB xs n then etN xs n else 0
theorem et_no {xs : List ScE} {n : Nat} (h : vsB xs n = false) : etV xs n = 0 ∧ loC' xs n = 1 := by unfold etV loC'; rw [h]; exact ⟨rfl, rfl⟩
theorem et_yes {xs : List ScE} {n : Nat} (h : vsB xs n = true) : etV xs n = etN xs n ∧ loC' xs n = 0 := by unfold etV loC'; rw [h]; exact ⟨rfl, rfl⟩

theorem l00Min_le {a b : Int} (h : a ≤ b) (w : World) :
    Calls Try.prog 47 #[.int .i64 a, .int .i64 b] w fun e w' => e = .returned (.int .i64 a) ∧ w = w' := by
  go_enter Try.func47, Try.ntmps47
  go_wp2
  all_goals
    go_ret
    exact ⟨ret_int (by omega), rfl⟩
theorem l00Min_gt {a b : Int} (h : ¬ a ≤ b) (w : World) :
    Calls Try.prog 47 #[.int .i64 a, .int .i64 b] w fun e w' => e = .returned (.int .i64 b) ∧ w = w' := by
  go_enter Try.func47, Try.ntmps47
  go_wp2
  all_goals
    go_ret
    exact ⟨ret_int (by omega), rfl⟩
theorem etClos_any (s : ByteArray) (t m : Int) (g : Nat) (w : World) (hc : w.cell? ⟨g, 0, none⟩ = some (.int .i64 m)) (hg : g < w.heap.size) (hm : 1 ≤ m ∧ m ≤ 100) :
    Calls Try.prog 49 #[.agg #[.string s, .int .i64 t], .pointer (some ⟨g, 0, none⟩)] w fun e w' => e = .returned (.bool (t.tmod m != 0)) ∧ Below w.heap.size w w' := by
  obtain ⟨m1, m2⟩ := hm
  have hz : (m == 0) = false := by simp; omega
  have hne : w.heap.size ≠ g := by omega
  go_enter Try.func49, Try.ntmps49
  go_wp2
  go_ret
  refine ⟨rfl, ?_⟩
  repeat (first | exact Below.refl _ _ | refine bw_drew ?_ | refine bw_drewN ?_ _ | refine bw_set ?_ (by simp; try omega) _ | refine bw_alloc ?_ _ | refine bw_trans ?_ (by assumption) | assumption)

set_option maxHeartbeats 800000 in
theorem etIdx_any (p : ScE → Bool) (q : Value) (A : Option Addr) (n c : Nat) (xs : List ScE) (w : World) (H : SlSc w A n xs) (hn : n ≤ 1048576)
    (hcl : ∀ (y : ScE) W, Below w.heap.size w W → Calls Try.prog 49 #[.agg #[.string (y.f0), .int .i64 (y.f1)], q] W fun e w' => e = .returned (.bool (p y)) ∧ Below W.heap.size W w') :
    Calls Try.prog 60 #[.slice A n c, .func (.func 49) #[] #[q]] w fun e w' => e = .returned (.int .i64 (gidx p xs)) ∧ Below w.heap.size w w' := by
  have HL := Lib.hid H.1
  have HC := Lib.hid hcl
  clear hcl
  go_enter Try.func60, Try.ntmps60
  go_wp2_with fail
  go_loopw [8] (fun x wr => ∃ k : Nat, k ≤ n ∧ x = .int .i64 k ∧ Hid (∀ j, j < k → p (xs.getD j ScE.zero) = false) ∧ Below w.heap.size w wr) (fun x _ => (n - (intOf x).toNat))
  case atStart => exact ⟨0, by omega, rfl, fun j hj => absurd hj (by omega), Below.refl _ _⟩
  case round =>
    obtain ⟨k, hk, rfl, hno, hbr⟩ := hrel
    by_cases hlt : k < n
    · obtain ⟨b, off, rfl, hbl, hc0, hc1⟩ := (H.below hbr).get hlt
      clear H
      cases hp : p (xs.getD k ScE.zero)
      · have hn' : ∀ j, j < k + 1 → p (xs.getD j ScE.zero) = false := fun j hj => by
          rcases Nat.lt_or_ge j k with h | h
          · exact hno.out j h
          · have : j = k := by omega
            subst this; exact hp
        have HN := Lib.hid hn'
        clear hn'
        generalize xs.getD k ScE.zero = y at *
        go_wp2_with fail
        refine (HC.out y _ hbr).mono ?_
        rw [hp]
        rintro e w1 ⟨rfl, hb1⟩
        go_wp2_with fail
        go_roundw
        case rel => exact ⟨k + 1, by omega, by go_num, HN.out, bw_trans hbr hb1⟩
        case measure => simp [intOf]; omega
      · have HF := Lib.hid (gidx_at (by rw [HL.out]; exact hlt) hp hno.out)
        generalize xs.getD k ScE.zero = y at *
        go_wp2_with fail
        refine (HC.out y _ hbr).mono ?_
        rw [hp]
        rintro e w1 ⟨rfl, hb1⟩
        go_wp2
        go_ret
        exact ⟨ret_int (by rw [HF.out]), bw_trans hbr hb1⟩
    · have hkk : k = n := by omega
      subst hkk
      have HF := Lib.hid (gidx_none (fun j hj => hno.out j (by rw [← HL.out]; exact hj)))
      clear H
      go_wp2
      go_ret
      exact ⟨ret_int (by rw [HF.out]), hbr⟩

set_option maxHeartbeats 800000 in
theorem etCon_any (p : ScE → Bool) (q : Value) (A : Option Addr) (n c : Nat) (xs : List ScE) (w : World) (H : SlSc w A n xs) (hn : n ≤ 1048576) {b : Bool} (hb : xs.any p = b)
    (hcl : ∀ (y : ScE) W, Below w.heap.size w W → Calls Try.prog 49 #[.agg #[.string (y.f0), .int .i64 (y.f1)], q] W fun e w' => e = .returned (.bool (p y)) ∧ Below W.heap.size W w') :
    Calls Try.prog 48 #[.slice A n c, .func (.func 49) #[] #[q]] w fun e w' => e = .returned (.bool b) ∧ Below w.heap.size w w' := by
  have HF := Lib.hid (gidx_any p xs)
  have HB := Lib.hid hb
  clear hb
  go_enter Try.func48, Try.ntmps48
  go_wp2_with fail
  refine (etIdx_any p q A n c xs w H hn hcl).mono ?_
  rintro e w1 ⟨rfl, hb1⟩
  go_wp2
  go_ret
  exact ⟨ret_bool (by rw [← HB.out, ← HF.out]), hb1⟩

set_option maxHeartbeats 1600000 in
theorem iExactTick_any (A : Option Addr) (n c : Nat) (xs : List ScE) (w : World) (H : SlSc w A n xs) (hn : n ≤ 1048576) (hz : ∀ k, k < n → (xs.getD k ScE.zero).f0.size ≤ 9223372036854775807) :
    Calls Try.prog 24 #[.slice A n c] w fun e w' => e = .returned (.tuple #[.int .i64 (etV xs n), .int .i64 (loC' xs n)]) ∧ Below w.heap.size w w' := by
  cases hv : vsB xs n
  · have HR := Lib.hid (et_no hv)
    have HV := Lib.hid hv
    clear hv
    go_enter Try.func24, Try.ntmps24
    go_wp2_with fail
    refine (validScenes_is A n c xs _ H hn HV.out hz).mono ?_
    rintro e w1 ⟨rfl, hb1⟩
    go_wp2
    go_ret2
    exact ⟨by rw [HR.out.1, HR.out.2]; rfl, hb1⟩
  · have HR := Lib.hid (et_yes hv)
    have HL := Lib.hid H.1
    have HV := Lib.hid hv
    clear hv
    go_enter Try.func24, Try.ntmps24
    go_wp2_with fail
    refine (validScenes_is A n c xs _ H hn HV.out hz).mono ?_
    rintro e w1 ⟨rfl, hb1⟩
    have hs1 := hb1.size
    clear hz HV
    go_wp2_with fail
    go_loopg [] 100 (fun g wr => ∃ m : Nat, g = m ∧ 1 ≤ m ∧ m ≤ 100 ∧ wr.cell? ⟨w1.heap.size, 0, none⟩ = some (.int .i64 (m : Int)) ∧ wr.frozen? ⟨w1.heap.size, 0, none⟩ = false ∧ w1.heap.size < wr.heap.size ∧ Hid (fnd (etA xs) 100 = fnd (etA xs) m) ∧ Below w.heap.size w wr)
    case atStart => exact ⟨100, rfl, by omega, by omega, by go_simp, by go_simp, by simp, rfl, bw_alloc hb1 _⟩
    case round =>
      obtain ⟨m, rfl, hm1, hm2, hcm, hfm, hzm, HF, hbr⟩ := hrel
      have hC := fun b hb => etCon_any (etP (gk : Int)) (.pointer (some ⟨w1.heap.size, 0, none⟩)) A n c xs wr (H.below hbr) hn (b := b) hb
        (fun y W hW => etClos_any y.f0 y.f1 (gk : Int) w1.heap.size W ((hW.cell (p := ⟨w1.heap.size, 0, none⟩) hzm).trans hcm) (Nat.lt_of_lt_of_le hzm hW.size) ⟨by omega, by omega⟩)
      have HC := Lib.hid hC
      clear hC H
      cases hp : xs.any (etP (gk : Int))
      · have hA : etA xs (gk : Int) = true := by unfold etA; rw [hp]; rfl
        have HE := Lib.hid (show etN xs n = (gk : Int) by rw [← etN_A HL.out, HF.out]; exact fnd_yes hm1 hA)
        have HP := Lib.hid hp
        clear hp hA HF
        go_wp2_with fail
        refine (HC.out _ HP.out).mono ?_
        rintro e w2 ⟨rfl, hb2⟩
        have hc2 := (hb2.cell (p := ⟨w1.heap.size, 0, none⟩) hzm).trans hcm
        go_wp2
        go_ret2
        exact ⟨by rw [HR.out.1, HR.out.2, HE.out]; rfl, bw_trans hbr hb2⟩
      · have hA : etA xs (gk : Int) = false := by unfold etA; rw [hp]; rfl
        have hm3 : gk ≠ 1 := by rintro rfl; rw [show ((1 : Nat) : Int) = 1 from rfl, etA_1] at hA; cases hA
        have HE := Lib.hid (HF.out.trans (fnd_no hm1 hA))
        have HP := Lib.hid hp
        clear hp hA HF
        have e1 : (gk : Int) - 1 = ((gk - 1 : Nat) : Int) := by omega
        have E1 := Lib.hid e1
        clear e1
        go_wp2_with fail
        refine (HC.out _ HP.out).mono ?_
        rintro e w2 ⟨rfl, hb2⟩
        have hc2 := (hb2.cell (p := ⟨w1.heap.size, 0, none⟩) hzm).trans hcm
        have hf2 := (hb2.frozen (p := ⟨w1.heap.size, 0, none⟩) hzm).trans hfm
        have hz2 := hb2.size
        go_wp2
        go_roundg (gk - 1)
        case rel => exact ⟨gk - 1, rfl, by omega, by omega, by rw [← E1.out]; go_simp, by go_simp, by simp; omega, HE.out, bw_set (bw_trans hbr hb2) (by simpa using hs1) _⟩
        case measure => omega

set_option maxHeartbeats 1600000 in
theorem sExactTick_any (A : Option Addr) (n c : Nat) (xs : List ScE) (w : World) (H : SlSc w A n xs) (hn : n ≤ 1048576) (hz : ∀ k, k < n → (xs.getD k ScE.zero).f0.size ≤ 9223372036854775807) :
    Calls Try.prog 23 #[.slice A n c] w fun e w' => e = .returned (.tuple #[.int .i64 (etV xs n), .int .i64 (loC' xs n)]) ∧ Below w.heap.size w w' := by
  cases hv : vsB xs n
  · have HR := Lib.hid (et_no hv)
    have HV := Lib.hid hv
    clear hv
    go_enter Try.func23, Try.ntmps23
    go_wp2_with fail
    refine (l08Ok_is A n c xs _ H hn HV.out hz).mono ?_
    rintro e w1 ⟨rfl, hb1⟩
    go_wp2
    go_ret2
    exact ⟨by rw [HR.out.1, HR.out.2]; rfl, hb1⟩
  · have HR := Lib.hid (et_yes hv)
    obtain ⟨hok, n1, n2⟩ := vs_of hv
    have HT := Lib.hid (tk_of hok)
    have HL := Lib.hid H.1
    have HV := Lib.hid hv
    clear hv hok
    go_enter Try.func23, Try.ntmps23
    go_wp2_with fail
    refine (l08Ok_is A n c xs _ H hn HV.out hz).mono ?_
    rintro e w1 ⟨rfl, hb1⟩
    clear hz HV
    go_wp2_with fail
    go_loopg [4, 5] n (fun g x y wr => ∃ k : Nat, k ≤ n ∧ g = n - k ∧ x = .int .i64 (gdT xs k) ∧ y = .int .i64 k ∧ Below w.heap.size w wr)
    case atStart => exact ⟨0, by omega, by omega, rfl, rfl, hb1⟩
    case round =>
      obtain ⟨k, hk, rfl, rfl, rfl, hbr⟩ := hrel
      obtain ⟨g1, g2, g3⟩ := gdT_bd HT.out hk
      by_cases hlt : k < n
      · obtain ⟨b, off, rfl, hbl, hc0, hc1⟩ := (H.below hbr).get hlt
        clear H
        obtain ⟨t1, t2⟩ := HT.out k hlt
        have HQ := Lib.hid (show gdT xs (k + 1) = gcdI (gdT xs k) (xs.getD k ScE.zero).f1 from rfl)
        generalize xs.getD k ScE.zero = y at *
        generalize gdT xs k = p at *
        go_wp2_with fail
        refine (l00Gcd_any _ _ _ ⟨by omega, by omega⟩ ⟨by omega, by omega⟩).mono ?_
        rintro e w' ⟨rfl, rfl⟩
        go_wp2
        go_roundg (n - (k + 1))
        case rel => exact ⟨k + 1, by omega, rfl, by rw [HQ.out], by go_num, hbr⟩
        case measure => omega
      · have hkk : k = n := by omega
        subst hkk
        clear H
        have h1 := g3 n1
        have HN := Lib.hid (show etN xs k = fnd (etG (gdT xs k)) 100 from rfl)
        generalize gdT xs k = G at *
        have HM : ∃ M : Nat, 1 ≤ M ∧ M ≤ 100 ∧ (M : Int) ≤ G ∧ Hid ((if G ≤ 100 then G else 100) = (M : Int)) ∧ Hid (fnd (etG G) 100 = fnd (etG G) M) := by
          by_cases h : G ≤ 100
          · refine ⟨G.toNat, by omega, by omega, by omega, by show (if _ then _ else _) = _; rw [if_pos h]; omega, ?_⟩
            refine fnd_skip (by omega) fun d hd1 hd2 => ?_
            unfold etG
            rw [Int.emod_eq_of_lt (by omega) (by omega)]
            simp; omega
          · exact ⟨100, by omega, by omega, by omega, if_neg h, rfl⟩
        obtain ⟨M, M1, M2, M3, HMi, HMf⟩ := HM
        have hmin : Calls Try.prog 47 #[.int .i64 G, .int .i64 100] wr fun e w' => e = .returned (.int .i64 (M : Int)) ∧ wr = w' := by
          rw [← HMi.out]
          split
          · exact l00Min_le (by omega) _
          · exact l00Min_gt (by omega) _
        have HMn := Lib.hid hmin
        clear hmin
        go_wp2_with fail
        refine HMn.out.mono ?_
        rintro e w' ⟨rfl, rfl⟩
        clear HMn HMi
        go_wp2_with fail
        go_loopg [6] M (fun g x wq => ∃ m : Nat, g = m ∧ 1 ≤ m ∧ m ≤ 100 ∧ (m : Int) ≤ G ∧ x = .int .i64 (m : Int) ∧ Hid (fnd (etG G) 100 = fnd (etG G) m) ∧ wq = wr)
        case atStart => exact ⟨M, rfl, M1, M2, M3, rfl, HMf.out, rfl⟩
        case round =>
          obtain ⟨m, rfl, hm1, hm2, hm3, rfl, HF, rfl⟩ := hrel
          have e0 := Int.emod_nonneg G (show (gk : Int) ≠ 0 by omega)
          have e1 := Int.emod_lt_of_pos G (show 0 < (gk : Int) by omega)
          by_cases hp : G % (gk : Int) = 0
          · have HE := Lib.hid (show etN xs k = (gk : Int) by rw [HN.out, HF.out]; exact fnd_yes hm1 (by unfold etG; simpa using hp))
            have hp' : (G % (gk : Int) != 0) = false := by simpa using hp
            clear hp
            go_wp2
            go_ret2
            exact ⟨by rw [HR.out.1, HR.out.2, HE.out]; rfl, hbr⟩
          · have hp' : (G % (gk : Int) != 0) = true := by simpa using hp
            have hk1 : gk ≠ 1 := by rintro rfl; apply hp; simp
            have HE := Lib.hid (HF.out.trans (fnd_no hm1 (by unfold etG; simpa using hp)))
            have E1 := Lib.hid (show (gk : Int) - 1 = ((gk - 1 : Nat) : Int) by omega)
            clear hp
            go_wp2
            go_roundg (gk - 1)
            case rel => exact ⟨gk - 1, rfl, by omega, by omega, by omega, by rw [← E1.out], HE.out, rfl⟩
            case measure => omega

set_option maxRecDepth 100000 in
set_option maxHeartbeats 800000 in
theorem law_ExactTick (a : Option Addr) (l c : Nat) (xs : List ScE) (w : World) (hm : l ≤ 9223372036854775807) (H0 : SlSc w a l xs) (hz : ∀ k, k < l → (xs.getD k ScE.zero).f0.size ≤ 9223372036854775807) :
    Calls Try.prog 7 #[.slice a l c] w fun e w' => e = .returned (.bool true) ∧ Below w.heap.size w w' := by
  by_cases hn : l ≤ 1048576
  · have HZ := Lib.hid hz
    have hsz := Scsz_any a l c xs w H0 hn hz
    clear hz
    by_cases hneg : szR xs l < 0
    · generalize szR xs l = r at *
      clear H0
      go_enter Try.func7, Try.ntmps7
      go_wp2_with fail
      refine hsz.mono ?_
      rintro e w0 ⟨rfl, hB0⟩
      go_wp2
      go_ret
      exact ⟨rfl, hB0⟩
    generalize szR xs l = r at *
    go_enter Try.func7, Try.ntmps7
    go_wp2_with fail
    refine hsz.mono ?_
    rintro e w0 ⟨rfl, hB0⟩
    go_wp2_with fail
    refine (SctoS_any a l c xs _ (H0.below hB0) hn).mono ?_
    rintro e w1 ⟨rfl, HS, hb1⟩
    have hB1 := bw_trans hB0 hb1
    clear hb1
    go_wp2_with fail
    refine (sExactTick_any  _ _ _ xs  _ HS hn HZ.out).mono ?_
    rintro e w2 ⟨rfl, hb2⟩
    have hB2 := bw_trans hB1 hb2
    clear hb2 HS
    go_wp2_with fail
    refine (SctoS_any a l c xs _ (H0.below hB2) hn).mono ?_
    rintro e w3 ⟨rfl, HM, hb3⟩
    have hB3 := bw_trans hB2 hb3
    clear hb3
    go_wp2_with fail
    refine (iExactTick_any  _ _ _ xs  _ HM hn HZ.out).mono ?_
    rintro e w4 ⟨rfl, hb4⟩
    have hB4 := bw_trans hB3 hb4
    have HM4 := HM.below hb4
    clear hb4 HM
    go_wp2_with fail
    refine (SctoS_any a l c xs _ (H0.below hB4) hn).mono ?_
    rintro e w5 ⟨rfl, HQ, hb5⟩
    have HM5 := HM4.below hb5
    have hB5 := bw_trans hB4 hb5
    clear hb5 HM4
    go_wp2_with fail
    refine (SceqS_any _ _ _ _ _ xs _ HM5 HQ hn).mono ?_
    rintro e w6 ⟨rfl, hb6⟩
    clear HM5 HQ H0
    go_wp2
    go_ret
    exact ⟨rfl, bw_trans hB5 hb6⟩
  · clear H0 hz
    go_enter Try.func7, Try.ntmps7
    go_wp2_with fail
    refine (ScszNo_any a l c _ hm hn).mono ?_
    rintro e w0 ⟨rfl, hB0⟩
    go_wp2
    go_ret
    exact ⟨rfl, hB0⟩
end Go.Proofs.Ytnjndlngkoadfaa
