/-
  Slides: places of glasses, bars: in the program and in the reference.
-/
import Derived.Test.YticohpimkicphaaYc
namespace Go.Proofs.Yticohpimkicphaa
open Go.RowKit

/-- There is a place for each glass. -/
def plB (ss ps : List Int) (n : Nat) : Bool := decide (ps.length = n ∧ ∀ i, i < n → inB (ps.getD i 0) 0 (ss.getD i 0 - 1) = true)
theorem pl_at {ss ps : List Int} {n : Nat} (h : plB ss ps n = true) : ps.length = n ∧ ∀ i, i < n → 0 ≤ ps.getD i 0 ∧ ps.getD i 0 < ss.getD i 0 := by
  obtain ⟨h1, h2⟩ := of_decide_eq_true h
  refine ⟨h1, fun i hi => ?_⟩
  have := inB_true.1 (h2 i hi)
  omega
theorem pl_len {ss ps : List Int} {n : Nat} (h : ps.length ≠ n) : plB ss ps n = false := decide_eq_false fun hh => h hh.1
theorem pl_bad {ss ps : List Int} {n i : Nat} (hi : i < n) (h : inB (ps.getD i 0) 0 (ss.getD i 0 - 1) = false) : plB ss ps n = false := decide_eq_false fun hh => by
  have := hh.2 i hi
  rw [h] at this; cases this
theorem pl_all {ss ps : List Int} {n : Nat} (hl : ps.length = n) (h : ∀ i, i < n → inB (ps.getD i 0) 0 (ss.getD i 0 - 1) = true) : plB ss ps n = true := decide_eq_true ⟨hl, h⟩
/-- A bar that stops the places. -/
def clB (ps : List Int) (y : BrE) : Bool := (ps.getD y.f0.toNat 0 == y.f1) && (ps.getD y.f2.toNat 0 == y.f3)
def myB (bs : List BrE) (ps : List Int) : Bool := !bs.any (clB ps)
/-- The bars' glasses are there. -/
def brBd (bs : List BrE) (m n : Nat) : Prop := ∀ k, k < m → 0 ≤ (bs.getD k BrE.zero).f0 ∧ (bs.getD k BrE.zero).f0 < n ∧ 0 ≤ (bs.getD k BrE.zero).f2 ∧ (bs.getD k BrE.zero).f2 < n
theorem vs_at {ss : List Int} {n : Nat} {bs : List BrE} {m : Nat} (hl : ss.length = n) (hm : bs.length = m) (h : vsB ss n bs m = true) : 1 ≤ n ∧ n ≤ 4 ∧ stBd ss n ∧ m ≤ 8 ∧ brBd bs m n := by
  unfold vsB at h
  rw [Bool.and_eq_true, Bool.and_eq_true] at h
  obtain ⟨h1, h2, h3⟩ := h
  obtain ⟨a, b, c⟩ := st_at hl h1
  refine ⟨a, b, c, by have := of_decide_eq_true h2; omega, fun k hk => ?_⟩
  cases hb : bdB ss n (bs.getD k BrE.zero)
  · have := bd_ok hb; omega
  · rw [gany_true (d := BrE.zero) (by omega) hb] at h3; cases h3

set_option maxHeartbeats 1600000 in
theorem placesOk_any (A : Option Addr) (n c : Nat) (ss : List Int) (bv : Value) (P : Option Addr) (k e : Nat) (ps : List Int) (w : World) (HS : SlI w A n ss) (HP : SlI w P k ps) (hn : n ≤ 1048576) (hk : k ≤ 1048576) (hst : stBd ss n) :
    Calls Try.prog 46 #[.agg #[.slice A n c, bv], .slice P k e] w fun e w' => e = .returned (.bool (plB ss ps n)) ∧ Below w.heap.size w w' := by
  have HL := Lib.hid HP.length
  obtain ⟨R, hR⟩ : ∃ R, plB ss ps n = R := ⟨_, rfl⟩
  rw [hR]
  by_cases hkn : k = n
  case neg =>
    have h1 : ((k : Int) != (n : Int)) = true := by simp only [bne_iff_ne, ne_eq]; omega
    obtain rfl : R = false := by rw [← hR]; exact pl_len (by rw [HL.out]; exact hkn)
    clear HS HP hR hst
    go_enter Try.func46, Try.ntmps46
    go_wp2
    go_ret
    refine ⟨rfl, ?_⟩
    repeat (first | exact Below.refl _ _ | refine bw_drew ?_ | refine bw_drewN ?_ _ | refine bw_set ?_ (by simp; try omega) _ | refine bw_alloc ?_ _ | refine bw_trans ?_ (by assumption) | assumption)
  subst hkn
  have HR := Lib.hid hR
  have HST := Lib.hid hst
  have hb0 : Below w.heap.size w (w.alloc (.cells #[.slice A k c, bv] 33)) := bw_alloc (Below.refl _ _) _
  clear hR hst
  go_enter Try.func46, Try.ntmps46
  go_wp2_with fail
  go_loopg [15] k (fun gh x wr => ∃ j : Nat, j ≤ k ∧ gh = k - j ∧ x = .int .i64 j ∧ Hid (∀ i, i < j → inB (ps.getD i 0) 0 (ss.getD i 0 - 1) = true) ∧ wr = w.alloc (.cells #[.slice A k c, bv] 33))
  case atStart => exact ⟨0, by omega, by omega, rfl, fun j hj => absurd hj (by omega), rfl⟩
  case round =>
    obtain ⟨j, hj, rfl, rfl, hno, rfl⟩ := hrel
    by_cases hlt : j < k
    · obtain ⟨b1, o1, rfl, hl1, hc1⟩ := (HS.below hb0).get hlt
      obtain ⟨b2, o2, rfl, hl2, hc2⟩ := (HP.below hb0).get hlt
      obtain ⟨s1, s2⟩ := HST.out j hlt
      have i1 : (j : Int) < (k : Int) := by omega
      cases hp : inB (ps.getD j 0) 0 (ss.getD j 0 - 1)
      · obtain rfl : R = false := by rw [← HR.out]; exact pl_bad hlt hp
        clear HS HP HR HST hno
        generalize ss.getD j 0 = S at *
        generalize ps.getD j 0 = x at *
        go_wp2_with (go_at_call 59; refine (within_is hp _).mono ?_; rintro e w1 ⟨rfl, rfl⟩)
        go_ret
        exact ⟨rfl, hb0⟩
      · have hn' : ∀ i, i < j + 1 → inB (ps.getD i 0) 0 (ss.getD i 0 - 1) = true := fun i hi => by
          rcases Nat.lt_or_ge i j with h | h
          · exact hno.out i h
          · have : i = j := by omega
            subst this; exact hp
        have HN := Lib.hid hn'
        clear hn' HS HP HR HST hno
        generalize ss.getD j 0 = S at *
        generalize ps.getD j 0 = x at *
        go_wp2_with (go_at_call 59; refine (within_is hp _).mono ?_; rintro e w1 ⟨rfl, rfl⟩)
        go_roundg (k - (j + 1))
        case rel => exact ⟨j + 1, by omega, rfl, by go_num, HN.out, rfl⟩
        case measure => omega
    · have hjk : j = k := by omega
      subst hjk
      obtain rfl : R = true := by rw [← HR.out]; exact pl_all HL.out hno.out
      clear HS HP HR HST hno
      go_wp2
      go_ret
      exact ⟨rfl, hb0⟩

set_option maxHeartbeats 1600000 in
theorem l13Places_any (g : Nat) (A : Option Addr) (n c : Nat) (ss : List Int) (B : Option Addr) (m d : Nat) (bs : List BrE) (P : Option Addr) (k e : Nat) (ps : List Int) (w : World) (HD : SdP w g A n c ss B m d bs) (HP : SlI w P k ps) (hn : n ≤ 1048576) (hk : k ≤ 1048576) (hst : stBd ss n) :
    Calls Try.prog 41 #[.pointer (some ⟨g, 0, none⟩), .slice P k e] w fun e w' => e = .returned (.bool (plB ss ps n)) ∧ Below w.heap.size w w' := by
  have HL := Lib.hid HP.length
  have hc0 := HD.1
  have hg := HD.2.2.2.2
  obtain ⟨R, hR⟩ : ∃ R, plB ss ps n = R := ⟨_, rfl⟩
  rw [hR]
  by_cases hkn : k = n
  case neg =>
    have h1 : ((k : Int) != (n : Int)) = true := by simp only [bne_iff_ne, ne_eq]; omega
    obtain rfl : R = false := by rw [← hR]; exact pl_len (by rw [HL.out]; exact hkn)
    clear HD HP hR hst
    go_enter Try.func41, Try.ntmps41
    go_wp2
    go_ret
    exact ⟨rfl, Below.refl _ _⟩
  subst hkn
  have HR := Lib.hid hR
  have HST := Lib.hid hst
  clear hR hst
  go_enter Try.func41, Try.ntmps41
  go_wp2_with fail
  go_loopg [5] k (fun gh x wr => ∃ j : Nat, j ≤ k ∧ gh = k - j ∧ x = .int .i64 j ∧ Hid (∀ i, i < j → inB (ps.getD i 0) 0 (ss.getD i 0 - 1) = true) ∧ Below w.heap.size w wr)
  case atStart => exact ⟨0, by omega, by omega, rfl, fun j hj => absurd hj (by omega), Below.refl _ _⟩
  case round =>
    obtain ⟨j, hj, rfl, rfl, hno, hbr⟩ := hrel
    have hc0' := cell_of hbr hc0
    have hg' := Nat.lt_of_lt_of_le hg hbr.size
    by_cases hlt : j < k
    · obtain ⟨b1, o1, rfl, hl1, hc1⟩ := (HD.2.2.1.below hbr).get hlt
      obtain ⟨b2, o2, rfl, hl2, hc2⟩ := (HP.below hbr).get hlt
      obtain ⟨s1, s2⟩ := HST.out j hlt
      have i1 : (j : Int) < (k : Int) := by omega
      cases hp : inB (ps.getD j 0) 0 (ss.getD j 0 - 1)
      · obtain rfl : R = false := by rw [← HR.out]; exact pl_bad hlt hp
        clear HD HP HR HST hno
        generalize ss.getD j 0 = S at *
        generalize ps.getD j 0 = x at *
        go_wp2_with fail
        refine wp_region_bel (by kernel_rfl) (by kernel_rfl) ?_
        repeat (go_big_quiet_step (((go_at_call 62; exact calm_same (l00In_is hp _)))))
        refine wpQuiet_nil ?_
        intro w2 hw'
        obtain ⟨tq, hw''⟩ := hw'
        have hw2 := tq.2
        rw [← hw''] at hw2
        clear hw'' tq
        obtain ⟨hcw2, hfw2⟩ := bcell hw2
        try (have hzw2 : w.heap.size < w2.heap.size := by (have h := hw2.size; (try simp at h); omega))
        try (have hyw2 : w.heap.size + 1 < w2.heap.size := by (have h := hw2.size; (try simp at h); omega))
        try (have hxw2 : w.heap.size + 1 + 1 < w2.heap.size := by (have h := hw2.size; (try simp at h); omega))
        try (have hvw2 : w.heap.size + 1 + 1 + 1 < w2.heap.size := by (have h := hw2.size; (try simp at h); omega))
        go_wp2
        go_ret
        exact ⟨rfl, bw_trans hbr hw2⟩
      · have hn' : ∀ i, i < j + 1 → inB (ps.getD i 0) 0 (ss.getD i 0 - 1) = true := fun i hi => by
          rcases Nat.lt_or_ge i j with h | h
          · exact hno.out i h
          · have : i = j := by omega
            subst this; exact hp
        have HN := Lib.hid hn'
        clear hn' HD HP HR HST hno
        generalize ss.getD j 0 = S at *
        generalize ps.getD j 0 = x at *
        go_wp2_with fail
        refine wp_region_bel (by kernel_rfl) (by kernel_rfl) ?_
        repeat (go_big_quiet_step (((go_at_call 62; exact calm_same (l00In_is hp _)))))
        refine wpQuiet_nil ?_
        intro w2 hw'
        obtain ⟨tq, hw''⟩ := hw'
        have hw2 := tq.2
        rw [← hw''] at hw2
        clear hw'' tq
        obtain ⟨hcw2, hfw2⟩ := bcell hw2
        try (have hzw2 : w.heap.size < w2.heap.size := by (have h := hw2.size; (try simp at h); omega))
        try (have hyw2 : w.heap.size + 1 < w2.heap.size := by (have h := hw2.size; (try simp at h); omega))
        try (have hxw2 : w.heap.size + 1 + 1 < w2.heap.size := by (have h := hw2.size; (try simp at h); omega))
        try (have hvw2 : w.heap.size + 1 + 1 + 1 < w2.heap.size := by (have h := hw2.size; (try simp at h); omega))
        go_wp2_with fail
        go_roundg (k - (j + 1))
        case rel => exact ⟨j + 1, by omega, rfl, by go_num, HN.out, bw_trans hbr hw2⟩
        case measure => omega
    · have hjk : j = k := by omega
      subst hjk
      obtain rfl : R = true := by rw [← HR.out]; exact pl_all HL.out hno.out
      clear HD HP HR HST hno
      go_wp2
      go_ret
      exact ⟨rfl, hbr⟩

set_option maxHeartbeats 1600000 in
theorem msClos_any (a x b y : Int) (g n : Nat) (P : Option Addr) (e : Nat) (ps : List Int) (w : World)
    (hp : w.cell? ⟨g, 0, none⟩ = some (.slice P n e)) (H : SlI w P n ps) (_ : n ≤ 1048576) (ha : 0 ≤ a ∧ a < n) (hb : 0 ≤ b ∧ b < n) :
    Calls Try.prog 70 #[.agg #[.int .i64 a, .int .i64 x, .int .i64 b, .int .i64 y], .pointer (some ⟨g, 0, none⟩)] w fun e w' => e = .returned (.bool (clB ps ⟨a, x, b, y⟩)) ∧ Below w.heap.size w w' := by
  have l1 : g < w.heap.size := World.block_lt_of_cell? w _ hp
  obtain ⟨a1, a2⟩ := ha
  obtain ⟨b1, b2⟩ := hb
  obtain ⟨J, rfl⟩ : ∃ J : Nat, a = (J : Int) := ⟨a.toNat, by omega⟩
  obtain ⟨K, rfl⟩ : ∃ K : Nat, b = (K : Int) := ⟨b.toNat, by omega⟩
  obtain ⟨r, off2, rfl, hbl1, hs1⟩ := H.get (k := J) (by omega)
  obtain ⟨r', off2', e', hbl2, hs2⟩ := H.get (k := K) (by omega)
  injection e' with e'
  injection e' with e1 e2
  subst e1; subst e2
  unfold clB
  dsimp only
  rw [Int.toNat_natCast, Int.toNat_natCast]
  clear H
  generalize ps.getD J 0 = S1 at *
  generalize ps.getD K 0 = S2 at *
  cases h1 : (S1 == x)
  · go_enter Try.func70, Try.ntmps70
    go_wp2_with fail
    refine wp_region_bel (by kernel_rfl) (by kernel_rfl) ?_
    repeat (go_big_quiet_step ((fail)))
    refine wpQuiet_nil ?_
    intro w2 hw'
    obtain ⟨tq, hw''⟩ := hw'
    have hw2 := tq.2
    rw [← hw''] at hw2
    clear hw'' tq
    obtain ⟨hcw2, hfw2⟩ := bcell hw2
    try (have hzw2 : w.heap.size < w2.heap.size := by (have h := hw2.size; (try simp at h); omega))
    try (have hyw2 : w.heap.size + 1 < w2.heap.size := by (have h := hw2.size; (try simp at h); omega))
    try (have hxw2 : w.heap.size + 1 + 1 < w2.heap.size := by (have h := hw2.size; (try simp at h); omega))
    try (have hvw2 : w.heap.size + 1 + 1 + 1 < w2.heap.size := by (have h := hw2.size; (try simp at h); omega))
    go_wp2
    go_ret
    exact ⟨rfl, bw_trans (bw_alloc (Below.refl _ _) _) hw2⟩
  · go_enter Try.func70, Try.ntmps70
    go_wp2_with fail
    refine wp_region_bel (by kernel_rfl) (by kernel_rfl) ?_
    repeat (go_big_quiet_step ((fail)))
    refine wpQuiet_nil ?_
    intro w2 hw'
    obtain ⟨tq, hw''⟩ := hw'
    have hw2 := tq.2
    rw [← hw''] at hw2
    clear hw'' tq
    obtain ⟨hcw2, hfw2⟩ := bcell hw2
    try (have hzw2 : w.heap.size < w2.heap.size := by (have h := hw2.size; (try simp at h); omega))
    try (have hyw2 : w.heap.size + 1 < w2.heap.size := by (have h := hw2.size; (try simp at h); omega))
    try (have hxw2 : w.heap.size + 1 + 1 < w2.heap.size := by (have h := hw2.size; (try simp at h); omega))
    try (have hvw2 : w.heap.size + 1 + 1 + 1 < w2.heap.size := by (have h := hw2.size; (try simp at h); omega))
    go_wp2
    go_ret
    exact ⟨rfl, bw_trans (bw_alloc (Below.refl _ _) _) hw2⟩

set_option maxHeartbeats 800000 in
theorem msIdx_any (p : BrE → Bool) (q1 : Value) (A : Option Addr) (n c : Nat) (xs : List BrE) (w : World) (H : SlBr w A n xs) (hn : n ≤ 1048576)
    (hcl : ∀ k, k < n → ∀ W, Below w.heap.size w W → Calls Try.prog 70 #[.agg #[.int .i64 ((xs.getD k BrE.zero).f0), .int .i64 ((xs.getD k BrE.zero).f1), .int .i64 ((xs.getD k BrE.zero).f2), .int .i64 ((xs.getD k BrE.zero).f3)], q1] W fun e w' => e = .returned (.bool (p (xs.getD k BrE.zero))) ∧ Below W.heap.size W w') :
    Calls Try.prog 77 #[.slice A n c, .func (.func 70) #[] #[q1]] w fun e w' => e = .returned (.int .i64 (gidx p xs)) ∧ Below w.heap.size w w' := by
  have HL := Lib.hid H.1
  have HC := Lib.hid hcl
  clear hcl
  go_enter Try.func77, Try.ntmps77
  go_wp2_with fail
  go_loopw [8] (fun x wr => ∃ k : Nat, k ≤ n ∧ x = .int .i64 k ∧ Hid (∀ j, j < k → p (xs.getD j BrE.zero) = false) ∧ Below w.heap.size w wr) (fun x _ => (n - (intOf x).toNat))
  case atStart => exact ⟨0, by omega, rfl, fun j hj => absurd hj (by omega), Below.refl _ _⟩
  case round =>
    obtain ⟨k, hk, rfl, hno, hbr⟩ := hrel
    by_cases hlt : k < n
    · obtain ⟨b, off, rfl, hbl, hc0, hc1, hc2, hc3⟩ := (H.below hbr).get hlt
      clear H
      cases hp : p (xs.getD k BrE.zero)
      · have hn' : ∀ j, j < k + 1 → p (xs.getD j BrE.zero) = false := fun j hj => by
          rcases Nat.lt_or_ge j k with h | h
          · exact hno.out j h
          · have : j = k := by omega
            subst this; exact hp
        have HN := Lib.hid hn'
        clear hn'
        have HCK := Lib.hid (HC.out k hlt _ hbr)
        rw [hp] at HCK
        clear HC hp
        generalize xs.getD k BrE.zero = y at *
        go_wp2_with fail
        refine HCK.out.mono ?_
        rintro e w1 ⟨rfl, hb1⟩
        go_wp2_with fail
        go_roundw
        case rel => exact ⟨k + 1, by omega, by go_num, HN.out, bw_trans hbr hb1⟩
        case measure => simp [intOf]; omega
      · have HF := Lib.hid (gidx_at (by rw [HL.out]; exact hlt) hp hno.out)
        have HCK := Lib.hid (HC.out k hlt _ hbr)
        rw [hp] at HCK
        clear HC hp
        generalize xs.getD k BrE.zero = y at *
        go_wp2_with fail
        refine HCK.out.mono ?_
        rintro e w1 ⟨rfl, hb1⟩
        go_wp2
        go_ret
        exact ⟨ret_int (by rw [HF.out]), bw_trans hbr hb1⟩
    · have hkk : k = n := by omega
      subst hkk
      have HF := Lib.hid (gidx_none (fun j hj => hno.out j (by rw [← HL.out]; exact hj)))
      clear H
      go_wp2
      go_ret
      exact ⟨ret_int (by rw [HF.out]), hbr⟩

set_option maxHeartbeats 800000 in
theorem msCon_any (p : BrE → Bool) (q1 : Value) (A : Option Addr) (n c : Nat) (xs : List BrE) (w : World) (H : SlBr w A n xs) (hn : n ≤ 1048576) {b : Bool} (hb : xs.any p = b)
    (hcl : ∀ k, k < n → ∀ W, Below w.heap.size w W → Calls Try.prog 70 #[.agg #[.int .i64 ((xs.getD k BrE.zero).f0), .int .i64 ((xs.getD k BrE.zero).f1), .int .i64 ((xs.getD k BrE.zero).f2), .int .i64 ((xs.getD k BrE.zero).f3)], q1] W fun e w' => e = .returned (.bool (p (xs.getD k BrE.zero))) ∧ Below W.heap.size W w') :
    Calls Try.prog 60 #[.slice A n c, .func (.func 70) #[] #[q1]] w fun e w' => e = .returned (.bool b) ∧ Below w.heap.size w w' := by
  have HF := Lib.hid (gidx_any p xs)
  have HB := Lib.hid hb
  clear hb
  go_enter Try.func60, Try.ntmps60
  go_wp2_with fail
  refine (msIdx_any p q1 A n c xs w H hn hcl).mono ?_
  rintro e w1 ⟨rfl, hb1⟩
  go_wp2
  go_ret
  exact ⟨ret_bool (by rw [← HB.out, ← HF.out]), hb1⟩

set_option maxHeartbeats 800000 in
theorem mayStand_any (av : Value) (B : Option Addr) (m d : Nat) (bs : List BrE) (P : Option Addr) (n e : Nat) (ps : List Int) (w : World) (HB : SlBr w B m bs) (HP : SlI w P n ps) (hm : m ≤ 1048576) (hn : n ≤ 1048576) (hbd : brBd bs m n) :
    Calls Try.prog 49 #[.agg #[av, .slice B m d], .slice P n e] w fun e w' => e = .returned (.bool (myB bs ps)) ∧ Below w.heap.size w w' := by
  have HC := Lib.hid (fun W (hW : Below w.heap.size w W) g (hg : W.cell? ⟨g, 0, none⟩ = some (.slice P n e)) => msCon_any (clB ps) (.pointer (some ⟨g, 0, none⟩)) B m d bs W (HB.below hW) hm rfl
    (fun k hk W2 hW2 => msClos_any _ _ _ _ g n P e ps W2 (cell_of hW2 hg) ((HP.below hW).below hW2) hn ⟨(hbd k hk).1, (hbd k hk).2.1⟩ ⟨(hbd k hk).2.2.1, (hbd k hk).2.2.2⟩))
  unfold myB
  clear HB HP hbd
  generalize bs.any (clB ps) = R at *
  have hb0 : Below w.heap.size w ((w.alloc (.cells #[av, .slice B m d] 33)).alloc (.cells #[.slice P n e] 22)) := by (repeat (first | exact Below.refl _ _ | refine bw_drew ?_ | refine bw_drewN ?_ _ | refine bw_set ?_ (by simp; try omega) _ | refine bw_alloc ?_ _ | refine bw_trans ?_ (by assumption) | assumption))
  have hcp : ((w.alloc (.cells #[av, .slice B m d] 33)).alloc (.cells #[.slice P n e] 22)).cell? ⟨w.heap.size + 1, 0, none⟩ = some (.slice P n e) := by go_simp
  have HR := Lib.hid (HC.out _ hb0 _ hcp)
  clear HC hcp
  go_enter Try.func49, Try.ntmps49
  go_wp2_with fail
  refine HR.out.mono ?_
  rintro e w2 ⟨rfl, hb2⟩
  go_wp2
  go_ret
  exact ⟨by cases R <;> rfl, bw_trans hb0 hb2⟩

set_option maxRecDepth 100000 in
set_option maxHeartbeats 1600000 in
theorem l13May_any (g : Nat) (A : Option Addr) (n c : Nat) (ss : List Int) (B : Option Addr) (m d : Nat) (bs : List BrE) (P : Option Addr) (k e : Nat) (ps : List Int) (w : World) (HD : SdP w g A n c ss B m d bs) (HP : SlI w P k ps) (hm : m ≤ 1048576) (_ : k ≤ 1048576) (hbd : brBd bs m k) :
    Calls Try.prog 42 #[.pointer (some ⟨g, 0, none⟩), .slice P k e] w fun e w' => e = .returned (.bool (myB bs ps)) ∧ Below w.heap.size w w' := by
  obtain ⟨R, hR⟩ : ∃ R, myB bs ps = R := ⟨_, rfl⟩
  rw [hR]
  unfold myB at hR
  have HR := Lib.hid hR
  have HLB := Lib.hid HD.2.2.2.1.1
  have hc1 := HD.2.1
  have hg := HD.2.2.2.2
  clear hR
  go_enter Try.func42, Try.ntmps42
  go_wp2_with fail
  go_loopg [5] m (fun gh x wr => ∃ j : Nat, j ≤ m ∧ gh = m - j ∧ x = .int .i64 j ∧ Hid (∀ i, i < j → clB ps (bs.getD i BrE.zero) = false) ∧ Below w.heap.size w wr)
  case atStart => exact ⟨0, by omega, by omega, rfl, fun j hj => absurd hj (by omega), Below.refl _ _⟩
  case round =>
    obtain ⟨j, hj, rfl, rfl, hno, hbr⟩ := hrel
    have hc1' := cell_of hbr hc1
    have hg' := Nat.lt_of_lt_of_le hg hbr.size
    by_cases hlt : j < m
    · obtain ⟨b', off, rfl, hbl, hd0, hd1, hd2, hd3⟩ := (HD.2.2.2.1.below hbr).get hlt
      obtain ⟨a1, a2, b1, b2⟩ := hbd j hlt
      have hbad := fun (h : clB ps (bs.getD j BrE.zero) = true) => (show R = false by
        rw [← HR.out, gany_true (d := BrE.zero) (by rw [HLB.out]; exact hlt) h]; rfl)
      have hgood := fun (h : clB ps (bs.getD j BrE.zero) = false) => (fun i (hi : i < j + 1) => show clB ps (bs.getD i BrE.zero) = false by
        rcases Nat.lt_or_ge i j with h' | h'
        · exact hno.out i h'
        · have : i = j := by omega
          subst this; exact h)
      have HBAD := Lib.hid hbad
      have HGOOD := Lib.hid hgood
      have i1 : (j : Int) < (m : Int) := by omega
      have HP2 := HP.below hbr
      clear hbad hgood HD hno HR HP
      generalize bs.getD j BrE.zero = y at *
      obtain ⟨a, x, b, z⟩ := y
      dsimp only at a1 a2 b1 b2 hd0 hd1 hd2 hd3
      obtain ⟨J, rfl⟩ : ∃ J : Nat, a = (J : Int) := ⟨a.toNat, by omega⟩
      obtain ⟨K, rfl⟩ : ∃ K : Nat, b = (K : Int) := ⟨b.toNat, by omega⟩
      obtain ⟨r, off2, rfl, hbl1, hs1⟩ := HP2.get (k := J) (by omega)
      obtain ⟨r', off2', e', hbl2, hs2⟩ := HP2.get (k := K) (by omega)
      injection e' with e'
      injection e' with e1 e2
      subst e1; subst e2
      unfold clB at HBAD HGOOD
      dsimp only at HBAD HGOOD
      rw [Int.toNat_natCast, Int.toNat_natCast] at HBAD HGOOD
      clear HP2 hbd
      generalize ps.getD J 0 = S1 at *
      generalize ps.getD K 0 = S2 at *
      cases h1 : (S1 == x)
      · have HG := Lib.hid (HGOOD.out (by rw [h1]; rfl))
        clear HBAD HGOOD
        go_wp2_with fail
        refine wp_region_bel (by kernel_rfl) (by kernel_rfl) ?_
        repeat (go_big_quiet_step ((fail)))
        refine wpQuiet_nil ?_
        intro w2 hw'
        obtain ⟨tq, hw''⟩ := hw'
        have hw2 := tq.2
        rw [← hw''] at hw2
        clear hw'' tq
        obtain ⟨hcw2, hfw2⟩ := bcell hw2
        try (have hzw2 : w.heap.size < w2.heap.size := by (have h := hw2.size; (try simp at h); omega))
        try (have hyw2 : w.heap.size + 1 < w2.heap.size := by (have h := hw2.size; (try simp at h); omega))
        try (have hxw2 : w.heap.size + 1 + 1 < w2.heap.size := by (have h := hw2.size; (try simp at h); omega))
        try (have hvw2 : w.heap.size + 1 + 1 + 1 < w2.heap.size := by (have h := hw2.size; (try simp at h); omega))
        go_wp2_with fail
        go_roundg (m - (j + 1))
        case rel => exact ⟨j + 1, by omega, rfl, by go_num, HG.out, bw_trans (bw_alloc hbr _) hw2⟩
        case measure => omega
      cases h2 : (S2 == z)
      · have HG := Lib.hid (HGOOD.out (by rw [h1, h2]; rfl))
        clear HBAD HGOOD
        go_wp2_with fail
        refine wp_region_bel (by kernel_rfl) (by kernel_rfl) ?_
        repeat (go_big_quiet_step ((fail)))
        refine wpQuiet_nil ?_
        intro w2 hw'
        obtain ⟨tq, hw''⟩ := hw'
        have hw2 := tq.2
        rw [← hw''] at hw2
        clear hw'' tq
        obtain ⟨hcw2, hfw2⟩ := bcell hw2
        try (have hzw2 : w.heap.size < w2.heap.size := by (have h := hw2.size; (try simp at h); omega))
        try (have hyw2 : w.heap.size + 1 < w2.heap.size := by (have h := hw2.size; (try simp at h); omega))
        try (have hxw2 : w.heap.size + 1 + 1 < w2.heap.size := by (have h := hw2.size; (try simp at h); omega))
        try (have hvw2 : w.heap.size + 1 + 1 + 1 < w2.heap.size := by (have h := hw2.size; (try simp at h); omega))
        go_wp2_with fail
        go_roundg (m - (j + 1))
        case rel => exact ⟨j + 1, by omega, rfl, by go_num, HG.out, bw_trans (bw_alloc hbr _) hw2⟩
        case measure => omega
      · have hR2 := HBAD.out (by rw [h1, h2]; rfl)
        subst hR2
        clear HBAD HGOOD
        go_wp2_with fail
        refine wp_region_bel (by kernel_rfl) (by kernel_rfl) ?_
        repeat (go_big_quiet_step ((fail)))
        refine wpQuiet_nil ?_
        intro w2 hw'
        obtain ⟨tq, hw''⟩ := hw'
        have hw2 := tq.2
        rw [← hw''] at hw2
        clear hw'' tq
        obtain ⟨hcw2, hfw2⟩ := bcell hw2
        try (have hzw2 : w.heap.size < w2.heap.size := by (have h := hw2.size; (try simp at h); omega))
        try (have hyw2 : w.heap.size + 1 < w2.heap.size := by (have h := hw2.size; (try simp at h); omega))
        try (have hxw2 : w.heap.size + 1 + 1 < w2.heap.size := by (have h := hw2.size; (try simp at h); omega))
        try (have hvw2 : w.heap.size + 1 + 1 + 1 < w2.heap.size := by (have h := hw2.size; (try simp at h); omega))
        go_wp2
        go_ret
        exact ⟨rfl, bw_trans (bw_alloc hbr _) hw2⟩
    · have hjm : j = m := by omega
      subst hjm
      have hR2 := gany_false (d := BrE.zero) (p := clB ps) (xs := bs) (fun i hi => hno.out i (by rw [← HLB.out]; exact hi))
      have hR3 := HR.out
      rw [hR2] at hR3
      obtain rfl : R = true := hR3.symm
      clear HD HR hR2 hR3 hno HP hbd
      go_wp2
      go_ret
      exact ⟨rfl, hbr⟩
end Go.Proofs.Yticohpimkicphaa
