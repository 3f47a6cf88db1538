/-
  The halls that no lens suits: in the program and in the reference.
-/
import Derived.Test.YthhilkahfgpncaaHm
import Derived.Test.YthhilkahfgpncaaHn
namespace Go.Proofs.Ythhilkahfgpncaa
open Go.RowKit

theorem anClos_any (t l x s f : Int) (g1 g2 : Nat) (w : World) (ht : w.cell? ⟨g1, 0, none⟩ = some (.int .i64 t)) (hl : w.cell? ⟨g1, 1, none⟩ = some (.int .i64 l)) (hx : w.cell? ⟨g1, 2, none⟩ = some (.int .i64 x)) (hs' : w.cell? ⟨g2, 0, none⟩ = some (.int .i64 s))
    (hv : vHa t l x = true) (hs : isSl s = true) (hf : 1 ≤ f ∧ f ≤ 2000) :
    Calls Try.prog 100 #[.int .i64 f, .pointer (some ⟨g1, 0, none⟩), .pointer (some ⟨g2, 0, none⟩)] w fun e w' => e = .returned (.bool (suB t l x s f)) ∧ Below w.heap.size w w' := by
  have HC := Lib.hid (suits_any t l x s f w hv hs hf)
  clear hv hs
  go_enter Try.func100, Try.ntmps100
  go_wp2_with fail
  refine HC.out.mono ?_
  rintro e w1 ⟨rfl, hb1⟩
  go_wp2
  go_ret
  exact ⟨rfl, hb1⟩

set_option maxHeartbeats 800000 in
theorem anIdx_any (p : Int → Bool) (q0 : Value) (q1 : Value) (A : Option Addr) (n c : Nat) (xs : List Int) (w : World) (H : SlI w A n xs) (hn : n ≤ 1048576)
    (hcl : ∀ k, k < n → ∀ W, Below w.heap.size w W → Calls Try.prog 100 #[.int .i64 (xs.getD k 0), q0, q1] W fun e w' => e = .returned (.bool (p (xs.getD k 0))) ∧ Below W.heap.size W w') :
    Calls Try.prog 96 #[.slice A n c, .func (.func 100) #[] #[q0, q1]] w fun e w' => e = .returned (.int .i64 (fidx p xs)) ∧ Below w.heap.size w w' := by
  have HL := Lib.hid H.length
  have HC := Lib.hid hcl
  clear hcl
  go_enter Try.func96, Try.ntmps96
  go_wp2_with fail
  go_loopw [8] (fun x wr => ∃ k : Nat, k ≤ n ∧ x = .int .i64 k ∧ Hid (∀ j, j < k → p (xs.getD j 0) = false) ∧ Below w.heap.size w wr) (fun x _ => (n - (intOf x).toNat))
  case atStart => exact ⟨0, by omega, rfl, fun j hj => absurd hj (by omega), Below.refl _ _⟩
  case round =>
    obtain ⟨k, hk, rfl, hno, hbr⟩ := hrel
    by_cases hlt : k < n
    · obtain ⟨b, off, rfl, hbl, hc⟩ := (H.below hbr).get hlt
      clear H
      cases hp : p (xs.getD k 0)
      · have hn' : ∀ j, j < k + 1 → p (xs.getD j 0) = false := fun j hj => by
          rcases Nat.lt_or_ge j k with h | h
          · exact hno.out j h
          · have : j = k := by omega
            subst this; exact hp
        have HN := Lib.hid hn'
        clear hn'
        go_wp2_with fail
        refine (HC.out k hlt _ hbr).mono ?_
        rw [hp]
        rintro e w1 ⟨rfl, hb1⟩
        go_wp2_with fail
        go_roundw
        case rel => exact ⟨k + 1, by omega, by go_num, HN.out, bw_trans hbr hb1⟩
        case measure => simp [intOf]; omega
      · have HF := Lib.hid (fidx_at (by rw [HL.out]; exact hlt) hp hno.out)
        go_wp2_with fail
        refine (HC.out k hlt _ hbr).mono ?_
        rw [hp]
        rintro e w1 ⟨rfl, hb1⟩
        go_wp2
        go_ret
        exact ⟨ret_int (by rw [HF.out]), bw_trans hbr hb1⟩
    · have hkk : k = n := by omega
      subst hkk
      have HF := Lib.hid (fidx_none (fun j hj => hno.out j (by rw [← HL.out]; exact hj)))
      clear H
      go_wp2
      go_ret
      exact ⟨ret_int (by rw [HF.out]), hbr⟩

set_option maxHeartbeats 800000 in
theorem anCon_any (p : Int → Bool) (q0 : Value) (q1 : Value) (A : Option Addr) (n c : Nat) (xs : List Int) (w : World) (H : SlI w A n xs) (hn : n ≤ 1048576) {b : Bool} (hb : xs.any p = b)
    (hcl : ∀ k, k < n → ∀ W, Below w.heap.size w W → Calls Try.prog 100 #[.int .i64 (xs.getD k 0), q0, q1] W fun e w' => e = .returned (.bool (p (xs.getD k 0))) ∧ Below W.heap.size W w') :
    Calls Try.prog 71 #[.slice A n c, .func (.func 100) #[] #[q0, q1]] w fun e w' => e = .returned (.bool b) ∧ Below w.heap.size w w' := by
  have HF := Lib.hid (fidx_any p xs)
  have HB := Lib.hid hb
  clear hb
  go_enter Try.func71, Try.ntmps71
  go_wp2_with fail
  refine (anIdx_any p q0 q1 A n c xs w H hn hcl).mono ?_
  rintro e w1 ⟨rfl, hb1⟩
  go_wp2
  go_ret
  exact ⟨ret_bool (by rw [← HB.out, ← HF.out]), hb1⟩

/-- One of the lenses suits. -/
def anB (t l x s : Int) (ys : List Int) : Bool := ys.any (suB t l x s)
def foAll (ys : List Int) : Prop := ∀ k, k < ys.length → 1 ≤ ys.getD k 0 ∧ ys.getD k 0 ≤ 2000
set_option maxHeartbeats 800000 in
theorem anySuits_any (t l x s : Int) (A : Option Addr) (n c : Nat) (ys : List Int) (w : World) (H : SlI w A n ys) (hn : n ≤ 1048576) (hv : vHa t l x = true) (hs : isSl s = true) (hf : foAll ys) :
    Calls Try.prog 89 #[.agg #[.int .i64 t, .int .i64 l, .int .i64 x], .int .i64 s, .slice A n c] w fun e w' => e = .returned (.bool (anB t l x s ys)) ∧ Below w.heap.size w w' := by
  have HC : Hid (∀ W, Below w.heap.size w W → W.cell? ⟨w.heap.size, 0, none⟩ = some (.int .i64 t) → W.cell? ⟨w.heap.size, 1, none⟩ = some (.int .i64 l) → W.cell? ⟨w.heap.size, 2, none⟩ = some (.int .i64 x) → W.cell? ⟨w.heap.size + 1, 0, none⟩ = some (.int .i64 s) →
      Calls Try.prog 71 #[.slice A n c, .func (.func 100) #[] #[.pointer (some ⟨w.heap.size, 0, none⟩), .pointer (some ⟨w.heap.size + 1, 0, none⟩)]] W fun e w' => e = .returned (.bool (anB t l x s ys)) ∧ Below W.heap.size W w') := by
    intro W hW h0 h1 h2 h3
    refine anCon_any (suB t l x s) _ _ A n c ys W (H.below hW) hn rfl fun k hk W' hW' => ?_
    exact anClos_any t l x s (ys.getD k 0) w.heap.size (w.heap.size + 1) W' (cell_of hW' h0) (cell_of hW' h1) (cell_of hW' h2) (cell_of hW' h3) hv hs (hf k (by rw [H.length]; exact hk))
  clear H hv hs hf
  generalize anB t l x s ys = b at *
  go_enter Try.func89, Try.ntmps89
  go_wp2_with fail
  refine (HC.out _ (bw_alloc (bw_alloc (Below.refl _ _) _) _) (by go_simp) (by go_simp) (by go_simp) (by go_simp)).mono ?_
  rintro e w1 ⟨rfl, hb1⟩
  go_wp2
  go_ret
  exact ⟨rfl, bw_trans (bw_alloc (bw_alloc (Below.refl _ _) _) _) hb1⟩

/-- No lens suits the hall i. -/
def noS (xs : List LhE) (s : Int) (ys : List Int) (i : Nat) : Bool := !anB (xs.getD i LhE.zero).f0 (xs.getD i LhE.zero).f1 (xs.getD i LhE.zero).f2 s ys
def hvAll (xs : List LhE) (n : Nat) : Prop := ∀ k, k < n → vHa (xs.getD k LhE.zero).f0 (xs.getD k LhE.zero).f1 (xs.getD k LhE.zero).f2 = true
set_option maxHeartbeats 1600000 in
theorem hallsLeft_any (A : Option Addr) (n c : Nat) (xs : List LhE) (s : Int) (B : Option Addr) (m d : Nat) (ys : List Int) (w : World) (H : SlLh w A n xs) (HY : SlI w B m ys) (hn : n ≤ 8) (hm : m ≤ 12) (hv : hvAll xs n) (hs : isSl s = true) (hf : foAll ys) :
    Calls Try.prog 86 #[.slice A n c, .int .i64 s, .slice B m d] w (GivesI (selL (noS xs s ys) n) w) := by
  have HV := Lib.hid hv
  have HC := Lib.hid (fun k (hk : k < n) W hW => anySuits_any _ _ _ s B m d ys W (HY.below hW) (by omega) (hv k hk) hs hf)
  clear hv hs hf HY
  go_enter Try.func86, Try.ntmps86
  go_wp2_with fail
  go_loopg [7, 13] n (fun gh v x wr => ∃ k : Nat, k ≤ n ∧ gh = n - k ∧ OwnI wr w.heap.size v (selL (noS xs s ys) k) ∧ x = .int .i64 k ∧ Below w.heap.size w wr)
  case atStart => exact ⟨0, by omega, by omega, OwnI.lit w (Nat.le_refl _), rfl, bw_alloc (Below.refl _ _) _⟩
  case round =>
    obtain ⟨k, hk, rfl, hown, rfl, hbr⟩ := hrel
    have HO := Lib.hid hown
    have hl := sel_len (noS xs s ys) k
    clear hown
    by_cases hlt : k < n
    · obtain ⟨b, off, rfl, hbl, hc0, hc1, hc2⟩ := (H.below hbr).get hlt
      clear H
      have hsz := hbr.size
      have hp : noS xs s ys k = !anB (xs.getD k LhE.zero).f0 (xs.getD k LhE.zero).f1 (xs.getD k LhE.zero).f2 s ys := rfl
      have hC := fun W hW => HC.out k hlt W hW
      clear HC
      generalize xs.getD k LhE.zero = y at *
      cases hq : anB y.f0 y.f1 y.f2 s ys
      · have HE := Lib.hid (sel_yes (hp.trans (by rw [hq]; rfl)))
        rw [hq] at hC
        have HC := Lib.hid hC
        clear hC hq hp
        go_wp2_with fail
        refine (HC.out _ (bw_alloc hbr _)).mono ?_
        rintro e w3 ⟨rfl, hb3⟩
        have hown3 := Lib.hid ((HO.out.alloc (.cells #[.int .i64 y.f0, .int .i64 y.f1, .int .i64 y.f2] 26)).below hb3)
        have hbr3 := bw_trans (bw_alloc hbr _) hb3
        have hsz3 := hbr3.size
        clear hb3
        go_wp2_with (at_builtin; refine wpAppI rfl _ _ rfl _ _ _ rfl (hown3.out.alloc _) _ ((k : Int)) rfl (by go_simp) (by omega) (by simp; omega) ?_; intro v4 w4 hown4 hg4 hb4)
        go_roundg (n - (k + 1))
        case rel => exact ⟨k + 1, by omega, rfl, by rw [HE.out]; exact hown4, by go_num, bw_from (bw_alloc hbr3 _) hb4⟩
        case measure => omega
      · have HE := Lib.hid (sel_no (hp.trans (by rw [hq]; rfl)))
        rw [hq] at hC
        have HC := Lib.hid hC
        clear hC hq hp
        go_wp2_with fail
        refine (HC.out _ (bw_alloc hbr _)).mono ?_
        rintro e w3 ⟨rfl, hb3⟩
        have hown3 := Lib.hid ((HO.out.alloc (.cells #[.int .i64 y.f0, .int .i64 y.f1, .int .i64 y.f2] 26)).below hb3)
        have hbr3 := bw_trans (bw_alloc hbr _) hb3
        clear hb3
        go_wp2_with fail
        go_roundg (n - (k + 1))
        case rel => exact ⟨k + 1, by omega, rfl, by rw [HE.out]; exact hown3.out, by go_num, hbr3⟩
        case measure => omega
    · have hkk : k = n := by omega
      subst hkk
      clear H
      obtain ⟨A', c', rfl⟩ := HO.out.form
      go_wp2
      go_ret
      exact ⟨_, rfl, HO.out, hbr⟩

/-- One of the first k lenses whose bits are set suits. -/
def fB (t l x s : Int) (ys : List Int) (b : Nat) : Nat → Bool
  | 0 => false
  | k + 1 => fB t l x s ys b k || (b.testBit k && suB t l x s (ys.getD k 0))
/-- The lenses whose bits are set. -/
def lnL (ys : List Int) (b k : Nat) : List Int := (selL b.testBit k).map fun i => ys.getD i.toNat 0
theorem fB_any (t l x s : Int) (ys : List Int) (b k : Nat) : fB t l x s ys b k = anB t l x s (lnL ys b k) := by
  induction k with
  | zero => rfl
  | succ k ih =>
    unfold fB
    rw [ih]
    unfold anB lnL
    cases h : b.testBit k
    · rw [sel_no h]; simp
    · rw [sel_yes h]; simp
theorem lnL_all {ys : List Int} {b n : Nat} (hl : ys.length = n) (hb : ∀ k, k < n → b.testBit k = true) {k : Nat} (hk : k ≤ n) : lnL ys b k = ys.take k := by
  induction k with
  | zero => rfl
  | succ k ih =>
    have h := hb k (by omega)
    have e := ih (by omega)
    unfold lnL at *
    rw [sel_yes h, List.map_append, e]
    have hk' : k < ys.length := by omega
    rw [List.take_succ_eq_append_getElem hk']
    simp [List.getD_eq_getElem?_getD, hk']
theorem fB_full (t l x s : Int) {ys : List Int} {n : Nat} (hl : ys.length = n) : fB t l x s ys (2 ^ n - 1) n = anB t l x s ys := by
  rw [fB_any, lnL_all hl (fun k hk => by rw [Nat.testBit_two_pow_sub_one]; simpa using hk) (Nat.le_refl _), ← hl, List.take_length]
def noF (xs : List LhE) (s : Int) (ys : List Int) (b m : Nat) (i : Nat) : Bool := !fB (xs.getD i LhE.zero).f0 (xs.getD i LhE.zero).f1 (xs.getD i LhE.zero).f2 s ys b m

set_option maxRecDepth 100000 in
set_option maxHeartbeats 3200000 in
theorem l11Left_any (A : Option Addr) (n c : Nat) (xs : List LhE) (s : Int) (B : Option Addr) (m d : Nat) (ys : List Int) (b : Nat) (w : World) (H : SlLh w A n xs) (HY : SlI w B m ys) (hn : n ≤ 8) (hm : m ≤ 12) (hv : hvAll xs n) (hs : isSl s = true) (hf : foAll ys) (hb : b < 65536) :
    Calls Try.prog 85 #[.slice A n c, .int .i64 s, .slice B m d, .int .i64 (b : Int)] w (GivesI (selL (noF xs s ys b m) n) w) := by
  have HV := Lib.hid hv
  have HS := Lib.hid hs
  have HF := Lib.hid hf
  have HYL := Lib.hid HY.length
  clear hv hs hf
  go_enter Try.func85, Try.ntmps85
  go_wp2_with fail
  go_loopg [9, 10] n (fun gh v x wr => ∃ k : Nat, k ≤ n ∧ gh = n - k ∧ OwnI wr w.heap.size v (selL (noF xs s ys b m) k) ∧ x = .int .i64 k ∧ Below w.heap.size w wr)
  case atStart => exact ⟨0, by omega, by omega, OwnI.lit w (Nat.le_refl _), rfl, bw_alloc (Below.refl _ _) _⟩
  case round =>
    obtain ⟨k, hk, rfl, hown, rfl, hbr⟩ := hrel
    have HO := Lib.hid hown
    have hl := sel_len (noF xs s ys b m) k
    clear hown
    by_cases hlt : k < n
    · obtain ⟨wo, rfl⟩ : ∃ wo : World, wo = wr := ⟨_, rfl⟩
      obtain ⟨bb, off, rfl, hbl, hc0, hc1, hc2⟩ := (H.below hbr).get hlt
      clear H
      have hkn : (k : Int) < (n : Int) := by omega
      have hp : noF xs s ys b m k = !fB (xs.getD k LhE.zero).f0 (xs.getD k LhE.zero).f1 (xs.getD k LhE.zero).f2 s ys b m := rfl
      have hvk := HV.out k hlt
      generalize xs.getD k LhE.zero = y at *
      have HVK := Lib.hid hvk
      have HP := Lib.hid hp
      clear hvk hp
      go_wp2_with fail
      go_loopg [11, 12] m (fun gi f z wq => ∃ j : Nat, j ≤ m ∧ gi = m - j ∧ f = .bool (fB y.f0 y.f1 y.f2 s ys b j) ∧ z = .int .i64 j ∧ Below wo.heap.size wo wq)
      case atStart => exact ⟨0, by omega, by omega, rfl, rfl, Below.refl _ _⟩
      case round =>
        obtain ⟨j, hj, rfl, rfl, rfl, hbq⟩ := hrel
        have hbq' := bw_trans hbr hbq
        by_cases hjm : j < m
        · obtain ⟨b2, off2, rfl, hbl2, hd0⟩ := (HY.below hbq').get hjm
          have he0 := cell_of hbq hc0
          have he1 := cell_of hbq hc1
          have he2 := cell_of hbq hc2
          clear HY hc0 hc1 hc2
          have hjn : (j : Int) < (m : Int) := by omega
          have HFJ := Lib.hid (HF.out j (by rw [HYL.out]; exact hjm))
          have HN := Lib.hid (show fB y.f0 y.f1 y.f2 s ys b (j + 1) = (fB y.f0 y.f1 y.f2 s ys b j || (b.testBit j && suB y.f0 y.f1 y.f2 s (ys.getD j 0))) from rfl)
          have hC := Lib.hid (fun (t : Bel wr) => l11Suits_any y.f0 y.f1 y.f2 s (ys.getD j 0) bb (off + k * 3) t.1 HVK.out HS.out HFJ.out (bel_cell he0 t) (bel_cell he1 t) (bel_cell he2 t))
          have hbit := bit_is b j hb
          have HBIT := Lib.hid hbit
          clear hbit
          generalize fB y.f0 y.f1 y.f2 s ys b j = F at *
          generalize ys.getD j 0 = v at *
          cases F
          · cases hq : b.testBit j
            · have hbit : (bits .and .i64 ((b : Int) / 2 ^ j) 1 == 1) = false := HBIT.out.trans hq
              go_wp2_with fail
              refine wp_region_bel (by kernel_rfl) (by kernel_rfl) ?_
              repeat (go_big_quiet_step ((fail)))
              refine wpQuiet_nil ?_
              intro w2 hw'
              obtain ⟨tq, hw''⟩ := hw'
              have hw2 := tq.2
              rw [← hw''] at hw2
              clear hw'' tq
              obtain ⟨hcw2, hfw2⟩ := bcell hw2
              try (have hzw2 : w.heap.size < w2.heap.size := by (have h := hw2.size; (try simp at h); omega))
              try (have hyw2 : w.heap.size + 1 < w2.heap.size := by (have h := hw2.size; (try simp at h); omega))
              try (have hxw2 : w.heap.size + 1 + 1 < w2.heap.size := by (have h := hw2.size; (try simp at h); omega))
              try (have hvw2 : w.heap.size + 1 + 1 + 1 < w2.heap.size := by (have h := hw2.size; (try simp at h); omega))
              go_wp2_with fail
              go_roundg (m - (j + 1))
              case rel => exact ⟨j + 1, by omega, rfl, by rw [HN.out, hq]; rfl, by go_num, bw_trans hbq hw2⟩
              case measure => omega
            · have hbit : (bits .and .i64 ((b : Int) / 2 ^ j) 1 == 1) = true := HBIT.out.trans hq
              have HQ := Lib.hid hq
              clear hq
              go_wp2_with fail
              refine wp_region_bel (by kernel_rfl) (by kernel_rfl) ?_
              repeat (go_big_quiet_step (((go_at_call 55; exact calm_of (hC.out _)))))
              refine wpQuiet_nil ?_
              intro w2 hw'
              obtain ⟨tq, hw''⟩ := hw'
              have hw2 := tq.2
              rw [← hw''] at hw2
              clear hw'' tq
              obtain ⟨hcw2, hfw2⟩ := bcell hw2
              try (have hzw2 : w.heap.size < w2.heap.size := by (have h := hw2.size; (try simp at h); omega))
              try (have hyw2 : w.heap.size + 1 < w2.heap.size := by (have h := hw2.size; (try simp at h); omega))
              try (have hxw2 : w.heap.size + 1 + 1 < w2.heap.size := by (have h := hw2.size; (try simp at h); omega))
              try (have hvw2 : w.heap.size + 1 + 1 + 1 < w2.heap.size := by (have h := hw2.size; (try simp at h); omega))
              go_wp2_with fail
              go_roundg (m - (j + 1))
              case rel => exact ⟨j + 1, by omega, rfl, by rw [HN.out, HQ.out]; rfl, by go_num, bw_trans hbq hw2⟩
              case measure => omega
          · go_wp2_with fail
            refine wp_region_bel (by kernel_rfl) (by kernel_rfl) ?_
            repeat (go_big_quiet_step ((fail)))
            refine wpQuiet_nil ?_
            intro w2 hw'
            obtain ⟨tq, hw''⟩ := hw'
            have hw2 := tq.2
            rw [← hw''] at hw2
            clear hw'' tq
            obtain ⟨hcw2, hfw2⟩ := bcell hw2
            try (have hzw2 : w.heap.size < w2.heap.size := by (have h := hw2.size; (try simp at h); omega))
            try (have hyw2 : w.heap.size + 1 < w2.heap.size := by (have h := hw2.size; (try simp at h); omega))
            try (have hxw2 : w.heap.size + 1 + 1 < w2.heap.size := by (have h := hw2.size; (try simp at h); omega))
            try (have hvw2 : w.heap.size + 1 + 1 + 1 < w2.heap.size := by (have h := hw2.size; (try simp at h); omega))
            go_wp2_with fail
            go_roundg (m - (j + 1))
            case rel => exact ⟨j + 1, by omega, rfl, by rw [HN.out]; rfl, by go_num, bw_trans hbq hw2⟩
            case measure => omega
        · have hjj : j = m := by omega
          subst hjj
          clear HY hc0 hc1 hc2
          have hown3 := Lib.hid (HO.out.below hbq)
          have hsz3 := hbq'.size
          cases hq : fB y.f0 y.f1 y.f2 s ys b j
          · have HE := Lib.hid (sel_yes (HP.out.trans (by rw [hq]; rfl)))
            clear hq
            go_wp2_with (at_builtin; refine wpAppI rfl _ _ rfl _ _ _ rfl (hown3.out.alloc _) _ ((k : Int)) rfl (by go_simp) (by omega) (by simp; omega) ?_; intro v4 w4 hown4 hg4 hb4)
            go_roundg (n - (k + 1))
            case rel => exact ⟨k + 1, by omega, rfl, by rw [HE.out]; exact hown4, by go_num, bw_from (bw_alloc hbq' _) hb4⟩
            case measure => omega
          · have HE := Lib.hid (sel_no (HP.out.trans (by rw [hq]; rfl)))
            clear hq
            go_wp2_with fail
            go_roundg (n - (k + 1))
            case rel => exact ⟨k + 1, by omega, rfl, by rw [HE.out]; exact hown3.out, by go_num, hbq'⟩
            case measure => omega
    · have hkk : k = n := by omega
      subst hkk
      clear H HY
      obtain ⟨A', c', rfl⟩ := HO.out.form
      go_wp2
      go_ret
      exact ⟨_, rfl, HO.out, hbr⟩

set_option maxHeartbeats 800000 in
theorem l11Code_any (A : Option Addr) (n c : Nat) (xs : List LhE) (s : Int) (B : Option Addr) (m d : Nat) (ys : List Int) (w : World) (H : SlLh w A n xs) (HY : SlI w B m ys) (hn : n ≤ 1048576) (hm : m ≤ 1048576) :
    Calls Try.prog 84 #[.slice A n c, .int .i64 s, .slice B m d] w fun e w' => e = .returned (.int .i64 (hcC (vhB xs n) s 1 ys m)) ∧ Below w.heap.size w w' := by
  have HV := Lib.hid (fun b hb => l11Ok_is A n c xs w H hn (b := b) hb)
  have HK := Lib.hid (fun W hW b hb => l11Stock_is B m d ys W (HY.below hW) hm (b := b) hb)
  clear H HY
  rcases hc_three (vhB xs n) s 1 ys m with ⟨hc, hv⟩ | ⟨hc, hv, hx⟩ | ⟨hc, hv, hs, _, hlk⟩
  · rw [hc]
    have HVV := Lib.hid hv
    clear hc hv
    go_enter Try.func84, Try.ntmps84
    go_wp2_with fail
    refine (HV.out _ HVV.out).mono ?_
    rintro e w1 ⟨rfl, hb1⟩
    go_wp2
    go_ret
    exact ⟨rfl, hb1⟩
  · rw [hc]
    have HVV := Lib.hid hv
    rw [isFo_one, Bool.and_true] at hx
    clear hc hv
    cases h1 : isSl s
    · go_enter Try.func84, Try.ntmps84
      go_wp2_with fail
      refine (HV.out _ HVV.out).mono ?_
      rintro e w1 ⟨rfl, hb1⟩
      go_wp2_with (first | (go_at_call 53; refine (l11Slide_is h1 _).mono ?_; rintro e w1 ⟨rfl, rfl⟩))
      go_ret
      exact ⟨rfl, hb1⟩
    · have h2 : lkB ys m 12 = false := by rw [h1] at hx; simpa using hx
      have HB := Lib.hid h2
      clear hx h2
      go_enter Try.func84, Try.ntmps84
      go_wp2_with fail
      refine (HV.out _ HVV.out).mono ?_
      rintro e w1 ⟨rfl, hb1⟩
      go_wp2_with (first | (go_at_call 53; refine (l11Slide_is h1 _).mono ?_; rintro e w1 ⟨rfl, rfl⟩) | (go_at_call 76; refine (HK.out _ hb1 _ HB.out).mono ?_; rintro e w1 ⟨rfl, rfl⟩))
      go_ret
      exact ⟨rfl, hb1⟩
  · rw [hc]
    have HVV := Lib.hid hv
    have HB := Lib.hid hlk
    clear hc hv hlk
    go_enter Try.func84, Try.ntmps84
    go_wp2_with fail
    refine (HV.out _ HVV.out).mono ?_
    rintro e w1 ⟨rfl, hb1⟩
    go_wp2_with (first | (go_at_call 53; refine (l11Slide_is hs _).mono ?_; rintro e w1 ⟨rfl, rfl⟩) | (go_at_call 76; refine (HK.out _ hb1 _ HB.out).mono ?_; rintro e w1 ⟨rfl, rfl⟩))
    go_ret
    exact ⟨rfl, hb1⟩
end Go.Proofs.Ythhilkahfgpncaa
