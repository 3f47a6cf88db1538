/-
  Slices of slices of integers: sizes, copies, comparing, opening; the closure of ShowAll.
-/
import Derived.Test.YticohpimkicphaaYx
import Derived.Deep.Slices
import Derived.ProofKit
import Derived.OpenShut
namespace Go.Proofs.Yticohpimkicphaa
open Go.RowKit

set_option maxHeartbeats 800000 in
theorem wsIdx_any (p : List Int → Bool) (q1 : Value) (A : Option Addr) (n c : Nat) (pls : List (List Int)) (w : World) (H : SlSS w A n pls) (hn : n ≤ 1048576)
    (hcl : ∀ k, k < n → ∀ W, Below w.heap.size w W → ∀ A' c', SlI W A' (pls.getD k []).length (pls.getD k []) → (pls.getD k []).length ≤ 1048576 → Calls Try.prog 48 #[.slice A' (pls.getD k []).length c', q1] W fun e w' => e = .returned (.bool (p (pls.getD k []))) ∧ Below W.heap.size W w') :
    Calls Try.prog 69 #[.slice A n c, .func (.func 48) #[] #[q1]] w fun e w' => e = .returned (.int .i64 (gidx p pls)) ∧ Below w.heap.size w w' := by
  have HL := Lib.hid H.1
  have HC := Lib.hid hcl
  clear hcl
  go_enter Try.func69, Try.ntmps69
  go_wp2_with fail
  go_loopw [8] (fun x wr => ∃ k : Nat, k ≤ n ∧ x = .int .i64 k ∧ Hid (∀ j, j < k → p (pls.getD j []) = false) ∧ Below w.heap.size w wr) (fun x _ => (n - (intOf x).toNat))
  case atStart => exact ⟨0, by omega, rfl, fun j hj => absurd hj (by omega), Below.refl _ _⟩
  case round =>
    obtain ⟨k, hk, rfl, hno, hbr⟩ := hrel
    by_cases hlt : k < n
    · obtain ⟨b, off, rfl, hbl, A', c', hc, hsl, hle⟩ := (H.below hbr).get hlt
      have HCK := Lib.hid (HC.out k hlt _ hbr A' c' hsl hle)
      clear H HC hsl
      cases hp : p (pls.getD k [])
      · have hn' : ∀ j, j < k + 1 → p (pls.getD j []) = false := fun j hj => by
          rcases Nat.lt_or_ge j k with h | h
          · exact hno.out j h
          · have : j = k := by omega
            subst this; exact hp
        have HN := Lib.hid hn'
        rw [hp] at HCK
        clear hn' hp
        generalize (pls.getD k []).length = q at *
        go_wp2_with fail
        refine HCK.out.mono ?_
        rintro e w1 ⟨rfl, hb1⟩
        go_wp2_with fail
        go_roundw
        case rel => exact ⟨k + 1, by omega, by go_num, HN.out, bw_trans hbr hb1⟩
        case measure => simp [intOf]; omega
      · have HF := Lib.hid (gidx_at (by rw [HL.out]; exact hlt) hp hno.out)
        rw [hp] at HCK
        clear hp
        generalize (pls.getD k []).length = q at *
        go_wp2_with fail
        refine HCK.out.mono ?_
        rintro e w1 ⟨rfl, hb1⟩
        go_wp2
        go_ret
        exact ⟨ret_int (by rw [HF.out]), bw_trans hbr hb1⟩
    · have hkk : k = n := by omega
      subst hkk
      have HF := Lib.hid (gidx_none (fun j hj => hno.out j (by rw [← HL.out]; exact hj)))
      clear H
      go_wp2
      go_ret
      exact ⟨ret_int (by rw [HF.out]), hbr⟩

set_option maxHeartbeats 800000 in
theorem wsCon_any (p : List Int → Bool) (q1 : Value) (A : Option Addr) (n c : Nat) (pls : List (List Int)) (w : World) (H : SlSS w A n pls) (hn : n ≤ 1048576) {b : Bool} (hb : pls.any p = b)
    (hcl : ∀ k, k < n → ∀ W, Below w.heap.size w W → ∀ A' c', SlI W A' (pls.getD k []).length (pls.getD k []) → (pls.getD k []).length ≤ 1048576 → Calls Try.prog 48 #[.slice A' (pls.getD k []).length c', q1] W fun e w' => e = .returned (.bool (p (pls.getD k []))) ∧ Below W.heap.size W w') :
    Calls Try.prog 47 #[.slice A n c, .func (.func 48) #[] #[q1]] w fun e w' => e = .returned (.bool b) ∧ Below w.heap.size w w' := by
  have HF := Lib.hid (gidx_any p pls)
  have HB := Lib.hid hb
  clear hb
  go_enter Try.func47, Try.ntmps47
  go_wp2_with fail
  refine (wsIdx_any p q1 A n c pls w H hn hcl).mono ?_
  rintro e w1 ⟨rfl, hb1⟩
  go_wp2
  go_ret
  exact ⟨ret_bool (by rw [← HB.out, ← HF.out]), hb1⟩

theorem wsClos_any (g : Nat) (A : Option Addr) (n c : Nat) (ss : List Int) (bv : Value) (P : Option Addr) (k e : Nat) (ps : List Int) (w : World) (h0 : w.cell? ⟨g, 0, none⟩ = some (.slice A n c)) (h1 : w.cell? ⟨g, 1, none⟩ = some bv) (HS : SlI w A n ss) (HP : SlI w P k ps) (hn : n ≤ 1048576) (hk : k ≤ 1048576) (hst : stBd ss n) :
    Calls Try.prog 48 #[.slice P k e, .pointer (some ⟨g, 0, none⟩)] w fun e w' => e = .returned (.bool (!plB ss ps n)) ∧ Below w.heap.size w w' := by
  have HK := Lib.hid (placesOk_any A n c ss bv P k e ps w HS HP hn hk hst)
  clear HS HP hst
  generalize plB ss ps n = R at *
  go_enter Try.func48, Try.ntmps48
  go_wp2_with fail
  refine HK.out.mono ?_
  rintro e w1 ⟨rfl, hb1⟩
  go_wp2
  go_ret
  exact ⟨rfl, hb1⟩

/-- A slice of slices of integers, no length above bd. -/
def SlSB (bd : Nat) (w : World) (A : Option Addr) (n : Nat) (pls : List (List Int)) : Prop :=
  pls.length = n ∧ (0 < n → ∃ b off, A = some ⟨b, off, none⟩ ∧ b < w.heap.size ∧ ∀ k, k < n → ∃ A' c', w.cell? ⟨b, off + k, none⟩ = some (.slice A' (pls.getD k []).length c') ∧ SlI w A' (pls.getD k []).length (pls.getD k []) ∧ (pls.getD k []).length ≤ bd)
theorem SlSB.get {bd : Nat} {w : World} {A : Option Addr} {n k : Nat} {pls : List (List Int)} (h : SlSB bd w A n pls) (hk : k < n) : ∃ b off, A = some ⟨b, off, none⟩ ∧ b < w.heap.size ∧ ∃ A' c', w.cell? ⟨b, off + k, none⟩ = some (.slice A' (pls.getD k []).length c') ∧ SlI w A' (pls.getD k []).length (pls.getD k []) ∧ (pls.getD k []).length ≤ bd := by
  obtain ⟨b, off, e, hl, hc⟩ := h.2 (by omega)
  exact ⟨b, off, e, hl, hc k hk⟩
theorem SlSB.below {bd : Nat} {w w' : World} {A : Option Addr} {n : Nat} {pls : List (List Int)} (h : SlSB bd w A n pls) (hb : Below w.heap.size w w') : SlSB bd w' A n pls :=
  ⟨h.1, fun hn => by
    obtain ⟨b, off, e, hl, hc⟩ := h.2 hn
    refine ⟨b, off, e, Nat.lt_of_lt_of_le hl hb.size, fun k hk => ?_⟩
    obtain ⟨A', c', h1, h2, h3⟩ := hc k hk
    exact ⟨A', c', cell_of hb h1, h2.below hb, h3⟩⟩
theorem SlSB.small {bd : Nat} {w : World} {A : Option Addr} {n : Nat} {pls : List (List Int)} (h : SlSB bd w A n pls) (hb : ∀ k, k < n → (pls.getD k []).length ≤ 1048576) : SlSS w A n pls :=
  ⟨h.1, fun hn => by
    obtain ⟨b, off, e, hl, hc⟩ := h.2 hn
    refine ⟨b, off, e, hl, fun k hk => ?_⟩
    obtain ⟨A', c', h1, h2, h3⟩ := hc k hk
    exact ⟨A', c', h1, h2, hb k hk⟩⟩

def SzOk (n : Nat) (pls : List (List Int)) (Z : Int) : Prop := ¬ Z < 0 → n ≤ 1048576 ∧ ∀ k, k < n → (pls.getD k []).length ≤ 1048576
set_option maxHeartbeats 1600000 in
theorem szSS_any (A : Option Addr) (n c : Nat) (pls : List (List Int)) (l : Int) (w : World) (H : SlSB 9223372036854775807 w A n pls) (hn : n ≤ 9223372036854775807) (hl : 0 ≤ l ∧ l ≤ 1048576) :
    Calls Try.prog 12 #[.slice A n c, .int .i64 l] w fun e w' => ∃ Z : Int, e = .returned (.int .i64 Z) ∧ SzOk n pls Z ∧ Z ≤ 1048576 ∧ Below w.heap.size w w' := by
  obtain ⟨h1, h2⟩ := hl
  by_cases h : l - (n : Int) < 0
  · clear H
    go_enter Try.func12, Try.ntmps12
    go_wp2
    go_ret
    exact ⟨-1, rfl, fun h => absurd (show (-1 : Int) < 0 by decide) h, by omega, Below.refl _ _⟩
  have hn2 : n ≤ 1048576 := by omega
  have HH := Lib.hid H
  clear H
  go_enter Try.func12, Try.ntmps12
  go_wp2_with fail
  go_loopg [1, 5] n (fun gh v x wr => ∃ (k : Nat) (L : Int), k ≤ n ∧ gh = n - k ∧ x = .int .i64 (k : Int) ∧ v = .int .i64 L ∧ 0 ≤ L ∧ L ≤ 1048576 ∧ Hid (∀ j, j < k → (pls.getD j []).length ≤ 1048576) ∧ Below w.heap.size w wr)
  case atStart => exact ⟨0, _, by omega, by omega, rfl, rfl, by omega, by omega, fun j hj => absurd hj (by omega), Below.refl _ _⟩
  case round =>
    obtain ⟨k, L, hk, rfl, rfl, rfl, hL0, hL1, hno, hbr⟩ := hrel
    by_cases hlt : k < n
    · obtain ⟨b, off, rfl, hbl, A', c', hc, hs, hle⟩ := (HH.out.below hbr).get hlt
      have HZ := Lib.hid (szI_any A' (pls.getD k []).length c' L wr hle ⟨hL0, hL1⟩)
      have hkn : (k : Int) < (n : Int) := by omega
      by_cases hz : L - ((pls.getD k []).length : Int) < 0
      · rw [if_pos hz] at HZ
        clear hs
        generalize (pls.getD k []).length = q at *
        go_wp2_with fail
        refine HZ.out.mono ?_
        rintro e w1 ⟨rfl, hb1⟩
        go_wp2
        go_ret
        exact ⟨-1, rfl, fun h => absurd (show (-1 : Int) < 0 by decide) h, by omega, bw_trans hbr hb1⟩
      · rw [if_neg hz] at HZ
        have HN : Hid (∀ j, j < k + 1 → (pls.getD j []).length ≤ 1048576) := fun j hj => by
          rcases Nat.lt_or_ge j k with h | h
          · exact hno.out j h
          · have : j = k := by omega
            subst this; omega
        clear hs
        generalize (pls.getD k []).length = q at *
        go_wp2_with fail
        refine HZ.out.mono ?_
        rintro e w1 ⟨rfl, hb1⟩
        go_wp2_with fail
        go_roundg (n - (k + 1))
        case rel => exact ⟨k + 1, _, by omega, rfl, by go_num, rfl, by omega, by omega, HN, bw_trans hbr hb1⟩
        case measure => omega
    · have hkk : k = n := by omega
      subst hkk
      clear HH
      go_wp2
      go_ret
      exact ⟨L, rfl, fun _ => ⟨hn2, hno.out⟩, hL1, hbr⟩

theorem makeSS (n : Nat) (hn : n ≤ 1048576) : ∃ ZB : Obj, (∀ W : World, (Instr.makeSlice 26 (.int .i64 (n : Int)) (.int .i64 (n : Int))).run Try.prog W = .ok (.slice (some ⟨W.heap.size, 0, none⟩) n n) (W.alloc ZB)) ∧
    ∀ (W : World) k, k < n → (W.alloc ZB).cell? ⟨W.heap.size, k, none⟩ = some (.slice none 0 0) ∧ (W.alloc ZB).frozen? ⟨W.heap.size, k, none⟩ = false := by
  obtain ⟨i0, hi, hz0, hz1, hz2⟩ := info_parts infoSl
  refine ⟨.cells (madeCells #[.slice none 0 0] n) 22, fun W => ?_, fun W k hk => ?_⟩
  · have h := run_make (P := Try.prog) W 26 22 i0 (.slice none 0 0) Try.underlying26 hi hz0 .i64 .i64 (n : Int) (n : Int) (by omega) (by omega) (by rw [hz2]; omega) (by omega)
    rw [h, hz1, Int.toNat_natCast, Nat.mul_one]
    rfl
  · have hh : (W.alloc (.cells (madeCells #[.slice none 0 0] n) 22)).heap[W.heap.size]? = some (.cells (madeCells #[.slice none 0 0] n) 22) := heap_alloc_new W _
    refine ⟨?_, by go_simp⟩
    rw [cell_of_row _ W.heap.size k _ _ _ hh]
    unfold madeCells
    simp [hk]
    rw [show k % 1 = 0 by omega]
    rfl

set_option maxHeartbeats 3200000 in
theorem toSS_any (A : Option Addr) (n c : Nat) (pls : List (List Int)) (w : World) (H : SlSS w A n pls) (hn : n ≤ 1048576) :
    Calls Try.prog 16 #[.slice A n c] w fun e w' => ∃ g, e = .returned (.slice (some ⟨g, 0, none⟩) n n) ∧ SlSS w' (some ⟨g, 0, none⟩) n pls ∧ Below w.heap.size w w' := by
  obtain ⟨ZB, hmk, hz⟩ := makeSS n hn
  have HZ := Lib.hid (hz w)
  have HH := Lib.hid (fun W (hW : Below w.heap.size w W) => H.below hW)
  have HL := Lib.hid H.1
  clear hz H
  go_enter Try.func16, Try.ntmps16
  go_wp2_with fail
  clear hmk
  go_loopg [4] n (fun gh x wr => ∃ k : Nat, k ≤ n ∧ gh = n - k ∧ x = .int .i64 (k : Int) ∧ Below w.heap.size w wr ∧ w.heap.size < wr.heap.size ∧ Hid (∀ j, j < n → (∃ v, wr.cell? ⟨w.heap.size, j, none⟩ = some v) ∧ wr.frozen? ⟨w.heap.size, j, none⟩ = false) ∧
    Hid (∀ j, j < k → ∃ A' c', wr.cell? ⟨w.heap.size, j, none⟩ = some (.slice A' (pls.getD j []).length c') ∧ SlI wr A' (pls.getD j []).length (pls.getD j []) ∧ (∀ a, A' = some a → a.block ≠ w.heap.size) ∧ (pls.getD j []).length ≤ 1048576))
  case atStart => exact ⟨0, by omega, by omega, rfl, bw_alloc (Below.refl _ _) _, by simp, fun j hj => ⟨⟨_, (HZ.out j hj).1⟩, (HZ.out j hj).2⟩, fun j hj => absurd hj (by omega)⟩
  case round =>
    clear HZ
    obtain ⟨k, hk, rfl, rfl, hbr, hsz, HE, HD⟩ := hrel
    by_cases hlt : k < n
    · obtain ⟨b, off, rfl, hbl, A', c', hc, hs, hle⟩ := (HH.out _ hbr).get hlt
      have HT := Lib.hid (toInts_any A' (pls.getD k []).length c' (pls.getD k []) wr hs hle)
      have HM := Lib.hid (OwnI.made (w := wr) (xs := pls.getD k []) rfl hle)
      have hkn : (k : Int) < (n : Int) := by omega
      obtain ⟨xs, hxs⟩ : ∃ xs, pls.getD k [] = xs := ⟨_, rfl⟩
      rw [hxs] at HT HM hc hs hle
      have HX := Lib.hid hxs
      obtain ⟨⟨v0, hv0⟩, hf0⟩ := HE.out k hlt
      clear hs hxs
      go_wp2_with fail
      refine HT.out.mono ?_
      rintro e w1 ⟨rfl, he⟩
      rw [← he] at HM
      have hb1 : Below wr.heap.size wr w1 := by rw [he]; exact bw_alloc (Below.refl _ _) _
      have hv1 := cell_of hb1 hv0
      have hf1 := (hb1.frozen (p := ⟨w.heap.size, k, none⟩) hsz).trans hf0
      have hsz1 := Nat.lt_of_lt_of_le hsz hb1.size
      have HE1 : Hid (∀ j, j < n → (∃ v, (w1.setCell ⟨w.heap.size, k, none⟩ (.slice (some ⟨wr.heap.size, 0, none⟩) xs.length xs.length)).cell? ⟨w.heap.size, j, none⟩ = some v) ∧ (w1.setCell ⟨w.heap.size, k, none⟩ (.slice (some ⟨wr.heap.size, 0, none⟩) xs.length xs.length)).frozen? ⟨w.heap.size, j, none⟩ = false) := fun j hj => by
        obtain ⟨⟨v, hv⟩, hf⟩ := HE.out j hj
        exact ⟨Brex_set ⟨v, cell_of hb1 hv⟩, by rw [World.frozen?_setCell]; exact (hb1.frozen (p := ⟨w.heap.size, j, none⟩) hsz).trans hf⟩
      have HD1 : Hid (∀ j, j < k + 1 → ∃ A' c', (w1.setCell ⟨w.heap.size, k, none⟩ (.slice (some ⟨wr.heap.size, 0, none⟩) xs.length xs.length)).cell? ⟨w.heap.size, j, none⟩ = some (.slice A' (pls.getD j []).length c') ∧ SlI (w1.setCell ⟨w.heap.size, k, none⟩ (.slice (some ⟨wr.heap.size, 0, none⟩) xs.length xs.length)) A' (pls.getD j []).length (pls.getD j []) ∧ (∀ a, A' = some a → a.block ≠ w.heap.size) ∧ (pls.getD j []).length ≤ 1048576) := fun j hj => by
        have hgs := grown_set w1 ⟨w.heap.size, k, none⟩ (.slice (some ⟨wr.heap.size, 0, none⟩) xs.length xs.length)
        rcases Nat.lt_or_ge j k with h | h
        · obtain ⟨A5, c5, e1, e2, e3, e4⟩ := HD.out j h
          refine ⟨A5, c5, ?_, (e2.below hb1).grown hgs (fun a ha e => e3 a ha (Option.some.inj e)), e3, e4⟩
          rw [Brother (Brne_off (by omega))]
          exact cell_of hb1 e1
        · have : j = k := by omega
          subst this
          rw [HX.out]
          have hne : ∀ a, some (⟨wr.heap.size, 0, none⟩ : Addr) = some a → a.block ≠ w.heap.size := fun a ha => by
            injection ha with ha
            subst ha
            show wr.heap.size ≠ w.heap.size
            omega
          exact ⟨some ⟨wr.heap.size, 0, none⟩, xs.length, World.cell?_setCell_same' _ _ _ (by rw [hv1]; rfl), (HM.out.sl.2).grown hgs (fun a ha e => hne a ha (Option.some.inj e)), hne, hle⟩
      have hbb : Below w.heap.size w (w1.setCell ⟨w.heap.size, k, none⟩ (.slice (some ⟨wr.heap.size, 0, none⟩) xs.length xs.length)) := bw_set (bw_trans hbr hb1) (Nat.le_refl _) _
      have HBB := Lib.hid hbb
      have HSZ := Lib.hid (show w.heap.size < (w1.setCell ⟨w.heap.size, k, none⟩ (.slice (some ⟨wr.heap.size, 0, none⟩) xs.length xs.length)).heap.size by rw [World.size_setCell]; exact hsz1)
      clear hbb HM HT HE HD hc hv0 hf0 he hb1
      go_wp2_with fail
      go_roundg (n - (k + 1))
      case rel => exact ⟨k + 1, by omega, rfl, by go_num, HBB.out, HSZ.out, HE1, HD1⟩
      case measure => omega
    · have hkk : k = n := by omega
      subst hkk
      clear HH HE
      go_wp2
      go_ret
      refine ⟨w.heap.size, rfl, ⟨HL.out, fun _ => ⟨w.heap.size, 0, rfl, hsz, fun j hj => ?_⟩⟩, hbr⟩
      obtain ⟨A5, c5, e1, e2, _, e4⟩ := HD.out j hj
      rw [Nat.zero_add]
      exact ⟨A5, c5, e1, e2, e4⟩

set_option maxHeartbeats 1600000 in
theorem eqSS_any (A B : Option Addr) (n c d : Nat) (pls : List (List Int)) (w : World) (HA : SlSS w A n pls) (HB : SlSS w B n pls) (hn : n ≤ 1048576) :
    Calls Try.prog 20 #[.slice A n c, .slice B n d] w fun e w' => e = .returned (.bool true) ∧ Below w.heap.size w w' := by
  go_enter Try.func20, Try.ntmps20
  go_wp2_with fail
  go_loopw [5] (fun x wr => ∃ k : Nat, k ≤ n ∧ x = .int .i64 k ∧ Below w.heap.size w wr) (fun x _ => (n - (intOf x).toNat))
  case atStart => exact ⟨0, by omega, rfl, Below.refl _ _⟩
  case round =>
    obtain ⟨k, hk, rfl, hbr⟩ := hrel
    by_cases hlt : k < n
    · obtain ⟨b, off, rfl, hbl, A1, c1, hc, hs1, hle⟩ := (HA.below hbr).get hlt
      obtain ⟨b', off', rfl, hbl', A2, c2, hc', hs2, -⟩ := (HB.below hbr).get hlt
      clear HA HB
      have HE := Lib.hid (fun (t : Bel wr) => eqInts_any A1 A2 _ c1 c2 _ t.1 (hs1.below t.2) (hs2.below t.2) hle)
      have hik : (k : Int) < (n : Int) := by omega
      clear hs1 hs2
      generalize (pls.getD k []).length = q at *
      go_wp2_with fail
      refine wp_region_bel (by kernel_rfl) (by kernel_rfl) ?_
      repeat (go_big_quiet_step (((go_at_call 19; exact calm_of (HE.out _)))))
      refine wpQuiet_nil ?_
      intro w1 hw'
      obtain ⟨tq, hw''⟩ := hw'
      have hw1 := tq.2
      rw [← hw''] at hw1
      clear hw'' tq
      obtain ⟨hcw1, hfw1⟩ := bcell hw1
      try (have hzw1 : w.heap.size < w1.heap.size := by (have h := hw1.size; (try simp at h); omega))
      try (have hyw1 : w.heap.size + 1 < w1.heap.size := by (have h := hw1.size; (try simp at h); omega))
      try (have hxw1 : w.heap.size + 1 + 1 < w1.heap.size := by (have h := hw1.size; (try simp at h); omega))
      try (have hvw1 : w.heap.size + 1 + 1 + 1 < w1.heap.size := by (have h := hw1.size; (try simp at h); omega))
      clear HE
      go_wp2_with fail
      go_roundw
      case rel => exact ⟨k + 1, by omega, by go_num, bw_trans hbr hw1⟩
      case measure => simp [intOf]; omega
    · have hkk : k = n := by omega
      subst hkk
      clear HA HB
      go_wp2
      go_ret
      exact ⟨rfl, hbr⟩
end Go.Proofs.Yticohpimkicphaa
