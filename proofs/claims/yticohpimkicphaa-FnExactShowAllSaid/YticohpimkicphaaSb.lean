/-
  Slices of Bar: read, copied, compared, opened.
-/
import Derived.Test.YticohpimkicphaaRow
import Derived.Deep.Slices
import Derived.Deep.Fields
import Derived.ChangeSame
namespace Go.Proofs.Yticohpimkicphaa
open Go.RowKit

structure BrE where
  f0 : Int
  f1 : Int
  f2 : Int
  f3 : Int
def BrE.zero : BrE := ⟨0, 0, 0, 0⟩

theorem Brto_any (x0 : Int) (x1 : Int) (x2 : Int) (x3 : Int) (w : World) :
    Calls Try.prog 68 #[.agg #[.int .i64 (x0), .int .i64 (x1), .int .i64 (x2), .int .i64 (x3)]] w fun e w' => e = .returned (.agg #[.int .i64 (x0), .int .i64 (x1), .int .i64 (x2), .int .i64 (x3)]) ∧ Below w.heap.size w w' := by
  go_enter Try.func68, Try.ntmps68
  go_wp2
  refine bodyPost_ret (v := .agg #[.int .i64 (x0), .int .i64 (x1), .int .i64 (x2), .int .i64 (x3)]) (by simp [results, Try.results68, go_sem, *]) rfl ⟨rfl, ?_⟩
  repeat (first | exact Below.refl _ _ | refine bw_drew ?_ | refine bw_drewN ?_ _ | refine bw_set ?_ (by simp; try omega) _ | refine bw_alloc ?_ _ | refine bw_trans ?_ (by assumption) | assumption)

theorem Breq_any (x0 : Int) (x1 : Int) (x2 : Int) (x3 : Int) (w : World) :
    Calls Try.prog 72 #[.agg #[.int .i64 (x0), .int .i64 (x1), .int .i64 (x2), .int .i64 (x3)], .agg #[.int .i64 (x0), .int .i64 (x1), .int .i64 (x2), .int .i64 (x3)]] w fun e w' => e = .returned (.bool true) ∧ Below w.heap.size w w' := by
  go_enter Try.func72, Try.ntmps72
  go_wp2
  go_ret
  refine ⟨rfl, ?_⟩
  repeat (first | exact Below.refl _ _ | refine bw_drew ?_ | refine bw_drewN ?_ _ | refine bw_set ?_ (by simp; try omega) _ | refine bw_alloc ?_ _ | refine bw_trans ?_ (by assumption) | assumption)

/-- A slice of Bar. -/
def SlBr (w : World) (A : Option Addr) (n : Nat) (xs : List BrE) : Prop :=
  xs.length = n ∧ (0 < n → ∃ b off, A = some ⟨b, off, none⟩ ∧ b < w.heap.size ∧ ∀ k, k < n → w.cell? ⟨b, off + k * 4, none⟩ = some (.int .i64 ((xs.getD k BrE.zero).f0)) ∧ w.cell? ⟨b, off + k * 4 + 1, none⟩ = some (.int .i64 ((xs.getD k BrE.zero).f1)) ∧ w.cell? ⟨b, off + k * 4 + 2, none⟩ = some (.int .i64 ((xs.getD k BrE.zero).f2)) ∧ w.cell? ⟨b, off + k * 4 + 3, none⟩ = some (.int .i64 ((xs.getD k BrE.zero).f3)))
theorem SlBr.get {w : World} {A : Option Addr} {n k : Nat} {xs : List BrE} (h : SlBr w A n xs) (hk : k < n) : ∃ b off, A = some ⟨b, off, none⟩ ∧ b < w.heap.size ∧
    w.cell? ⟨b, off + k * 4, none⟩ = some (.int .i64 ((xs.getD k BrE.zero).f0)) ∧ w.cell? ⟨b, off + k * 4 + 1, none⟩ = some (.int .i64 ((xs.getD k BrE.zero).f1)) ∧ w.cell? ⟨b, off + k * 4 + 2, none⟩ = some (.int .i64 ((xs.getD k BrE.zero).f2)) ∧ w.cell? ⟨b, off + k * 4 + 3, none⟩ = some (.int .i64 ((xs.getD k BrE.zero).f3)) := by
  obtain ⟨b, off, e, hl, hc⟩ := h.2 (by omega)
  exact ⟨b, off, e, hl, hc k hk⟩
theorem SlBr.cell {w : World} {b off n k : Nat} {xs : List BrE} (h : SlBr w (some ⟨b, off, none⟩) n xs) (hk : k < n) : w.cell? ⟨b, off + k * 4, none⟩ = some (.int .i64 ((xs.getD k BrE.zero).f0)) ∧ w.cell? ⟨b, off + k * 4 + 1, none⟩ = some (.int .i64 ((xs.getD k BrE.zero).f1)) ∧ w.cell? ⟨b, off + k * 4 + 2, none⟩ = some (.int .i64 ((xs.getD k BrE.zero).f2)) ∧ w.cell? ⟨b, off + k * 4 + 3, none⟩ = some (.int .i64 ((xs.getD k BrE.zero).f3)) := by
  obtain ⟨b', off', e, _, hc⟩ := h.get hk
  injection e with e
  injection e with e1 e2
  subst e1; subst e2; exact hc
theorem SlBr.below {w w' : World} {A : Option Addr} {n : Nat} {xs : List BrE} (h : SlBr w A n xs) (hb : Below w.heap.size w w') : SlBr w' A n xs :=
  ⟨h.1, fun hn => by
    obtain ⟨b, off, e, hl, hc⟩ := h.2 hn
    exact ⟨b, off, e, Nat.lt_of_lt_of_le hl hb.size, fun k hk => ⟨(hb.cell (p := ⟨b, off + k * 4, none⟩) hl).trans (hc k hk).1, (hb.cell (p := ⟨b, off + k * 4 + 1, none⟩) hl).trans (hc k hk).2.1, (hb.cell (p := ⟨b, off + k * 4 + 2, none⟩) hl).trans (hc k hk).2.2.1, (hb.cell (p := ⟨b, off + k * 4 + 3, none⟩) hl).trans (hc k hk).2.2.2⟩⟩⟩
theorem SlBr.nil (w : World) : SlBr w none 0 [] := ⟨rfl, fun h => absurd h (by omega)⟩

theorem Brinfo : (Try.prog.info? 78).map (fun i => (i.zero, i.size, i.bytes)) = some (some (.agg #[.int .i64 (0), .int .i64 (0), .int .i64 (0), .int .i64 (0)]), 4, 32) := by kernel_rfl
theorem Brmake (n : Nat) (hn : n ≤ 1048576) (W : World) :
    (Instr.makeSlice 31 (.int .i64 (n : Int)) (.int .i64 (n : Int))).run Try.prog W = .ok (.slice (some ⟨W.heap.size, 0, none⟩) n n) (W.alloc (.cells (madeCells #[.int .i64 (0), .int .i64 (0), .int .i64 (0), .int .i64 (0)] (n * 4)) 78)) := by
  obtain ⟨i0, hi, hz0, hz1, hz2⟩ := info_parts Brinfo
  have h := run_make (P := Try.prog) W 31 78 i0 (.agg #[.int .i64 (0), .int .i64 (0), .int .i64 (0), .int .i64 (0)]) Try.underlying31 hi hz0 .i64 .i64 (n : Int) (n : Int) (by omega) (by omega) (by rw [hz2]; omega) (by omega)
  rw [h, hz1, Int.toNat_natCast]
  rfl
theorem Brmade_at {n j : Nat} (hj : j < n * 4) : ∃ v, (madeCells #[.int .i64 (0), .int .i64 (0), .int .i64 (0), .int .i64 (0)] (n * 4))[j]? = some v := by
  have : j < (madeCells #[.int .i64 (0), .int .i64 (0), .int .i64 (0), .int .i64 (0)] (n * 4)).size := by unfold madeCells; simpa using hj
  exact ⟨_, Array.getElem?_eq_getElem this⟩
theorem Brsome_is {w : World} {a : Addr} (h : ∃ v, w.cell? a = some v) : (w.cell? a).isSome = true := by
  obtain ⟨v, h⟩ := h; rw [h]; rfl
theorem Brother {w : World} {p q : Addr} {x : Value} (e : p ≠ q) : (w.setCell p x).cell? q = w.cell? q := by apply World.cell?_setCell_other; exact e
theorem Brex_set {w : World} {p q : Addr} {x : Value} (h : ∃ v, w.cell? q = some v) : ∃ v, (w.setCell p x).cell? q = some v := by
  by_cases e : p = q
  · subst e; exact ⟨x, World.cell?_setCell_same' _ _ _ (Brsome_is h)⟩
  · rw [Brother e]; exact h
theorem Brne_off {b o o' : Nat} (h : o ≠ o') : (⟨b, o, none⟩ : Addr) ≠ ⟨b, o', none⟩ := by
  intro e; injection e with _ e; exact h e
theorem Brput {w2 : World} {B n k : Nat} {x : BrE} {xs : List BrE} (hk : k < n) (hx : xs.getD k BrE.zero = x)
    (hex : ∀ j, j < n * 4 → ∃ v, w2.cell? ⟨B, j, none⟩ = some v)
    (hd : ∀ i, i < k → w2.cell? ⟨B, i * 4, none⟩ = some (.int .i64 ((xs.getD i BrE.zero).f0)) ∧ w2.cell? ⟨B, i * 4 + 1, none⟩ = some (.int .i64 ((xs.getD i BrE.zero).f1)) ∧ w2.cell? ⟨B, i * 4 + 2, none⟩ = some (.int .i64 ((xs.getD i BrE.zero).f2)) ∧ w2.cell? ⟨B, i * 4 + 3, none⟩ = some (.int .i64 ((xs.getD i BrE.zero).f3))) :
    (∀ j, j < n * 4 → ∃ v, ((((w2.setCell ⟨B, k * 4, none⟩ (.int .i64 (x.f0))).setCell ⟨B, k * 4 + 1, none⟩ (.int .i64 (x.f1))).setCell ⟨B, k * 4 + 2, none⟩ (.int .i64 (x.f2))).setCell ⟨B, k * 4 + 3, none⟩ (.int .i64 (x.f3))).cell? ⟨B, j, none⟩ = some v) ∧ (∀ i, i < k + 1 → ((((w2.setCell ⟨B, k * 4, none⟩ (.int .i64 (x.f0))).setCell ⟨B, k * 4 + 1, none⟩ (.int .i64 (x.f1))).setCell ⟨B, k * 4 + 2, none⟩ (.int .i64 (x.f2))).setCell ⟨B, k * 4 + 3, none⟩ (.int .i64 (x.f3))).cell? ⟨B, i * 4, none⟩ = some (.int .i64 ((xs.getD i BrE.zero).f0)) ∧ ((((w2.setCell ⟨B, k * 4, none⟩ (.int .i64 (x.f0))).setCell ⟨B, k * 4 + 1, none⟩ (.int .i64 (x.f1))).setCell ⟨B, k * 4 + 2, none⟩ (.int .i64 (x.f2))).setCell ⟨B, k * 4 + 3, none⟩ (.int .i64 (x.f3))).cell? ⟨B, i * 4 + 1, none⟩ = some (.int .i64 ((xs.getD i BrE.zero).f1)) ∧ ((((w2.setCell ⟨B, k * 4, none⟩ (.int .i64 (x.f0))).setCell ⟨B, k * 4 + 1, none⟩ (.int .i64 (x.f1))).setCell ⟨B, k * 4 + 2, none⟩ (.int .i64 (x.f2))).setCell ⟨B, k * 4 + 3, none⟩ (.int .i64 (x.f3))).cell? ⟨B, i * 4 + 2, none⟩ = some (.int .i64 ((xs.getD i BrE.zero).f2)) ∧ ((((w2.setCell ⟨B, k * 4, none⟩ (.int .i64 (x.f0))).setCell ⟨B, k * 4 + 1, none⟩ (.int .i64 (x.f1))).setCell ⟨B, k * 4 + 2, none⟩ (.int .i64 (x.f2))).setCell ⟨B, k * 4 + 3, none⟩ (.int .i64 (x.f3))).cell? ⟨B, i * 4 + 3, none⟩ = some (.int .i64 ((xs.getD i BrE.zero).f3))) := by
  refine ⟨fun j hj => Brex_set (Brex_set (Brex_set (Brex_set (hex j hj)))), fun i hi => ?_⟩
  rcases Nat.lt_or_ge i k with hi' | hi'
  · exact ⟨by rw [Brother (Brne_off (by omega)), Brother (Brne_off (by omega)), Brother (Brne_off (by omega)), Brother (Brne_off (by omega))]; exact (hd i hi').1, by rw [Brother (Brne_off (by omega)), Brother (Brne_off (by omega)), Brother (Brne_off (by omega)), Brother (Brne_off (by omega))]; exact (hd i hi').2.1, by rw [Brother (Brne_off (by omega)), Brother (Brne_off (by omega)), Brother (Brne_off (by omega)), Brother (Brne_off (by omega))]; exact (hd i hi').2.2.1, by rw [Brother (Brne_off (by omega)), Brother (Brne_off (by omega)), Brother (Brne_off (by omega)), Brother (Brne_off (by omega))]; exact (hd i hi').2.2.2⟩
  · have hik : i = k := by omega
    subst hik
    rw [hx]
    exact ⟨by rw [Brother (Brne_off (by omega)), Brother (Brne_off (by omega)), Brother (Brne_off (by omega)), World.cell?_setCell_same' _ _ _ (Brsome_is (hex _ (by omega)))], by rw [Brother (Brne_off (by omega)), Brother (Brne_off (by omega)), World.cell?_setCell_same' _ _ _ (Brsome_is (Brex_set (hex _ (by omega))))], by rw [Brother (Brne_off (by omega)), World.cell?_setCell_same' _ _ _ (Brsome_is (Brex_set (Brex_set (hex _ (by omega)))))], by rw [World.cell?_setCell_same' _ _ _ (Brsome_is (Brex_set (Brex_set (Brex_set (hex _ (by omega))))))]⟩
set_option maxHeartbeats 800000 in
theorem BrtoSF_any (A : Option Addr) (n c : Nat) (xs : List BrE) (w : World) (H : SlBr w A n xs) (hn : n ≤ 1048576) :
    Calls Try.prog 45 #[.slice A n c] w fun e w' => e = .returned (.slice (some ⟨w.heap.size, 0, none⟩) n n) ∧ SlBr w' (some ⟨w.heap.size, 0, none⟩) n xs ∧ (∀ j, w'.frozen? ⟨w.heap.size, j, none⟩ = false) ∧ w.heap.size < w'.heap.size ∧ Below w.heap.size w w' := by
  have hmk := Brmake n hn
  have HL := Lib.hid H.1
  go_enter Try.func45, Try.ntmps45
  go_wp2_with fail
  clear hmk
  go_loopw [4] (fun x wr => ∃ k : Nat, k ≤ n ∧ x = .int .i64 k ∧ Below w.heap.size w wr ∧ w.heap.size < wr.heap.size ∧
    (∀ j, wr.frozen? ⟨w.heap.size, j, none⟩ = false) ∧ Hid (∀ j, j < n * 4 → ∃ v, wr.cell? ⟨w.heap.size, j, none⟩ = some v) ∧
    Hid (∀ i, i < k → wr.cell? ⟨w.heap.size, i * 4, none⟩ = some (.int .i64 ((xs.getD i BrE.zero).f0)) ∧ wr.cell? ⟨w.heap.size, i * 4 + 1, none⟩ = some (.int .i64 ((xs.getD i BrE.zero).f1)) ∧ wr.cell? ⟨w.heap.size, i * 4 + 2, none⟩ = some (.int .i64 ((xs.getD i BrE.zero).f2)) ∧ wr.cell? ⟨w.heap.size, i * 4 + 3, none⟩ = some (.int .i64 ((xs.getD i BrE.zero).f3)))) (fun x _ => (n - (intOf x).toNat))
  case atStart =>
    refine ⟨0, by omega, rfl, bw_alloc (Below.refl _ _) _, by simp, ?_, ?_, fun i hi => absurd hi (by omega)⟩
    · intro j; go_simp
    · intro j hj
      obtain ⟨v, hv⟩ := Brmade_at hj
      refine ⟨v, ?_⟩
      rw [cell_of_row _ _ j _ _ (0, 0) (heap_alloc_new w _)]; exact hv
  case round =>
    obtain ⟨k, hk, rfl, hbr, hz, hfr, hex, hdone⟩ := hrel
    by_cases hlt : k < n
    · obtain ⟨b, off, rfl, hbl, hc0, hc1, hc2, hc3⟩ := (H.below hbr).get hlt
      clear H
      obtain ⟨x, hx⟩ : ∃ x, xs.getD k BrE.zero = x := ⟨_, rfl⟩
      rw [hx] at hc0 hc1 hc2 hc3
      have HX := Lib.hid hx
      clear hx
      obtain ⟨v0, hv0⟩ := hex.out (k * 4) (by omega)
      obtain ⟨v1, hv1⟩ := hex.out (k * 4 + 1) (by omega)
      obtain ⟨v2, hv2⟩ := hex.out (k * 4 + 2) (by omega)
      obtain ⟨v3, hv3⟩ := hex.out (k * 4 + 3) (by omega)
      go_wp2_with fail
      refine (Brto_any _ _ _ _ _).mono ?_
      rintro e w2 ⟨rfl, hb2⟩
      have hu0 := (hb2.cell (p := ⟨w.heap.size, k * 4, none⟩) hz).trans hv0
      have hu1 := (hb2.cell (p := ⟨w.heap.size, k * 4 + 1, none⟩) hz).trans hv1
      have hu2 := (hb2.cell (p := ⟨w.heap.size, k * 4 + 2, none⟩) hz).trans hv2
      have hu3 := (hb2.cell (p := ⟨w.heap.size, k * 4 + 3, none⟩) hz).trans hv3
      have hf2 : ∀ j, w2.frozen? ⟨w.heap.size, j, none⟩ = false := fun j => (hb2.frozen (p := ⟨w.heap.size, j, none⟩) hz).trans (hfr j)
      have hz2 : w.heap.size < w2.heap.size := by (have h := hb2.size; omega)
      have HP := Lib.hid (Brput (w2 := w2) (B := w.heap.size) hlt HX.out (fun j hj => (hex.out j hj).elim fun v hv => ⟨v, (hb2.cell (p := ⟨w.heap.size, j, none⟩) hz).trans hv⟩) (fun i hi => ⟨(hb2.cell (p := ⟨w.heap.size, i * 4, none⟩) hz).trans (hdone.out i hi).1, (hb2.cell (p := ⟨w.heap.size, i * 4 + 1, none⟩) hz).trans (hdone.out i hi).2.1, (hb2.cell (p := ⟨w.heap.size, i * 4 + 2, none⟩) hz).trans (hdone.out i hi).2.2.1, (hb2.cell (p := ⟨w.heap.size, i * 4 + 3, none⟩) hz).trans (hdone.out i hi).2.2.2⟩))
      have hb3 := bw_trans hbr hb2
      clear hdone hex
      go_wp2
      go_roundw
      case rel => exact ⟨k + 1, by omega, by go_num, bw_set (bw_set (bw_set (bw_set (hb3) (Nat.le_refl _) _) (Nat.le_refl _) _) (Nat.le_refl _) _) (Nat.le_refl _) _, by simpa using hz2, by simpa using hf2, HP.out.1, HP.out.2⟩
      case measure => simp [intOf]; omega
    · have hkk : k = n := by omega
      subst hkk
      go_wp2
      go_ret
      exact ⟨rfl, ⟨HL.out, fun _ => ⟨_, 0, rfl, hz, fun i hi => by simpa using hdone.out i hi⟩⟩, hfr, hz, hbr⟩
theorem BrtoS_any (A : Option Addr) (n c : Nat) (xs : List BrE) (w : World) (H : SlBr w A n xs) (hn : n ≤ 1048576) :
    Calls Try.prog 45 #[.slice A n c] w fun e w' => e = .returned (.slice (some ⟨w.heap.size, 0, none⟩) n n) ∧ SlBr w' (some ⟨w.heap.size, 0, none⟩) n xs ∧ Below w.heap.size w w' :=
  (BrtoSF_any A n c xs w H hn).mono fun _ _ ⟨h1, h2, _, _, h5⟩ => ⟨h1, h2, h5⟩

set_option maxHeartbeats 800000 in
theorem BreqS_any (A B : Option Addr) (n c d : Nat) (xs : List BrE) (w : World) (HA : SlBr w A n xs) (HB : SlBr w B n xs) (hn : n ≤ 1048576) :
    Calls Try.prog 52 #[.slice A n c, .slice B n d] w fun e w' => e = .returned (.bool true) ∧ Below w.heap.size w w' := by
  go_enter Try.func52, Try.ntmps52
  go_wp2_with fail
  go_loopw [5] (fun x wr => ∃ k : Nat, k ≤ n ∧ x = .int .i64 k ∧ Below w.heap.size w wr) (fun x _ => (n - (intOf x).toNat))
  case atStart => exact ⟨0, by omega, rfl, Below.refl _ _⟩
  case round =>
    obtain ⟨k, hk, rfl, hbr⟩ := hrel
    by_cases hlt : k < n
    · obtain ⟨b, off, rfl, hbl, hc0, hc1, hc2, hc3⟩ := (HA.below hbr).get hlt
      obtain ⟨b', off', rfl, hbl', hd0, hd1, hd2, hd3⟩ := (HB.below hbr).get hlt
      clear HA HB
      have hik : (k : Int) < (n : Int) := by omega
      generalize xs.getD k BrE.zero = x at *
      go_wp2_with fail
      refine wp_region_bel (by kernel_rfl) (by kernel_rfl) ?_
      repeat (go_big_quiet_step (((go_at_call 72; exact calm_of (Breq_any _ _ _ _ _)))))
      refine wpQuiet_nil ?_
      intro w2 hw'
      obtain ⟨tq, hw''⟩ := hw'
      have hw2 := tq.2
      rw [← hw''] at hw2
      clear hw'' tq
      obtain ⟨hcw2, hfw2⟩ := bcell hw2
      try (have hzw2 : w.heap.size < w2.heap.size := by (have h := hw2.size; (try simp at h); omega))
      try (have hyw2 : w.heap.size + 1 < w2.heap.size := by (have h := hw2.size; (try simp at h); omega))
      try (have hxw2 : w.heap.size + 1 + 1 < w2.heap.size := by (have h := hw2.size; (try simp at h); omega))
      try (have hvw2 : w.heap.size + 1 + 1 + 1 < w2.heap.size := by (have h := hw2.size; (try simp at h); omega))
      go_wp2_with fail
      go_roundw
      case rel => exact ⟨k + 1, by omega, by go_num, bw_trans hbr hw2⟩
      case measure => simp [intOf]; omega
    · have hkk : k = n := by omega
      subst hkk
      clear HA HB
      go_wp2
      go_ret
      exact ⟨rfl, hbr⟩
end Go.Proofs.Yticohpimkicphaa
