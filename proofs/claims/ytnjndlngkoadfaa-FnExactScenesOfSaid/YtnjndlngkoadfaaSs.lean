/-
  Slices of Scene: read, copied, compared, opened.
-/
import Derived.Test.YtnjndlngkoadfaaRow
import Derived.Deep.Slices
import Derived.Deep.Fields
import Derived.ChangeSame
namespace Go.Proofs.Ytnjndlngkoadfaa
open Go.RowKit

structure ScE where
  f0 : ByteArray
  f1 : Int
def ScE.zero : ScE := ⟨⟨#[]⟩, 0⟩

theorem Scto_any (x0 : ByteArray) (x1 : Int) (w : World) :
    Calls Try.prog 41 #[.agg #[.string (x0), .int .i64 (x1)]] w fun e w' => e = .returned (.agg #[.string (x0), .int .i64 (x1)]) ∧ Below w.heap.size w w' := by
  go_enter Try.func41, Try.ntmps41
  go_wp2
  refine bodyPost_ret (v := .agg #[.string (x0), .int .i64 (x1)]) (by simp [results, Try.results41, go_sem, *]) rfl ⟨rfl, ?_⟩
  repeat (first | exact Below.refl _ _ | refine bw_drew ?_ | refine bw_drewN ?_ _ | refine bw_set ?_ (by simp; try omega) _ | refine bw_alloc ?_ _ | refine bw_trans ?_ (by assumption) | assumption)

theorem Sceq_any (x0 : ByteArray) (x1 : Int) (w : World) :
    Calls Try.prog 43 #[.agg #[.string (x0), .int .i64 (x1)], .agg #[.string (x0), .int .i64 (x1)]] w fun e w' => e = .returned (.bool true) ∧ Below w.heap.size w w' := by
  go_enter Try.func43, Try.ntmps43
  go_wp2
  go_ret
  refine ⟨rfl, ?_⟩
  repeat (first | exact Below.refl _ _ | refine bw_drew ?_ | refine bw_drewN ?_ _ | refine bw_set ?_ (by simp; try omega) _ | refine bw_alloc ?_ _ | refine bw_trans ?_ (by assumption) | assumption)

/-- A slice of Scene. -/
def SlSc (w : World) (A : Option Addr) (n : Nat) (xs : List ScE) : Prop :=
  xs.length = n ∧ (0 < n → ∃ b off, A = some ⟨b, off, none⟩ ∧ b < w.heap.size ∧ ∀ k, k < n → w.cell? ⟨b, off + k * 2, none⟩ = some (.string ((xs.getD k ScE.zero).f0)) ∧ w.cell? ⟨b, off + k * 2 + 1, none⟩ = some (.int .i64 ((xs.getD k ScE.zero).f1)))
theorem SlSc.get {w : World} {A : Option Addr} {n k : Nat} {xs : List ScE} (h : SlSc w A n xs) (hk : k < n) : ∃ b off, A = some ⟨b, off, none⟩ ∧ b < w.heap.size ∧
    w.cell? ⟨b, off + k * 2, none⟩ = some (.string ((xs.getD k ScE.zero).f0)) ∧ w.cell? ⟨b, off + k * 2 + 1, none⟩ = some (.int .i64 ((xs.getD k ScE.zero).f1)) := by
  obtain ⟨b, off, e, hl, hc⟩ := h.2 (by omega)
  exact ⟨b, off, e, hl, hc k hk⟩
theorem SlSc.cell {w : World} {b off n k : Nat} {xs : List ScE} (h : SlSc w (some ⟨b, off, none⟩) n xs) (hk : k < n) : w.cell? ⟨b, off + k * 2, none⟩ = some (.string ((xs.getD k ScE.zero).f0)) ∧ w.cell? ⟨b, off + k * 2 + 1, none⟩ = some (.int .i64 ((xs.getD k ScE.zero).f1)) := by
  obtain ⟨b', off', e, _, hc⟩ := h.get hk
  injection e with e
  injection e with e1 e2
  subst e1; subst e2; exact hc
theorem SlSc.below {w w' : World} {A : Option Addr} {n : Nat} {xs : List ScE} (h : SlSc w A n xs) (hb : Below w.heap.size w w') : SlSc w' A n xs :=
  ⟨h.1, fun hn => by
    obtain ⟨b, off, e, hl, hc⟩ := h.2 hn
    exact ⟨b, off, e, Nat.lt_of_lt_of_le hl hb.size, fun k hk => ⟨(hb.cell (p := ⟨b, off + k * 2, none⟩) hl).trans (hc k hk).1, (hb.cell (p := ⟨b, off + k * 2 + 1, none⟩) hl).trans (hc k hk).2⟩⟩⟩
theorem SlSc.nil (w : World) : SlSc w none 0 [] := ⟨rfl, fun h => absurd h (by omega)⟩

theorem Scinfo : (Try.prog.info? 51).map (fun i => (i.zero, i.size, i.bytes)) = some (some (.agg #[.string (⟨#[]⟩), .int .i64 (0)]), 2, 24) := by kernel_rfl
theorem Scmake (n : Nat) (hn : n ≤ 1048576) (W : World) :
    (Instr.makeSlice 28 (.int .i64 (n : Int)) (.int .i64 (n : Int))).run Try.prog W = .ok (.slice (some ⟨W.heap.size, 0, none⟩) n n) (W.alloc (.cells (madeCells #[.string (⟨#[]⟩), .int .i64 (0)] (n * 2)) 51)) := by
  obtain ⟨i0, hi, hz0, hz1, hz2⟩ := info_parts Scinfo
  have h := run_make (P := Try.prog) W 28 51 i0 (.agg #[.string (⟨#[]⟩), .int .i64 (0)]) Try.underlying28 hi hz0 .i64 .i64 (n : Int) (n : Int) (by omega) (by omega) (by rw [hz2]; omega) (by omega)
  rw [h, hz1, Int.toNat_natCast]
  rfl
theorem Scmade_at {n j : Nat} (hj : j < n * 2) : ∃ v, (madeCells #[.string (⟨#[]⟩), .int .i64 (0)] (n * 2))[j]? = some v := by
  have : j < (madeCells #[.string (⟨#[]⟩), .int .i64 (0)] (n * 2)).size := by unfold madeCells; simpa using hj
  exact ⟨_, Array.getElem?_eq_getElem this⟩
theorem Scsome_is {w : World} {a : Addr} (h : ∃ v, w.cell? a = some v) : (w.cell? a).isSome = true := by
  obtain ⟨v, h⟩ := h; rw [h]; rfl
theorem Scother {w : World} {p q : Addr} {x : Value} (e : p ≠ q) : (w.setCell p x).cell? q = w.cell? q := by apply World.cell?_setCell_other; exact e
theorem Scex_set {w : World} {p q : Addr} {x : Value} (h : ∃ v, w.cell? q = some v) : ∃ v, (w.setCell p x).cell? q = some v := by
  by_cases e : p = q
  · subst e; exact ⟨x, World.cell?_setCell_same' _ _ _ (Scsome_is h)⟩
  · rw [Scother e]; exact h
theorem Scne_off {b o o' : Nat} (h : o ≠ o') : (⟨b, o, none⟩ : Addr) ≠ ⟨b, o', none⟩ := by
  intro e; injection e with _ e; exact h e
theorem Scput {w2 : World} {B n k : Nat} {x : ScE} {xs : List ScE} (hk : k < n) (hx : xs.getD k ScE.zero = x)
    (hex : ∀ j, j < n * 2 → ∃ v, w2.cell? ⟨B, j, none⟩ = some v)
    (hd : ∀ i, i < k → w2.cell? ⟨B, i * 2, none⟩ = some (.string ((xs.getD i ScE.zero).f0)) ∧ w2.cell? ⟨B, i * 2 + 1, none⟩ = some (.int .i64 ((xs.getD i ScE.zero).f1))) :
    (∀ j, j < n * 2 → ∃ v, ((w2.setCell ⟨B, k * 2, none⟩ (.string (x.f0))).setCell ⟨B, k * 2 + 1, none⟩ (.int .i64 (x.f1))).cell? ⟨B, j, none⟩ = some v) ∧ (∀ i, i < k + 1 → ((w2.setCell ⟨B, k * 2, none⟩ (.string (x.f0))).setCell ⟨B, k * 2 + 1, none⟩ (.int .i64 (x.f1))).cell? ⟨B, i * 2, none⟩ = some (.string ((xs.getD i ScE.zero).f0)) ∧ ((w2.setCell ⟨B, k * 2, none⟩ (.string (x.f0))).setCell ⟨B, k * 2 + 1, none⟩ (.int .i64 (x.f1))).cell? ⟨B, i * 2 + 1, none⟩ = some (.int .i64 ((xs.getD i ScE.zero).f1))) := by
  refine ⟨fun j hj => Scex_set (Scex_set (hex j hj)), fun i hi => ?_⟩
  rcases Nat.lt_or_ge i k with hi' | hi'
  · exact ⟨by rw [Scother (Scne_off (by omega)), Scother (Scne_off (by omega))]; exact (hd i hi').1, by rw [Scother (Scne_off (by omega)), Scother (Scne_off (by omega))]; exact (hd i hi').2⟩
  · have hik : i = k := by omega
    subst hik
    rw [hx]
    exact ⟨by rw [Scother (Scne_off (by omega)), World.cell?_setCell_same' _ _ _ (Scsome_is (hex _ (by omega)))], by rw [World.cell?_setCell_same' _ _ _ (Scsome_is (Scex_set (hex _ (by omega))))]⟩
set_option maxHeartbeats 800000 in
theorem SctoSF_any (A : Option Addr) (n c : Nat) (xs : List ScE) (w : World) (H : SlSc w A n xs) (hn : n ≤ 1048576) :
    Calls Try.prog 16 #[.slice A n c] w fun e w' => e = .returned (.slice (some ⟨w.heap.size, 0, none⟩) n n) ∧ SlSc w' (some ⟨w.heap.size, 0, none⟩) n xs ∧ (∀ j, w'.frozen? ⟨w.heap.size, j, none⟩ = false) ∧ w.heap.size < w'.heap.size ∧ Below w.heap.size w w' := by
  have hmk := Scmake n hn
  have HL := Lib.hid H.1
  go_enter Try.func16, Try.ntmps16
  go_wp2_with fail
  clear hmk
  go_loopw [4] (fun x wr => ∃ k : Nat, k ≤ n ∧ x = .int .i64 k ∧ Below w.heap.size w wr ∧ w.heap.size < wr.heap.size ∧
    (∀ j, wr.frozen? ⟨w.heap.size, j, none⟩ = false) ∧ Hid (∀ j, j < n * 2 → ∃ v, wr.cell? ⟨w.heap.size, j, none⟩ = some v) ∧
    Hid (∀ i, i < k → wr.cell? ⟨w.heap.size, i * 2, none⟩ = some (.string ((xs.getD i ScE.zero).f0)) ∧ wr.cell? ⟨w.heap.size, i * 2 + 1, none⟩ = some (.int .i64 ((xs.getD i ScE.zero).f1)))) (fun x _ => (n - (intOf x).toNat))
  case atStart =>
    refine ⟨0, by omega, rfl, bw_alloc (Below.refl _ _) _, by simp, ?_, ?_, fun i hi => absurd hi (by omega)⟩
    · intro j; go_simp
    · intro j hj
      obtain ⟨v, hv⟩ := Scmade_at hj
      refine ⟨v, ?_⟩
      rw [cell_of_row _ _ j _ _ (0, 0) (heap_alloc_new w _)]; exact hv
  case round =>
    obtain ⟨k, hk, rfl, hbr, hz, hfr, hex, hdone⟩ := hrel
    by_cases hlt : k < n
    · obtain ⟨b, off, rfl, hbl, hc0, hc1⟩ := (H.below hbr).get hlt
      clear H
      obtain ⟨x, hx⟩ : ∃ x, xs.getD k ScE.zero = x := ⟨_, rfl⟩
      rw [hx] at hc0 hc1
      have HX := Lib.hid hx
      clear hx
      obtain ⟨v0, hv0⟩ := hex.out (k * 2) (by omega)
      obtain ⟨v1, hv1⟩ := hex.out (k * 2 + 1) (by omega)
      go_wp2_with fail
      refine (Scto_any _ _ _).mono ?_
      rintro e w2 ⟨rfl, hb2⟩
      have hu0 := (hb2.cell (p := ⟨w.heap.size, k * 2, none⟩) hz).trans hv0
      have hu1 := (hb2.cell (p := ⟨w.heap.size, k * 2 + 1, none⟩) hz).trans hv1
      have hf2 : ∀ j, w2.frozen? ⟨w.heap.size, j, none⟩ = false := fun j => (hb2.frozen (p := ⟨w.heap.size, j, none⟩) hz).trans (hfr j)
      have hz2 : w.heap.size < w2.heap.size := by (have h := hb2.size; omega)
      have HP := Lib.hid (Scput (w2 := w2) (B := w.heap.size) hlt HX.out (fun j hj => (hex.out j hj).elim fun v hv => ⟨v, (hb2.cell (p := ⟨w.heap.size, j, none⟩) hz).trans hv⟩) (fun i hi => ⟨(hb2.cell (p := ⟨w.heap.size, i * 2, none⟩) hz).trans (hdone.out i hi).1, (hb2.cell (p := ⟨w.heap.size, i * 2 + 1, none⟩) hz).trans (hdone.out i hi).2⟩))
      have hb3 := bw_trans hbr hb2
      clear hdone hex
      go_wp2
      go_roundw
      case rel => exact ⟨k + 1, by omega, by go_num, bw_set (bw_set (hb3) (Nat.le_refl _) _) (Nat.le_refl _) _, by simpa using hz2, by simpa using hf2, HP.out.1, HP.out.2⟩
      case measure => simp [intOf]; omega
    · have hkk : k = n := by omega
      subst hkk
      go_wp2
      go_ret
      exact ⟨rfl, ⟨HL.out, fun _ => ⟨_, 0, rfl, hz, fun i hi => by simpa using hdone.out i hi⟩⟩, hfr, hz, hbr⟩
theorem SctoS_any (A : Option Addr) (n c : Nat) (xs : List ScE) (w : World) (H : SlSc w A n xs) (hn : n ≤ 1048576) :
    Calls Try.prog 16 #[.slice A n c] w fun e w' => e = .returned (.slice (some ⟨w.heap.size, 0, none⟩) n n) ∧ SlSc w' (some ⟨w.heap.size, 0, none⟩) n xs ∧ Below w.heap.size w w' :=
  (SctoSF_any A n c xs w H hn).mono fun _ _ ⟨h1, h2, _, _, h5⟩ => ⟨h1, h2, h5⟩

set_option maxHeartbeats 800000 in
theorem SceqS_any (A B : Option Addr) (n c d : Nat) (xs : List ScE) (w : World) (HA : SlSc w A n xs) (HB : SlSc w B n xs) (hn : n ≤ 1048576) :
    Calls Try.prog 18 #[.slice A n c, .slice B n d] w fun e w' => e = .returned (.bool true) ∧ Below w.heap.size w w' := by
  go_enter Try.func18, Try.ntmps18
  go_wp2_with fail
  go_loopw [5] (fun x wr => ∃ k : Nat, k ≤ n ∧ x = .int .i64 k ∧ Below w.heap.size w wr) (fun x _ => (n - (intOf x).toNat))
  case atStart => exact ⟨0, by omega, rfl, Below.refl _ _⟩
  case round =>
    obtain ⟨k, hk, rfl, hbr⟩ := hrel
    by_cases hlt : k < n
    · obtain ⟨b, off, rfl, hbl, hc0, hc1⟩ := (HA.below hbr).get hlt
      obtain ⟨b', off', rfl, hbl', hd0, hd1⟩ := (HB.below hbr).get hlt
      clear HA HB
      have hik : (k : Int) < (n : Int) := by omega
      generalize xs.getD k ScE.zero = x at *
      go_wp2_with fail
      refine wp_region_bel (by kernel_rfl) (by kernel_rfl) ?_
      repeat (go_big_quiet_step (((go_at_call 43; exact calm_of (Sceq_any _ _ _)))))
      refine wpQuiet_nil ?_
      intro w2 hw'
      obtain ⟨tq, hw''⟩ := hw'
      have hw2 := tq.2
      rw [← hw''] at hw2
      clear hw'' tq
      obtain ⟨hcw2, hfw2⟩ := bcell hw2
      try (have hzw2 : w.heap.size < w2.heap.size := by (have h := hw2.size; (try simp at h); omega))
      try (have hyw2 : w.heap.size + 1 < w2.heap.size := by (have h := hw2.size; (try simp at h); omega))
      try (have hxw2 : w.heap.size + 1 + 1 < w2.heap.size := by (have h := hw2.size; (try simp at h); omega))
      try (have hvw2 : w.heap.size + 1 + 1 + 1 < w2.heap.size := by (have h := hw2.size; (try simp at h); omega))
      go_wp2_with fail
      go_roundw
      case rel => exact ⟨k + 1, by omega, by go_num, bw_trans hbr hw2⟩
      case measure => simp [intOf]; omega
    · have hkk : k = n := by omega
      subst hkk
      clear HA HB
      go_wp2
      go_ret
      exact ⟨rfl, hbr⟩
end Go.Proofs.Ytnjndlngkoadfaa
