/-
  The text of a drum: in the reference and in the program, the same string.
-/
import Derived.Test.YtjpjmfdadidopaaDoorDc
import Derived.Test.YtjpjmfdadidopaaDoorDs
import Derived.Lib.ItoaLen
namespace Go.Proofs.YtjpjmfdadidopaaDoor
open Go.RowKit

def drumOk (r h s : Int) : Bool := inB r 100 10000 && (inB h 20 1000 && inB s 1 48)
def itoaS (n : Int) : ByteArray := ⟨(Lib.itoa n).toArray⟩
def drumS (r h s : Int) : ByteArray := itoaS r ++ ⟨#[120]⟩ ++ itoaS h ++ ⟨#[47]⟩ ++ itoaS s
def drumT (r h s : Int) : ByteArray := if drumOk r h s = true then drumS r h s else ⟨#[]⟩
theorem inB_bd {n lo hi : Int} (h : inB n lo hi = true) : lo ≤ n ∧ n ≤ hi := by
  unfold inB at h
  simpa using h
theorem drumOk_bd {r h s : Int} (hk : drumOk r h s = true) : (100 ≤ r ∧ r ≤ 10000) ∧ (20 ≤ h ∧ h ≤ 1000) ∧ (1 ≤ s ∧ s ≤ 48) := by
  unfold drumOk at hk
  simp only [Bool.and_eq_true] at hk
  exact ⟨inB_bd hk.1, inB_bd hk.2.1, inB_bd hk.2.2⟩
theorem itoaS_size {n : Int} (h1 : -1000000000000000000 < n) (h2 : n < 1000000000000000000) : (itoaS n).size ≤ 21 := Lib.itoa_length_le n (by omega) (by omega)
set_option maxHeartbeats 1600000 in
set_option maxRecDepth 100000 in
theorem l07Ok_any (b : Nat) (r h s : Int) (w : World) (c0 : w.cell? ⟨b, 0, none⟩ = some (.int .i64 r)) (c1 : w.cell? ⟨b, 1, none⟩ = some (.int .i64 h)) (c2 : w.cell? ⟨b, 2, none⟩ = some (.int .i64 s)) :
    Calls Tryd.prog 13 #[.pointer (some ⟨b, 0, none⟩)] w fun e w' => e = .returned (.bool (drumOk r h s)) ∧ w = w' := by
  unfold drumOk
  rcases h1 : inB r 100 10000
  · go_enter Tryd.func13, Tryd.ntmps13
    go_wp2_with (go_at_call 21; refine (l00In_is (by assumption) _).mono ?_; rintro e w1 ⟨rfl, rfl⟩)
    go_ret
    exact ⟨rfl, rfl⟩
  · rcases h2 : inB h 20 1000
    · go_enter Tryd.func13, Tryd.ntmps13
      go_wp2_with (go_at_call 21; refine (l00In_is (by assumption) _).mono ?_; rintro e w1 ⟨rfl, rfl⟩)
      go_ret
      exact ⟨rfl, rfl⟩
    · rcases h3 : inB s 1 48 <;>
      · go_enter Tryd.func13, Tryd.ntmps13
        go_wp2_with (go_at_call 21; refine (l00In_is (by assumption) _).mono ?_; rintro e w1 ⟨rfl, rfl⟩)
        go_ret
        exact ⟨rfl, rfl⟩
set_option maxHeartbeats 1600000 in
set_option maxRecDepth 100000 in
theorem validDrum_any (r h s : Int) (w : World) :
    Calls Tryd.prog 17 #[.agg #[.int .i64 r, .int .i64 h, .int .i64 s]] w fun e w' => e = .returned (.bool (drumOk r h s)) ∧ Below w.heap.size w w' := by
  unfold drumOk
  rcases h1 : inB r 100 10000
  · go_enter Tryd.func17, Tryd.ntmps17
    go_wp2_with (go_at_call 25; refine (within_is (by assumption) _).mono ?_; rintro e w1 ⟨rfl, rfl⟩)
    go_ret
    exact ⟨rfl, bw_alloc (Below.refl _ _) _⟩
  · rcases h2 : inB h 20 1000
    · go_enter Tryd.func17, Tryd.ntmps17
      go_wp2_with (go_at_call 25; refine (within_is (by assumption) _).mono ?_; rintro e w1 ⟨rfl, rfl⟩)
      go_ret
      exact ⟨rfl, bw_alloc (Below.refl _ _) _⟩
    · rcases h3 : inB s 1 48 <;>
      · go_enter Tryd.func17, Tryd.ntmps17
        go_wp2_with (go_at_call 25; refine (within_is (by assumption) _).mono ?_; rintro e w1 ⟨rfl, rfl⟩)
        go_ret
        exact ⟨rfl, bw_alloc (Below.refl _ _) _⟩

theorem l01Dec_str {n : Int} (w : World) (h1 : -1000000000000000000 < n) (h2 : n < 1000000000000000000) :
    Calls Tryd.prog 20 #[.int .i64 n] w fun e w' => e = .returned (.string (itoaS n)) ∧ Below w.heap.size w w' := l01Dec_any n w h1 h2
set_option maxHeartbeats 1600000 in
set_option maxRecDepth 100000 in
theorem l07Text_any (b : Nat) (r h s : Int) (w : World) (c0 : w.cell? ⟨b, 0, none⟩ = some (.int .i64 r)) (c1 : w.cell? ⟨b, 1, none⟩ = some (.int .i64 h)) (c2 : w.cell? ⟨b, 2, none⟩ = some (.int .i64 s)) (hb : b < w.heap.size) (hk : drumOk r h s = true) :
    Calls Tryd.prog 16 #[.pointer (some ⟨b, 0, none⟩)] w fun e w' => e = .returned (.string (drumS r h s)) ∧ Below w.heap.size w w' := by
  obtain ⟨⟨_, _⟩, ⟨_, _⟩, ⟨_, _⟩⟩ := drumOk_bd hk
  have s1 := itoaS_size (n := r) (by omega) (by omega)
  have s2 := itoaS_size (n := h) (by omega) (by omega)
  have s3 := itoaS_size (n := s) (by omega) (by omega)
  go_enter Tryd.func16, Tryd.ntmps16
  go_wp2_with fail
  refine wp_region_bel (by kernel_rfl) (by kernel_rfl) ?_
  repeat (go_big_quiet_step (((go_at_call 20; exact calm_of (l01Dec_str _ (by omega) (by omega))))))
  refine wpQuiet_nil ?_
  intro wq hw'
  obtain ⟨tq, hw''⟩ := hw'
  have hwq := tq.2
  rw [← hw''] at hwq
  clear hw'' tq
  obtain ⟨hcwq, hfwq⟩ := bcell hwq
  try (have hzwq : w.heap.size < wq.heap.size := by (have h := hwq.size; (try simp at h); omega))
  try (have hywq : w.heap.size + 1 < wq.heap.size := by (have h := hwq.size; (try simp at h); omega))
  try (have hxwq : w.heap.size + 1 + 1 < wq.heap.size := by (have h := hwq.size; (try simp at h); omega))
  try (have hvwq : w.heap.size + 1 + 1 + 1 < wq.heap.size := by (have h := hwq.size; (try simp at h); omega))
  go_wp2
  go_ret
  exact ⟨rfl, by assumption⟩

theorem tab_below {P : Program} {w w' : World} {name : String} {k : IntKind} {zs : List Int} (h : Lib.TabIs P w name k zs) (hb : Below w.heap.size w w') : Lib.TabIs P w' name k zs := by
  unfold Lib.TabIs World.var? at *
  rcases hg : P.globalNamed name with _ | g
  · rw [hg] at h; cases h
  · rw [hg] at h
    simp only [Option.bind_some] at h ⊢
    rcases Nat.lt_or_ge g w.heap.size with h1 | h1
    · rw [hb.block g h1]; exact h
    · rw [Array.getElem?_eq_none h1] at h; cases h
/-- The table that the library's numeral reads. -/
def Pow (w : World) : Prop := Lib.TabIs Tryd.prog w "internal/strconv.uint64pow10" .u64 Lib.pow10Tab
theorem Pow.below {w w' : World} (h : Pow w) (hb : Below w.heap.size w w') : Pow w' := tab_below h hb
theorem below_grow (w : World) (k : Nat) (os : Array Obj) : Below w.heap.size w (Go.Sort.grow (w.drewN k) os) :=
  ⟨rfl, rfl, rfl, by simp [Go.Sort.grow], fun i hi => by simp [Go.Sort.grow, Array.getElem?_append, hi]⟩
theorem formatInt_any (n : Int) (w : World) (h0 : -9223372036854775808 ≤ n) (h1 : n ≤ 9223372036854775807) (ht : Pow w) :
    Calls Tryd.prog 26 #[.int .i64 n, .int .i64 10] w fun e w' => e = .returned (.string (itoaS n)) ∧ Below w.heap.size w w' :=
  (Tryd.strconv_FormatInt_10 n h0 h1 w ht).mono fun _ _ ⟨he, k, os, hw⟩ => ⟨he, hw ▸ below_grow w k os⟩
theorem decimal_any (n : Int) (w : World) (h0 : -9223372036854775808 ≤ n) (h1 : n ≤ 9223372036854775807) (ht : Pow w) :
    Calls Tryd.prog 18 #[.int .i64 n] w fun e w' => e = .returned (.string (itoaS n)) ∧ Below w.heap.size w w' := by
  go_enter Tryd.func18, Tryd.ntmps18
  go_wp2_with (go_at_call 26; refine (formatInt_any n _ h0 h1 ht).mono ?_; rintro e w1 ⟨rfl, hb1⟩)
  go_ret
  exact ⟨rfl, hb1⟩

set_option maxHeartbeats 1600000 in
set_option maxRecDepth 100000 in
theorem drumText_any (r h s : Int) (w : World) (ht : Pow w) :
    Calls Tryd.prog 10 #[.agg #[.int .i64 r, .int .i64 h, .int .i64 s]] w fun e w' => e = .returned (.string (drumT r h s)) ∧ Below w.heap.size w w' := by
  unfold drumT
  rcases hk : drumOk r h s
  · go_enter Tryd.func10, Tryd.ntmps10
    go_wp2_with (go_at_call 17; refine (validDrum_any r h s _).mono ?_; rintro e w1 ⟨rfl, hb1⟩; rw [hk])
    go_ret
    exact ⟨rfl, bw_trans (bw_alloc (Below.refl _ _) _) hb1⟩
  · obtain ⟨⟨_, _⟩, ⟨_, _⟩, ⟨_, _⟩⟩ := drumOk_bd hk
    have s1 := itoaS_size (n := r) (by omega) (by omega)
    have s2 := itoaS_size (n := h) (by omega) (by omega)
    have s3 := itoaS_size (n := s) (by omega) (by omega)
    have HT := Lib.hid ht
    go_enter Tryd.func10, Tryd.ntmps10
    go_wp2_with (go_at_call 17; refine (validDrum_any r h s _).mono ?_; rintro e w1 ⟨rfl, hb1⟩; rw [hk]; obtain ⟨hc1, hf1⟩ := bcell hb1; have hz1 : w.heap.size < w1.heap.size := by (have h := hb1.size; simp at h; omega))
    have hP := HT.out.below (bw_trans (bw_alloc (Below.refl _ _) _) hb1)
    have HP := Lib.hid hP
    clear hP
    have hB1 := bw_trans (bw_alloc (Below.refl w.heap.size w) _) hb1
    refine wp_region_bel (by kernel_rfl) (by kernel_rfl) ?_
    repeat (go_big_quiet_step (((go_at_call 18; exact calm_of (decimal_any _ _ (by omega) (by omega) (HP.out.below (by exact Subtype.property _)))))))
    refine wpQuiet_nil ?_
    intro wq hw'
    obtain ⟨tq, hw''⟩ := hw'
    have hwq := tq.2
    rw [← hw''] at hwq
    clear hw'' tq
    obtain ⟨hcwq, hfwq⟩ := bcell hwq
    try (have hzwq : w.heap.size < wq.heap.size := by (have h := hwq.size; (try simp at h); omega))
    try (have hywq : w.heap.size + 1 < wq.heap.size := by (have h := hwq.size; (try simp at h); omega))
    try (have hxwq : w.heap.size + 1 + 1 < wq.heap.size := by (have h := hwq.size; (try simp at h); omega))
    try (have hvwq : w.heap.size + 1 + 1 + 1 < wq.heap.size := by (have h := hwq.size; (try simp at h); omega))
    go_wp2
    go_ret
    exact ⟨rfl, bw_trans hB1 (by assumption)⟩
set_option maxHeartbeats 1600000 in
set_option maxRecDepth 100000 in
theorem sDrumText_any (r h s : Int) (w : World) :
    Calls Tryd.prog 8 #[.agg #[.int .i64 r, .int .i64 h, .int .i64 s]] w fun e w' => e = .returned (.string (drumT r h s)) ∧ Below w.heap.size w w' := by
  unfold drumT
  rcases hk : drumOk r h s
  · go_enter Tryd.func8, Tryd.ntmps8
    go_wp2_with (go_at_call 13; refine (l07Ok_any _ r h s _ (by go_simp) (by go_simp) (by go_simp)).mono ?_; rintro e w' ⟨rfl, rfl⟩; rw [hk])
    go_ret
    exact ⟨rfl, bw_alloc (Below.refl _ _) _⟩
  · go_enter Tryd.func8, Tryd.ntmps8
    go_wp2_with (first | (go_at_call 13; refine (l07Ok_any _ r h s _ (by go_simp) (by go_simp) (by go_simp)).mono ?_; rintro e w' ⟨rfl, rfl⟩; rw [hk]) | (go_at_call 16; refine (l07Text_any _ r h s _ (by go_simp) (by go_simp) (by go_simp) (by simp) hk).mono ?_; rintro e w1 ⟨rfl, hb1⟩))
    go_ret
    exact ⟨rfl, bw_trans (bw_alloc (Below.refl _ _) _) hb1⟩
theorem toDrum_any (r h s : Int) (w : World) :
    Calls Tryd.prog 9 #[.agg #[.int .i64 r, .int .i64 h, .int .i64 s]] w fun e w' => e = .returned (.agg #[.int .i64 r, .int .i64 h, .int .i64 s]) ∧ Below w.heap.size w w' := by
  go_enter Tryd.func9, Tryd.ntmps9
  go_wp2
  refine bodyPost_ret (v := .agg #[.int .i64 r, .int .i64 h, .int .i64 s]) (by simp [results, Tryd.results9, go_sem]) rfl ⟨rfl, ?_⟩
  exact bw_alloc (bw_alloc (bw_alloc (Below.refl _ _) _) _) _
set_option maxHeartbeats 1600000 in
set_option maxRecDepth 100000 in
theorem law_DrumText (r h s : Int) (w : World) (ht : Pow w) :
    Calls Tryd.prog 4 #[.agg #[.int .i64 r, .int .i64 h, .int .i64 s]] w fun e w' => e = .returned (.bool true) ∧ Below w.heap.size w w' := by
  have HT := Lib.hid ht
  clear ht
  go_enter Tryd.func4, Tryd.ntmps4
  go_wp2_with fail
  refine ((toDrum_any _ _ _ _)).mono ?_
  rintro e w1 ⟨rfl, hb1⟩
  obtain ⟨hc1, hf1⟩ := bcell hb1
  try (have hz1 : w.heap.size < w1.heap.size := by (have h := hb1.size; (try simp at h); omega))
  try (have hy1 : w.heap.size + 1 < w1.heap.size := by (have h := hb1.size; (try simp at h); omega))
  try (have hx1 : w.heap.size + 1 + 1 < w1.heap.size := by (have h := hb1.size; (try simp at h); omega))
  try (have hv1 : w.heap.size + 1 + 1 + 1 < w1.heap.size := by (have h := hb1.size; (try simp at h); omega))
  try (have hp1 : w.heap.size ≤ w1.heap.size := by omega)
  go_wp2_with fail
  refine ((sDrumText_any _ _ _ _)).mono ?_
  rintro e w2 ⟨rfl, hb2⟩
  obtain ⟨hc2, hf2⟩ := bcell hb2
  try (have hz2 : w.heap.size < w2.heap.size := by (have h := hb2.size; (try simp at h); omega))
  try (have hy2 : w.heap.size + 1 < w2.heap.size := by (have h := hb2.size; (try simp at h); omega))
  try (have hx2 : w.heap.size + 1 + 1 < w2.heap.size := by (have h := hb2.size; (try simp at h); omega))
  try (have hv2 : w.heap.size + 1 + 1 + 1 < w2.heap.size := by (have h := hb2.size; (try simp at h); omega))
  try (have hp2 : w.heap.size ≤ w2.heap.size := by omega)
  go_wp2_with fail
  refine ((toDrum_any _ _ _ _)).mono ?_
  rintro e w3 ⟨rfl, hb3⟩
  obtain ⟨hc3, hf3⟩ := bcell hb3
  try (have hz3 : w.heap.size < w3.heap.size := by (have h := hb3.size; (try simp at h); omega))
  try (have hy3 : w.heap.size + 1 < w3.heap.size := by (have h := hb3.size; (try simp at h); omega))
  try (have hx3 : w.heap.size + 1 + 1 < w3.heap.size := by (have h := hb3.size; (try simp at h); omega))
  try (have hv3 : w.heap.size + 1 + 1 + 1 < w3.heap.size := by (have h := hb3.size; (try simp at h); omega))
  try (have hp3 : w.heap.size ≤ w3.heap.size := by omega)
  have hP := HT.out.below (bw_trans (bw_trans (bw_trans (bw_alloc (Below.refl _ _) _) hb1) hb2) hb3)
  go_wp2_with fail
  refine ((drumText_any _ _ _ _ hP)).mono ?_
  rintro e w4 ⟨rfl, hb4⟩
  obtain ⟨hc4, hf4⟩ := bcell hb4
  try (have hz4 : w.heap.size < w4.heap.size := by (have h := hb4.size; (try simp at h); omega))
  try (have hy4 : w.heap.size + 1 < w4.heap.size := by (have h := hb4.size; (try simp at h); omega))
  try (have hx4 : w.heap.size + 1 + 1 < w4.heap.size := by (have h := hb4.size; (try simp at h); omega))
  try (have hv4 : w.heap.size + 1 + 1 + 1 < w4.heap.size := by (have h := hb4.size; (try simp at h); omega))
  try (have hp4 : w.heap.size ≤ w4.heap.size := by omega)
  go_wp2
  go_ret
  exact ⟨rfl, bw_trans (bw_trans (bw_trans (bw_trans (bw_alloc (Below.refl _ _) _) hb1) hb2) hb3) hb4⟩
end Go.Proofs.YtjpjmfdadidopaaDoor
