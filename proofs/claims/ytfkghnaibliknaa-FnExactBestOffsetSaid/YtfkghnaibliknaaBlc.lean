/-
  At how many parts two wheels are open, and the best offset: in the program and in the reference.
-/
import Derived.Test.YtfkghnaibliknaaBlb
namespace Go.Proofs.Ytfkghnaibliknaa
open Go.RowKit

theorem isOp_mod {m o q : Int} (hd : (1000:Int) % m = 0) : isOp m o (q % 1000) = isOp m o q := by
  have h : (1000 / m) ∣ 1000 := ⟨m, (Int.ediv_mul_cancel (Int.dvd_of_emod_eq_zero hd)).symm⟩
  unfold isOp
  rw [Int.emod_emod_of_dvd q h]

def bothF (m o m2 o2 d p : Int) : Bool := isOp m o p && isOp m2 o2 (p + d)
def bothN (m o m2 o2 d : Int) : Int := cntTo (bothF m o m2 o2 d) 0 1000

set_option maxRecDepth 100000 in
set_option maxHeartbeats 800000 in
theorem bothOpen_any (m o m2 o2 d : Int) (w : World) (hm : 1 ≤ m ∧ m ≤ 12) (ho : 1 ≤ o ∧ o ≤ 999) (hm2 : 1 ≤ m2 ∧ m2 ≤ 12) (ho2 : 1 ≤ o2 ∧ o2 ≤ 999) (hdv : Hid ((1000:Int) % m2 = 0)) (hd : 0 ≤ d ∧ d ≤ 999) :
    Calls Try.prog 45 #[.agg #[.int .i64 m, .int .i64 o], .agg #[.int .i64 m2, .int .i64 o2], .int .i64 d] w fun e w' => e = .returned (.int .i64 (bothN m o m2 o2 d)) ∧ Below w.heap.size w w' := by
  obtain ⟨d1, d2⟩ := hd
  go_enter Try.func45, Try.ntmps45
  go_wp2_with fail
  go_loopw [7, 9] (fun x y wr => ∃ k : Nat, k ≤ 1000 ∧ x = .int .i64 (cntTo (bothF m o m2 o2 d) 0 k) ∧ y = .int .i64 k ∧ Below ((w.alloc (.cells #[.int .i64 m, .int .i64 o] 25)).alloc (.cells #[.int .i64 m2, .int .i64 o2] 25)).heap.size ((w.alloc (.cells #[.int .i64 m, .int .i64 o] 25)).alloc (.cells #[.int .i64 m2, .int .i64 o2] 25)) wr) (fun _ y _ => (1000 - intOf y).toNat)
  case atStart => exact ⟨0, by omega, rfl, by simp, Below.refl _ _⟩
  case round =>
    obtain ⟨k, hk, rfl, rfl, hbr⟩ := hrel
    have hc0 : wr.cell? ⟨w.heap.size, 0, none⟩ = some (.int .i64 m) := cell_of hbr (by go_simp)
    have hc1 : wr.cell? ⟨w.heap.size, 1, none⟩ = some (.int .i64 o) := cell_of hbr (by go_simp)
    have hc2 : wr.cell? ⟨w.heap.size + 1, 0, none⟩ = some (.int .i64 m2) := cell_of hbr (by go_simp)
    have hc3 : wr.cell? ⟨w.heap.size + 1, 1, none⟩ = some (.int .i64 o2) := cell_of hbr (by go_simp)
    have hzr : w.heap.size + 1 < wr.heap.size := by have h := hbr.size; simp at h; omega
    have hzs : w.heap.size < wr.heap.size := by omega
    obtain ⟨n1, n2⟩ := cntTo_bd (bothF m o m2 o2 d) 0 k
    by_cases hlt : k < 1000
    · have hf := @isOp_mod m2 o2 (k + d) hdv.out
      cases hop : isOp m o k
      · have hfin : bothF m o m2 o2 d (0 + (k : Int)) = false := by simp [bothF, hop]
        have HF := Lib.hid hfin
        clear hfin hf
        go_wp2_with (first | (go_at_call 43; refine (isOpen_any _ _ _ _ (by assumption) (by assumption) ⟨by omega, by omega⟩).mono ?_; rintro e w1 ⟨rfl, hb1⟩; obtain ⟨hc1, hf1⟩ := bcell hb1; try (have hz1 : w.heap.size < w1.heap.size := by (have h := hb1.size; (try simp at h); omega)); try (have hy1 : w.heap.size + 1 < w1.heap.size := by (have h := hb1.size; (try simp at h); omega)); try (have hx1 : w.heap.size + 1 + 1 < w1.heap.size := by (have h := hb1.size; (try simp at h); omega)); try (have hv1 : w.heap.size + 1 + 1 + 1 < w1.heap.size := by (have h := hb1.size; (try simp at h); omega))))
        go_roundw
        case rel => exact ⟨k + 1, by omega, by rw [cntTo_no HF.out], by go_num, bw_trans hbr hb1⟩
        case measure => simp [intOf]; omega
      · cases hop2 : isOp m2 o2 (((k : Int) + d) % 1000)
        · have hfin : bothF m o m2 o2 d (0 + (k : Int)) = false := by simp [bothF, ← hf, hop2]
          have HF := Lib.hid hfin
          clear hfin hf
          go_wp2_with (first | (go_at_call 43; refine (isOpen_any _ _ _ _ (by assumption) (by assumption) ⟨by omega, by omega⟩).mono ?_; rintro e w1 ⟨rfl, hb1⟩; obtain ⟨hc1, hf1⟩ := bcell hb1; try (have hz1 : w.heap.size < w1.heap.size := by (have h := hb1.size; (try simp at h); omega)); try (have hy1 : w.heap.size + 1 < w1.heap.size := by (have h := hb1.size; (try simp at h); omega)); try (have hx1 : w.heap.size + 1 + 1 < w1.heap.size := by (have h := hb1.size; (try simp at h); omega)); try (have hv1 : w.heap.size + 1 + 1 + 1 < w1.heap.size := by (have h := hb1.size; (try simp at h); omega))))
          go_roundw
          case rel => exact ⟨k + 1, by omega, by rw [cntTo_no HF.out], by go_num, by first | exact bw_trans (bw_trans hbr (by assumption)) (by assumption)⟩
          case measure => simp [intOf]; omega
        · have hfin : bothF m o m2 o2 d (0 + (k : Int)) = true := by simp [bothF, ← hf, hop2, hop]
          have HF := Lib.hid hfin
          clear hfin hf
          go_wp2_with (first | (go_at_call 43; refine (isOpen_any _ _ _ _ (by assumption) (by assumption) ⟨by omega, by omega⟩).mono ?_; rintro e w1 ⟨rfl, hb1⟩; obtain ⟨hc1, hf1⟩ := bcell hb1; try (have hz1 : w.heap.size < w1.heap.size := by (have h := hb1.size; (try simp at h); omega)); try (have hy1 : w.heap.size + 1 < w1.heap.size := by (have h := hb1.size; (try simp at h); omega)); try (have hx1 : w.heap.size + 1 + 1 < w1.heap.size := by (have h := hb1.size; (try simp at h); omega)); try (have hv1 : w.heap.size + 1 + 1 + 1 < w1.heap.size := by (have h := hb1.size; (try simp at h); omega))))
          go_roundw
          case rel => exact ⟨k + 1, by omega, by rw [cntTo_yes HF.out], by go_num, by first | exact bw_trans (bw_trans hbr (by assumption)) (by assumption)⟩
          case measure => simp [intOf]; omega
    · have hkk : k = 1000 := by omega
      subst hkk
      go_wp2
      go_ret
      refine ⟨ret_int rfl, ?_⟩
      exact bw_trans (bw_alloc (bw_alloc (Below.refl _ _) _) _) hbr

set_option maxRecDepth 100000 in
set_option maxHeartbeats 800000 in
theorem l09Both_any (m o m2 o2 d : Int) (b off b2 off2 : Nat) (w : World) (hm : 1 ≤ m ∧ m ≤ 12) (ho : 1 ≤ o ∧ o ≤ 999) (hm2 : 1 ≤ m2 ∧ m2 ≤ 12) (ho2 : 1 ≤ o2 ∧ o2 ≤ 999) (hd : 0 ≤ d ∧ d ≤ 999)
    (g0 : w.cell? ⟨b, off, none⟩ = some (.int .i64 m)) (g1 : w.cell? ⟨b, off + 1, none⟩ = some (.int .i64 o)) (g2 : w.cell? ⟨b2, off2, none⟩ = some (.int .i64 m2)) (g3 : w.cell? ⟨b2, off2 + 1, none⟩ = some (.int .i64 o2)) :
    Calls Try.prog 44 #[.pointer (some ⟨b, off, none⟩), .pointer (some ⟨b2, off2, none⟩), .int .i64 d] w fun e w' => e = .returned (.int .i64 (bothN m o m2 o2 d)) ∧ Below w.heap.size w w' := by
  obtain ⟨d1, d2⟩ := hd
  go_enter Try.func44, Try.ntmps44
  go_wp2_with fail
  go_loopw [7, 8] (fun x y wr => ∃ k : Nat, k ≤ 1000 ∧ x = .int .i64 (cntTo (bothF m o m2 o2 d) 0 k) ∧ y = .int .i64 k ∧ Below w.heap.size w wr) (fun _ y _ => (1000 - intOf y).toNat)
  case atStart => exact ⟨0, by omega, rfl, by simp, Below.refl _ _⟩
  case round =>
    obtain ⟨k, hk, rfl, rfl, hbr⟩ := hrel
    have hc0 := cell_of hbr g0
    have hc1 := cell_of hbr g1
    have hc2 := cell_of hbr g2
    have hc3 := cell_of hbr g3
    obtain ⟨n1, n2⟩ := cntTo_bd (bothF m o m2 o2 d) 0 k
    by_cases hlt : k < 1000
    · cases hop : isOp m o k
      · have hfin : bothF m o m2 o2 d (0 + (k : Int)) = false := by simp [bothF, hop]
        have HF := Lib.hid hfin
        clear hfin
        go_wp2_with fail
        refine (l09Open_any m o _ _ _ _ hc0 hc1 hm ho ⟨by omega, by omega⟩).mono ?_
        rintro e w1 ⟨rfl, hb1⟩
        go_wp2_with fail
        go_roundw
        case rel => exact ⟨k + 1, by omega, by rw [cntTo_no HF.out], by go_num, bw_trans hbr hb1⟩
        case measure => simp [intOf]; omega
      · cases hop2 : isOp m2 o2 ((k : Int) + d)
        · have hfin : bothF m o m2 o2 d (0 + (k : Int)) = false := by simp [bothF, hop2]
          have HF := Lib.hid hfin
          clear hfin
          go_wp2_with fail
          refine (l09Open_any m o _ _ _ _ hc0 hc1 hm ho ⟨by omega, by omega⟩).mono ?_
          rintro e w1 ⟨rfl, hb1⟩
          go_wp2_with fail
          refine (l09Open_any m2 o2 _ _ _ _ (cell_of hb1 hc2) (cell_of hb1 hc3) hm2 ho2 ⟨by omega, by omega⟩).mono ?_
          rintro e w2 ⟨rfl, hb2⟩
          go_wp2_with fail
          go_roundw
          case rel => exact ⟨k + 1, by omega, by rw [cntTo_no HF.out], by go_num, bw_trans (bw_trans hbr hb1) hb2⟩
          case measure => simp [intOf]; omega
        · have hfin : bothF m o m2 o2 d (0 + (k : Int)) = true := by simp [bothF, hop2, hop]
          have HF := Lib.hid hfin
          clear hfin
          go_wp2_with fail
          refine (l09Open_any m o _ _ _ _ hc0 hc1 hm ho ⟨by omega, by omega⟩).mono ?_
          rintro e w1 ⟨rfl, hb1⟩
          go_wp2_with fail
          refine (l09Open_any m2 o2 _ _ _ _ (cell_of hb1 hc2) (cell_of hb1 hc3) hm2 ho2 ⟨by omega, by omega⟩).mono ?_
          rintro e w2 ⟨rfl, hb2⟩
          go_wp2_with fail
          go_roundw
          case rel => exact ⟨k + 1, by omega, by rw [cntTo_yes HF.out], by go_num, bw_trans (bw_trans hbr hb1) hb2⟩
          case measure => simp [intOf]; omega
    · have hkk : k = 1000 := by omega
      subst hkk
      go_wp2
      go_ret
      exact ⟨ret_int rfl, hbr⟩
end Go.Proofs.Ytfkghnaibliknaa
