/-
  The law of the two readers of a drum.
-/
import Derived.Test.YtjpjmfdadidopaaDoorRl
import Derived.Test.YtjpjmfdadidopaaDoorRf
namespace Go.Proofs.YtjpjmfdadidopaaDoor
open Go.RowKit

set_option maxHeartbeats 1600000 in
set_option maxRecDepth 100000 in
theorem eqDrum_same (r h t : Int) (w : World) :
    Calls Tryd.prog 7 #[.agg #[.int .i64 r, .int .i64 h, .int .i64 t], .agg #[.int .i64 r, .int .i64 h, .int .i64 t]] w fun e w' => e = .returned (.bool true) ∧ Below w.heap.size w w' := by
  go_enter Tryd.func7, Tryd.ntmps7
  go_wp2
  go_ret
  exact ⟨rfl, bw_alloc (bw_alloc (Below.refl _ _) _) _⟩
set_option maxHeartbeats 1600000 in
set_option maxRecDepth 100000 in
theorem law_ReadDrum (s : ByteArray) (w : World) (hE : s.size ≤ 1048576 → Env w) :
    Calls Tryd.prog 3 #[.string s] w fun e w' => e = .returned (.bool true) ∧ Below w.heap.size w w' := by
  by_cases hl : 1048576 < s.size
  · have hli : (1048576 : Int) < (s.size : Int) := by omega
    go_enter Tryd.func3, Tryd.ntmps3
    go_wp2
    go_ret
    exact ⟨rfl, Below.refl _ _⟩
  · have hli : ¬ ((1048576 : Int) < (s.size : Int)) := by omega
    have hs : s.size ≤ 1048576 := by omega
    have HE := Lib.hid (hE hs)
    clear hE
    go_enter Tryd.func3, Tryd.ntmps3
    go_wp2_with fail
    refine (sReadDrum_any s _ hs).mono ?_
    rintro e w1 ⟨o1, rfl, r1, hb1⟩
    have R1 := Lib.hid r1
    clear r1
    rcases o1 with _ | ⟨x, y, z⟩ <;> unfold retDr
    all_goals
      go_wp2_with fail
      refine (readDrum_any s _ hs (HE.out.below (by first | exact bw_set (bw_alloc hb1 _) (by simp; have := hb1.size; omega) _ | exact bw_alloc hb1 _))).mono ?_
      rintro e w2 ⟨o2, rfl, r2, hb2⟩
      obtain rfl := r2.uniq R1.out
      obtain ⟨hc2, hf2⟩ := bcell hb2
      have hz2 : w1.heap.size < w2.heap.size := by have h := hb2.size; simp at h; omega
      have hzw := hb1.size
      unfold retDr
      go_wp2_with (go_at_call 7; refine (eqDrum_same _ _ _ _).mono ?_; rintro e w3 ⟨rfl, hb3⟩)
      go_ret
      exact ⟨rfl, by repeat (first | exact Below.refl _ _ | exact hb1 | refine bw_trans ?_ hb3 | refine bw_trans ?_ hb2 | refine bw_set ?_ (by simp; try omega) _ | refine bw_alloc ?_ _)⟩
end Go.Proofs.YtjpjmfdadidopaaDoor
