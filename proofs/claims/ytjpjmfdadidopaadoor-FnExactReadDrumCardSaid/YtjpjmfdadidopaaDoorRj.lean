/-
  The reference's reader of a drum: the plain law of its parts.
-/
import Derived.Test.YtjpjmfdadidopaaDoorRi
namespace Go.Proofs.YtjpjmfdadidopaaDoor
open Go.RowKit

theorem drumS_list2 (r h t : Int) : (drumS r h t).data.toList = (Lib.itoa r ++ 120 :: Lib.itoa h) ++ 47 :: Lib.itoa t := by
  rw [drumS_list]; simp
theorem no47 {v : Int} (hv : 1 ≤ v) : (47 : UInt8) ∉ Lib.itoa v := fun hm => by have := (itoa_mem hv hm).1; revert this; decide
theorem no120 {v : Int} (hv : 1 ≤ v) : (120 : UInt8) ∉ Lib.itoa v := fun hm => by have := (itoa_mem hv hm).2; revert this; decide
theorem no47b {r h : Int} (hr : 1 ≤ r) (hh : 1 ≤ h) : (47 : UInt8) ∉ Lib.itoa r ++ 120 :: Lib.itoa h := fun hm => by
  rcases List.mem_append.1 hm with hm | hm
  · exact no47 hr hm
  · rcases List.mem_cons.1 hm with hm | hm
    · revert hm; decide
    · exact no47 hh hm
theorem spl_drum {s : ByteArray} {ws : List ByteArray} (hw : ws.map (fun x => x.data.toList) = spl 47 [] s.data.toList) {r h t : Int} (hk : drumOk r h t = true) (hs : s = drumS r h t) :
    ws.map (fun x => x.data.toList) = [Lib.itoa r ++ 120 :: Lib.itoa h, Lib.itoa t] := by
  obtain ⟨⟨_, _⟩, ⟨_, _⟩, ⟨_, _⟩⟩ := drumOk_bd hk
  rw [hw, hs, drumS_list2, spl_pair (no47b (by omega) (by omega)) (no47 (by omega))]
theorem rp_len {s : ByteArray} {ws : List ByteArray} (hw : ws.map (fun x => x.data.toList) = spl 47 [] s.data.toList) (hl : ws.length ≠ 2) : RP s none :=
  rp_none1 fun r h t hk e => hl (by have h1 := congrArg List.length (spl_drum hw hk e); simpa using h1)
theorem spl_drum2 {s a c : ByteArray} {vs : List ByteArray} (hw : [a, c].map (fun x => x.data.toList) = spl 47 [] s.data.toList) (hv : vs.map (fun x => x.data.toList) = spl 120 [] a.data.toList) {r h t : Int} (hk : drumOk r h t = true) (hs : s = drumS r h t) :
    vs.map (fun x => x.data.toList) = [Lib.itoa r, Lib.itoa h] ∧ c = itoaS t := by
  obtain ⟨⟨_, _⟩, ⟨_, _⟩, ⟨_, _⟩⟩ := drumOk_bd hk
  have h1 := spl_drum hw hk hs
  simp only [List.map_cons, List.map_nil, List.cons.injEq, and_true] at h1
  refine ⟨?_, Go.WideShapes.bytes_inj h1.2⟩
  rw [hv, h1.1, spl_pair (no120 (by omega)) (no120 (by omega))]
theorem rp_len2 {s a c : ByteArray} {vs : List ByteArray} (hw : [a, c].map (fun x => x.data.toList) = spl 47 [] s.data.toList) (hv : vs.map (fun x => x.data.toList) = spl 120 [] a.data.toList) (hl : vs.length ≠ 2) : RP s none :=
  rp_none1 fun r h t hk e => hl (by have h1 := congrArg List.length (spl_drum2 hw hv hk e).1; simpa using h1)
theorem spl_key {s a c u v : ByteArray} (hw : [a, c].map (fun x => x.data.toList) = spl 47 [] s.data.toList) (hv : [u, v].map (fun x => x.data.toList) = spl 120 [] a.data.toList) {o1 o2 o3 : Option Int}
    (d1 : DecP u o1) (d2 : DecP v o2) (d3 : DecP c o3) {r h t : Int} (hk : drumOk r h t = true) (hs : s = drumS r h t) : o1 = some r ∧ o2 = some h ∧ o3 = some t := by
  have h1 := spl_drum2 hw hv hk hs
  obtain ⟨⟨_, _⟩, ⟨_, _⟩, ⟨_, _⟩⟩ := drumOk_bd hk
  simp only [List.map_cons, List.map_nil, List.cons.injEq, and_true] at h1
  exact ⟨d1.2 r (by omega) (by omega) (Go.WideShapes.bytes_inj h1.1.1), d2.2 h (by omega) (by omega) (Go.WideShapes.bytes_inj h1.1.2), d3.2 t (by omega) (by omega) h1.2⟩
theorem spl_some {s a c u v : ByteArray} (hw : [a, c].map (fun x => x.data.toList) = spl 47 [] s.data.toList) (hv : [u, v].map (fun x => x.data.toList) = spl 120 [] a.data.toList) {x y z : Int}
    (d1 : DecP u (some x)) (d2 : DecP v (some y)) (d3 : DecP c (some z)) (hk : drumOk x y z = true) : RP s (some (x, y, z)) := by
  refine ⟨fun r h t e => ?_, fun r h t hk hs => ?_⟩
  · cases e
    refine ⟨hk, Go.WideShapes.bytes_inj ?_⟩
    have e1 : [] ++ s.data.toList = a.data.toList ++ 47 :: c.data.toList := spl_two hw.symm
    have e2 : [] ++ a.data.toList = u.data.toList ++ 120 :: v.data.toList := spl_two hv.symm
    rw [List.nil_append] at e1 e2
    rw [e1, e2, drumS_list2, ← d1.1 x rfl, ← d2.1 y rfl, ← d3.1 z rfl]
    rfl
  · obtain ⟨a, b, c⟩ := spl_key hw hv d1 d2 d3 hk hs
    cases a; cases b; cases c; rfl
end Go.Proofs.YtjpjmfdadidopaaDoor
