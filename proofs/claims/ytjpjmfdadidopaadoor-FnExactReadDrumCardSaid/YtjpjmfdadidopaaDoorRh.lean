/-
  The parts of a text between bytes: the plain law; rows of strings that a call owns.
-/
import Derived.Test.YtjpjmfdadidopaaDoorRg
namespace Go.Proofs.YtjpjmfdadidopaaDoor
open Go.RowKit

def spl (b : UInt8) : List UInt8 → List UInt8 → List (List UInt8)
  | cur, [] => [cur]
  | cur, c :: r => if c = b then cur :: spl b [] r else spl b (cur ++ [c]) r
theorem spl_one {b : UInt8} {y : List UInt8} : ∀ {l cur : List UInt8}, spl b cur l = [y] → cur ++ l = y
  | [], cur, h => by
    unfold spl at h
    injection h with h _
    rw [List.append_nil]; exact h
  | c :: r, cur, h => by
    unfold spl at h
    by_cases hc : c = b
    · rw [if_pos hc] at h
      injection h with _ h
      cases r with
      | nil => unfold spl at h; cases h
      | cons d r =>
        unfold spl at h
        split at h
        · cases h
        · exact absurd h (by intro h; have := spl_ne _ _ _ h; exact this)
    · rw [if_neg hc] at h
      rw [← spl_one h, List.append_assoc]; rfl
where spl_ne (b : UInt8) : ∀ (l cur : List UInt8), spl b cur l = [] → False
  | [], cur, h => by unfold spl at h; cases h
  | c :: r, cur, h => by
    unfold spl at h
    split at h
    · cases h
    · exact spl_ne b r _ h
theorem spl_two {b : UInt8} {x y : List UInt8} : ∀ {l cur : List UInt8}, spl b cur l = [x, y] → cur ++ l = x ++ b :: y
  | [], cur, h => by unfold spl at h; cases h
  | c :: r, cur, h => by
    unfold spl at h
    by_cases hc : c = b
    · rw [if_pos hc] at h
      injection h with h1 h
      have h2 := spl_one h
      rw [List.nil_append] at h2
      rw [h1, h2, hc]
    · rw [if_neg hc] at h
      rw [← spl_two h, List.append_assoc]; rfl
theorem spl_no {b : UInt8} : ∀ (l cur : List UInt8), b ∉ l → spl b cur l = [cur ++ l]
  | [], cur, _ => by unfold spl; rw [List.append_nil]
  | c :: r, cur, h => by
    unfold spl
    rw [if_neg (fun e => h (by rw [e]; exact List.mem_cons_self)), spl_no r _ (fun m => h (List.mem_cons_of_mem _ m)), List.append_assoc]; rfl
theorem spl_app {b : UInt8} (r : List UInt8) : ∀ (X cur : List UInt8), b ∉ X → spl b cur (X ++ b :: r) = (cur ++ X) :: spl b [] r
  | [], cur, _ => by rw [List.nil_append, spl, if_pos rfl, List.append_nil]
  | c :: X, cur, h => by
    rw [List.cons_append, spl, if_neg (fun e => h (by rw [e]; exact List.mem_cons_self)), spl_app r X _ (fun m => h (List.mem_cons_of_mem _ m)), List.append_assoc]; rfl
theorem spl_pair {b : UInt8} {X Y : List UInt8} (h1 : b ∉ X) (h2 : b ∉ Y) : spl b [] (X ++ b :: Y) = [X, Y] := by
  rw [spl_app Y X [] h1, spl_no Y [] h2]; rfl
end Go.Proofs.YtjpjmfdadidopaaDoor
