/-
  The reference's reader of a decimal number.
-/
import Derived.Test.YtjpjmfdadidopaaDoorRe
import Derived.LoopTactic
import Derived.Deep.LoopGhost
namespace Go.Proofs.YtjpjmfdadidopaaDoor
open Go.RowKit

def isD (c : Int) : Bool := decide (48 ≤ c) && decide (c ≤ 57)
theorem l01Digit_any (c : Int) (w : World) :
    Calls Tryd.prog 19 #[.int .u8 c] w fun e w' => e = .returned (.bool (isD c)) ∧ w = w' := by
  by_cases h1 : 48 ≤ c
  · by_cases h2 : c ≤ 57
    · go_enter Tryd.func19, Tryd.ntmps19
      go_wp2
      go_ret
      exact ⟨ret_bool (by simp [isD, h1, h2]), rfl⟩
    · go_enter Tryd.func19, Tryd.ntmps19
      go_wp2
      go_ret
      exact ⟨ret_bool (by simp [isD, h2]), rfl⟩
  · go_enter Tryd.func19, Tryd.ntmps19
    go_wp2
    go_ret
    exact ⟨ret_bool (by unfold isD; rw [decide_eq_false (by omega)]; rfl), rfl⟩
theorem l01Digit_is {c : Int} {b : Bool} (h : isD c = b) (w : World) :
    Calls Tryd.prog 19 #[.int .u8 c] w fun e w' => e = .returned (.bool b) ∧ w = w' := by
  subst h; exact l01Digit_any c w

def foldN (l : List UInt8) : Int := l.foldl (fun a c => 10 * a + ((c.toNat : Int) - 48)) 0
theorem foldN_snoc (l : List UInt8) (c : UInt8) : foldN (l ++ [c]) = 10 * foldN l + ((c.toNat : Int) - 48) := by
  unfold foldN; rw [List.foldl_append]; rfl
theorem foldN_digs (k : Nat) : ∀ u, u ≤ k → foldN (digs u) = (u : Int) := by
  induction k with
  | zero => intro u h; rw [show u = 0 by omega, digs_zero]; rfl
  | succ k ih =>
    intro u h
    by_cases h0 : u = 0
    · rw [h0, digs_zero]; rfl
    · have hd : (UInt8.ofNat (48 + u % 10)).toNat = 48 + u % 10 := by rw [UInt8.toNat_ofNat']; omega
      rw [digs_pos h0, foldN_snoc, ih (u / 10) (by omega), hd]
      omega
theorem foldN_itoa {v : Int} (h : 1 ≤ v) : foldN (itoaS v).data.toList = v := by
  show foldN (Lib.itoa v) = v
  rw [itoa_pos (by omega), foldN_digs _ _ (Nat.le_refl _)]; omega
theorem take_snoc (T : ByteArray) (i : Nat) (h : i < T.size) : T.data.toList.take (i + 1) = T.data.toList.take i ++ [T[i]] := by
  have h' : i < T.data.toList.length := h
  rw [List.take_add_one, List.getElem?_eq_getElem h']
  rfl
theorem itoaS_byte {v : Int} (hv : 1 ≤ v) {s : ByteArray} (e : s = itoaS v) (i : Nat) (h : i < s.size) : 48 ≤ s[i].toNat ∧ s[i].toNat ≤ 57 := by
  subst e
  exact itoa_mem (v := v) hv (List.getElem_mem (l := Lib.itoa v) (n := i) h)
theorem fold_step {T : ByteArray} {n : Int} {i : Nat} (h : i < T.size) (hn : n = foldN (T.data.toList.take i)) : 10 * n + ((T[i].toNat : Int) - 48) = foldN (T.data.toList.take (i + 1)) := by
  rw [take_snoc T i h, foldN_snoc, hn]
theorem pow_bd (i : Nat) (h : i ≤ 18) : (10 : Int) ^ i ≤ 1000000000000000000 := by
  have h1 := Nat.pow_le_pow_right (n := 10) (by omega) h
  have h2 : ((10 : Int) ^ i) = ((10 ^ i : Nat) : Int) := by rw [Int.natCast_pow]; rfl
  have h3 : (10 ^ 18 : Nat) = 1000000000000000000 := by rfl
  rw [h2]; omega
theorem byte_nil : (⟨#[]⟩ : ByteArray).toList.isEmpty = true := by rw [ByteArray.toList_eq]; rfl
theorem num_end {s T : ByteArray} {n : Int} {o : Option Int} (hT : (∀ v, 1 ≤ v → s ≠ itoaS v) ∨ T = s ∧ n = foldN T.data.toList) (h1 : ∀ v, o = some v → itoaS v = s) (h2 : o = none → itoaS n ≠ s) (h3 : ∀ v, o = some v → v = n) : DecP s o := by
  refine ⟨h1, fun v a b e => ?_⟩
  rcases hT with hT | ⟨rfl, hn⟩
  · exact absurd e (hT v a)
  · have hv : n = v := by rw [hn, e, foldN_itoa a]
    rcases o with _ | u
    · exact absurd (by rw [hv, ← e]) (h2 rfl)
    · rw [h3 u rfl, hv]
set_option maxHeartbeats 3200000 in
set_option maxRecDepth 100000 in
theorem l01Number_any (s : ByteArray) (w : World) (hs : s.size ≤ 1048576) :
    Calls Tryd.prog 12 #[.string s] w fun e w' => ∃ o, e = .returned (retD o) ∧ DecP s o ∧ Below w.heap.size w w' := by
  by_cases h0 : s = ⟨#[]⟩
  · have hse : s.toList.isEmpty = true := by rw [h0]; exact byte_nil
    have hsz : s.size = 0 := by rw [h0]; rfl
    clear h0
    go_enter Tryd.func12, Tryd.ntmps12
    go_wp2
    exact bodyPost_ret (v := retD none) (by simp [results, Tryd.results12, go_sem, retD]) rfl ⟨none, rfl, DecP.none_of (fun v h1 h2 e => by rw [e] at hsz; exact itoa_ne_nil v (List.eq_nil_of_length_eq_zero hsz)), Below.refl _ _⟩
  have hsz : 0 < s.size := by
    rcases Nat.eq_zero_or_pos s.size with h | h
    · exact absurd (Go.WideShapes.bytes_inj (by rw [List.eq_nil_of_length_eq_zero (show s.data.toList.length = 0 from h)])) h0
    · exact h
  have hse : s.toList.isEmpty = false := by
    rw [ByteArray.toList_eq]
    rcases hx : s.data.toList with _ | ⟨a, b⟩
    · have : s.data.toList.length = 0 := by rw [hx]; rfl
      have : s.size = 0 := this
      omega
    · rfl
  clear h0
  by_cases h45 : ((s[0].toNat : Int) == 45) = true
  · have hno : ∀ v, 1 ≤ v → s ≠ itoaS v := fun v hv e => by
      have h1 := (itoaS_byte hv e 0 hsz).1
      have h2 := eq_of_beq h45
      omega
    obtain ⟨T, hT⟩ : ∃ T, s.extract 1 s.size = T := ⟨_, rfl⟩
    have hTs : T.size = s.size - 1 := by rw [← hT, ByteArray.size_extract]; omega
    have hlt : (T.size : Int) < (s.size : Int) := by omega
    have HLT := Lib.hid hlt
    have hTm : T.size ≤ 1048576 := by omega
    have HNO : Hid ((∀ v, 1 ≤ v → s ≠ itoaS v) ∨ T = s) := Lib.hid (.inl hno)
    clear hTs
    clear hno
    by_cases hl1 : T.size < 1
    · have hl1i : (T.size : Int) < 1 := by omega
      go_enter Tryd.func12, Tryd.ntmps12
      go_wp2
      exact bodyPost_ret (v := retD none) (by simp [results, Tryd.results12, go_sem, retD]) rfl ⟨none, rfl, DecP.none_of (fun v h1 h2 e => HNO.out.elim (fun h => h v h1 e) (fun h => by subst h; omega)), Below.refl _ _⟩
    have hl1i : ¬ ((T.size : Int) < 1) := by omega
    by_cases hl2 : 18 < T.size
    · have hl2i : 18 < (T.size : Int) := by omega
      go_enter Tryd.func12, Tryd.ntmps12
      go_wp2
      exact bodyPost_ret (v := retD none) (by simp [results, Tryd.results12, go_sem, retD]) rfl ⟨none, rfl, DecP.none_of (fun v h1 h2 e => HNO.out.elim (fun h => h v h1 e) (fun h => by subst h; omega)), Below.refl _ _⟩
    have hl2i : ¬ (18 < (T.size : Int)) := by omega
    go_enter Tryd.func12, Tryd.ntmps12
    go_wp2_with fail
    go_loopw [5, 6] (fun x y wr => ∃ (n : Int) (i : Nat), x = .int .i64 n ∧ y = .int .i64 (i : Int) ∧ i ≤ T.size ∧ Hid (n = foldN (T.data.toList.take i)) ∧ 0 ≤ n ∧ n < 10 ^ i ∧ wr = w) (fun _ y _ => T.size - (intOf y).toNat)
    case atStart => exact ⟨0, 0, rfl, rfl, Nat.zero_le _, Lib.hid rfl, by omega, by omega, rfl⟩
    case round =>
      obtain ⟨n, i, rfl, rfl, hi, HN, hn0, hn1, rfl⟩ := hrel
      have hp : (10 : Int) ^ i ≤ 1000000000000000000 := pow_bd i (by omega)
      by_cases hie : i < T.size
      · have hiz : (i : Int) < (T.size : Int) := by omega
        have hp1 : (10 : Int) ^ (i + 1) ≤ 1000000000000000000 := pow_bd (i + 1) (by omega)
        have hpe : (10 : Int) ^ (i + 1) = 10 ^ i * 10 := Int.pow_succ _ _
        have hn2 : n < 100000000000000000 := by omega
        have HN1 : Hid (10 * n + 9 < 10 ^ (i + 1)) := Lib.hid (by omega)
        clear hn1 hp hp1 hpe
        rcases hd : isD (T[i].toNat : Int)
        · go_wp2_with (go_at_call 19; refine (l01Digit_is hd _).mono ?_; rintro e w' ⟨rfl, rfl⟩)
          exact bodyPost_ret (v := retD none) (by simp [results, Tryd.results12, go_sem, retD]) rfl ⟨none, rfl, DecP.none_of (fun v h1 h2 e => HNO.out.elim (fun h => h v h1 e) (fun h => by subst h; omega)), Below.refl _ _⟩
        · have hd2 : 48 ≤ (T[i].toNat : Int) ∧ (T[i].toNat : Int) ≤ 57 := by simpa [isD] using hd
          obtain ⟨hd3, hd4⟩ := hd2
          go_wp2_with (go_at_call 19; refine (l01Digit_is hd _).mono ?_; rintro e w' ⟨rfl, rfl⟩)
          go_round
          case rel => exact ⟨_, i + 1, rfl, by simp, by omega, Lib.hid (fold_step hie HN.out), by omega, by have := HN1.out; omega, by first | rfl | trivial⟩
          case measure => simp [intOf]; omega
      · have hn2 : n < 1000000000000000000 := by omega
        clear hn1 hp
        obtain rfl : i = T.size := by omega
        have HF : Hid (n = foldN T.data.toList) := Lib.hid (by rw [HN.out]; congr 1; exact List.take_length)
        by_cases he : itoaS (-n) = s
        · have hee : ((itoaS (-n)).toList == s.toList) = true := by rw [he]; exact str_same s
          have HQ := Lib.hid he
          clear he
          go_wp2_with (go_at_call 20; refine (l01Dec_str _ (by omega) (by omega)).mono ?_; rintro e w1 ⟨rfl, hb1⟩)
          exact bodyPost_ret (v := retD (some (-n))) (by simp [results, Tryd.results12, go_sem, retD]) rfl ⟨some (-n), rfl, num_end (T := T) (n := -n) (.inl (HNO.out.elim id (fun h => by subst h; omega))) (fun v e => by cases e; exact HQ.out) (fun e => by cases e) (fun v e => by cases e; rfl), hb1⟩
        · have hee := str_ne he
          have HQ := Lib.hid he
          clear he
          go_wp2_with (go_at_call 20; refine (l01Dec_str _ (by omega) (by omega)).mono ?_; rintro e w1 ⟨rfl, hb1⟩)
          exact bodyPost_ret (v := retD none) (by simp [results, Tryd.results12, go_sem, retD]) rfl ⟨none, rfl, num_end (T := T) (n := -n) (.inl (HNO.out.elim id (fun h => by subst h; omega))) (fun v e => by cases e) (fun _ => HQ.out) (fun v e => by cases e), hb1⟩

  · have h45' : ((s[0].toNat : Int) == 45) = false := by simpa using h45
    clear h45
    obtain ⟨T, hT⟩ : ∃ T, s = T := ⟨_, rfl⟩
    subst hT
    have HNO : Hid ((∀ v, 1 ≤ v → s ≠ itoaS v) ∨ s = s) := Lib.hid (.inr rfl)
    by_cases hl1 : s.size < 1
    · have hl1i : (s.size : Int) < 1 := by omega
      go_enter Tryd.func12, Tryd.ntmps12
      go_wp2
      exact bodyPost_ret (v := retD none) (by simp [results, Tryd.results12, go_sem, retD]) rfl ⟨none, rfl, DecP.none_of (fun v h1 h2 e => by have h3 := itoaS_len h1 h2; rw [← e] at h3; omega), Below.refl _ _⟩
    have hl1i : ¬ ((s.size : Int) < 1) := by omega
    by_cases hl2 : 18 < s.size
    · have hl2i : 18 < (s.size : Int) := by omega
      go_enter Tryd.func12, Tryd.ntmps12
      go_wp2
      exact bodyPost_ret (v := retD none) (by simp [results, Tryd.results12, go_sem, retD]) rfl ⟨none, rfl, DecP.none_of (fun v h1 h2 e => by have h3 := itoaS_len h1 h2; rw [← e] at h3; omega), Below.refl _ _⟩
    have hl2i : ¬ (18 < (s.size : Int)) := by omega
    go_enter Tryd.func12, Tryd.ntmps12
    go_wp2_with fail
    go_loopw [5, 6] (fun x y wr => ∃ (n : Int) (i : Nat), x = .int .i64 n ∧ y = .int .i64 (i : Int) ∧ i ≤ s.size ∧ Hid (n = foldN (s.data.toList.take i)) ∧ 0 ≤ n ∧ n < 10 ^ i ∧ wr = w) (fun _ y _ => s.size - (intOf y).toNat)
    case atStart => exact ⟨0, 0, rfl, rfl, Nat.zero_le _, Lib.hid rfl, by omega, by omega, rfl⟩
    case round =>
      obtain ⟨n, i, rfl, rfl, hi, HN, hn0, hn1, rfl⟩ := hrel
      have hp : (10 : Int) ^ i ≤ 1000000000000000000 := pow_bd i (by omega)
      by_cases hie : i < s.size
      · have hiz : (i : Int) < (s.size : Int) := by omega
        have hp1 : (10 : Int) ^ (i + 1) ≤ 1000000000000000000 := pow_bd (i + 1) (by omega)
        have hpe : (10 : Int) ^ (i + 1) = 10 ^ i * 10 := Int.pow_succ _ _
        have hn2 : n < 100000000000000000 := by omega
        have HN1 : Hid (10 * n + 9 < 10 ^ (i + 1)) := Lib.hid (by omega)
        clear hn1 hp hp1 hpe
        rcases hd : isD (s[i].toNat : Int)
        · go_wp2_with (go_at_call 19; refine (l01Digit_is hd _).mono ?_; rintro e w' ⟨rfl, rfl⟩)
          exact bodyPost_ret (v := retD none) (by simp [results, Tryd.results12, go_sem, retD]) rfl ⟨none, rfl, DecP.none_of (fun v h1 h2 e => by have h := itoaS_byte h1 e i hie; simp [isD] at hd; omega), Below.refl _ _⟩
        · have hd2 : 48 ≤ (s[i].toNat : Int) ∧ (s[i].toNat : Int) ≤ 57 := by simpa [isD] using hd
          obtain ⟨hd3, hd4⟩ := hd2
          go_wp2_with (go_at_call 19; refine (l01Digit_is hd _).mono ?_; rintro e w' ⟨rfl, rfl⟩)
          go_round
          case rel => exact ⟨_, i + 1, rfl, by simp, by omega, Lib.hid (fold_step hie HN.out), by omega, by have := HN1.out; omega, by first | rfl | trivial⟩
          case measure => simp [intOf]; omega
      · have hn2 : n < 1000000000000000000 := by omega
        clear hn1 hp
        obtain rfl : i = s.size := by omega
        have HF : Hid (n = foldN s.data.toList) := Lib.hid (by rw [HN.out]; congr 1; exact List.take_length)
        by_cases he : itoaS (n) = s
        · have hee : ((itoaS (n)).toList == s.toList) = true := by rw [he]; exact str_same s
          have HQ := Lib.hid he
          clear he
          go_wp2_with (go_at_call 20; refine (l01Dec_str _ (by omega) (by omega)).mono ?_; rintro e w1 ⟨rfl, hb1⟩)
          exact bodyPost_ret (v := retD (some (n))) (by simp [results, Tryd.results12, go_sem, retD]) rfl ⟨some (n), rfl, num_end (T := s) (n := n) (.inr ⟨rfl, HF.out⟩) (fun v e => by cases e; exact HQ.out) (fun e => by cases e) (fun v e => by cases e; rfl), hb1⟩
        · have hee := str_ne he
          have HQ := Lib.hid he
          clear he
          go_wp2_with (go_at_call 20; refine (l01Dec_str _ (by omega) (by omega)).mono ?_; rintro e w1 ⟨rfl, hb1⟩)
          exact bodyPost_ret (v := retD none) (by simp [results, Tryd.results12, go_sem, retD]) rfl ⟨none, rfl, num_end (T := s) (n := n) (.inr ⟨rfl, HF.out⟩) (fun v e => by cases e) (fun _ => HQ.out) (fun v e => by cases e), hb1⟩

end Go.Proofs.YtjpjmfdadidopaaDoor
