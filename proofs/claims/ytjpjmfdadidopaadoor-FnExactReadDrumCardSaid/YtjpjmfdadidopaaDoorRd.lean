/-
  The program's reader of a decimal number.
-/
import Derived.Test.YtjpjmfdadidopaaDoorDt
import Derived.Test.YtjpjmfdadidopaaDoorSr
import Derived.Lib.AtoiErrMem
import Derived.WideShapes
namespace Go.Proofs.YtjpjmfdadidopaaDoor
open Go.RowKit

/-- What the library's package variables hold. -/
def Env (w : World) : Prop := Pow w ∧ (∃ t p, w.cell? ⟨1, 0, none⟩ = some (.iface t p)) ∧ (∃ t p, w.cell? ⟨2, 0, none⟩ = some (.iface t p)) ∧ ∃ m, w.cell? ⟨0, 0, none⟩ = some (.int .i64 m)
theorem Env.below {w w' : World} (h : Env w) (hb : Below w.heap.size w w') : Env w' := by
  obtain ⟨h0, ⟨t1, p1, h1⟩, ⟨t2, p2, h2⟩, m, h3⟩ := h
  exact ⟨h0.below hb, ⟨t1, p1, cell_of hb h1⟩, ⟨t2, p2, cell_of hb h2⟩, m, cell_of hb h3⟩

/-- What a reader of decimal numbers says of a text. -/
def DecP (s : ByteArray) (o : Option Int) : Prop := (∀ v, o = some v → itoaS v = s) ∧ (∀ v, 1 ≤ v → v ≤ 10000 → s = itoaS v → o = some v)
theorem itoaS_len {v : Int} (h1 : 1 ≤ v) (h2 : v ≤ 10000) : (itoaS v).size ≤ 5 := by
  show (Lib.itoa v).length ≤ 5
  rw [itoa_pos (by omega)]
  exact digs_len 5 _ (by omega)
theorem str_eq {a b : ByteArray} (h : (a.toList == b.toList) = true) : a = b := by
  have h1 := eq_of_beq h
  rw [ByteArray.toList_eq, ByteArray.toList_eq] at h1
  exact Go.WideShapes.bytes_inj h1
theorem str_ne {a b : ByteArray} (h : ¬ a = b) : (a.toList == b.toList) = false := by
  rcases hb : (a.toList == b.toList)
  · rfl
  · exact absurd (str_eq hb) h
theorem str_same (a : ByteArray) : (a.toList == a.toList) = true := by simp
theorem trim_len (l p : List UInt8) : (Lib.trimPrefix l p).length ≤ l.length := by
  unfold Lib.trimPrefix
  split
  · simp
  · exact Nat.le_refl _
def retD (o : Option Int) : Value := .tuple #[.int .i64 (o.getD 0), .bool o.isSome]

theorem parseM_digs (M : Nat) (u : Nat) : ∀ (r : List UInt8), u ≤ M → u ≤ 1000000000000000000 → Lib.parseUintM M 0 (digs u ++ r) = Lib.parseUintM M u r := by
  induction u using Nat.strongRecOn with
  | _ u ih =>
    intro r hu hu2
    by_cases h0 : u = 0
    · rw [h0, digs_zero]; rfl
    · rw [digs_pos h0, List.append_assoc, ih (u / 10) (by omega) _ (by omega) (by omega)]
      have hd : (UInt8.ofNat (48 + u % 10)).toNat = 48 + u % 10 := by rw [UInt8.toNat_ofNat']; omega
      show Lib.parseUintM M (u / 10) (UInt8.ofNat (48 + u % 10) :: r) = _
      rw [Lib.parseUintM, hd]
      have e : u / 10 * 10 + (48 + u % 10 - 48) = u := by omega
      rw [if_pos ⟨by omega, by omega⟩, if_neg (by omega), if_neg (by omega), e]
theorem digs_head {u : Nat} (h : u ≠ 0) : ∃ c r, digs u = c :: r ∧ 48 ≤ c.toNat ∧ c.toNat ≤ 57 := by
  induction u using Nat.strongRecOn with
  | _ u ih =>
    have hd : (UInt8.ofNat (48 + u % 10)).toNat = 48 + u % 10 := by rw [UInt8.toNat_ofNat']; omega
    by_cases h1 : u / 10 = 0
    · exact ⟨_, [], by rw [digs_pos h, h1, digs_zero]; rfl, by omega, by omega⟩
    · obtain ⟨c, r, e, h2, h3⟩ := ih (u / 10) (by omega) h1
      exact ⟨c, r ++ [UInt8.ofNat (48 + u % 10)], by rw [digs_pos h, e]; rfl, h2, h3⟩
theorem parse_itoa {v : Int} (h1 : 1 ≤ v) (h2 : v ≤ 10000) : Lib.parseIntB 64 (itoaS v).data.toList = .ok v := by
  show Lib.parseIntB 64 (Lib.itoa v) = _
  rw [itoa_pos (by omega)]
  obtain ⟨c, r, e, h3, h4⟩ := digs_head (u := v.natAbs) (by omega)
  have hp : Lib.parseUintB 64 (digs v.natAbs) = .ok v.natAbs := by
    unfold Lib.parseUintB
    rw [if_neg (by rw [e]; simp)]
    have h := parseM_digs (2 ^ 64 - 1) v.natAbs [] (by omega) (by omega)
    rw [List.append_nil] at h
    rw [h]; rfl
  rw [e] at hp ⊢
  unfold Lib.parseIntB
  simp only []
  rw [if_neg (by omega), hp]
  simp only []
  rw [if_neg (by omega), if_neg (by omega), if_neg (by omega)]
  congr 1
  omega
theorem DecP.none_of {s : ByteArray} (h : ∀ v, 1 ≤ v → v ≤ 10000 → s ≠ itoaS v) : DecP s none := ⟨fun v hv => (by cases hv), fun v h1 h2 e => absurd e (h v h1 h2)⟩

theorem parseInt_any (s : ByteArray) (w : World) (hs : s.size ≤ 1048576) (hE : Env w) :
    Calls Tryd.prog 24 #[.string s, .int .i64 10, .int .i64 64] w fun e w' => Below w.heap.size w w' ∧ ((∃ v, Lib.parseIntB 64 s.data.toList = .ok v ∧ e = .returned (.tuple #[.int .i64 v, .nilIface])) ∨
      ((∀ v, Lib.parseIntB 64 s.data.toList ≠ .ok v) ∧ ∃ v t p, e = .returned (.tuple #[.int .i64 v, .iface t p]))) := by
  obtain ⟨_, ⟨t1, p1, h1⟩, ⟨t2, p2, h2⟩, _⟩ := hE
  rcases hp : Lib.parseIntB 64 s.data.toList with v | _ | _
  · refine (Tryd.strconv_ParseInt_10_at64_ok s (by omega) v hp w).mono ?_
    rintro e w' ⟨he, hw⟩
    refine ⟨?_, .inl ⟨v, rfl, he⟩⟩
    rcases hw with rfl | ⟨t, rfl⟩
    · exact Below.refl _ _
    · exact Lib.bytesWorld_below _ _ _
  · refine (Any.strconv_ParseInt_10_at64_syntax Tryd.laysC174 s (by omega) hp _ w h1 (.inr ⟨_, _, rfl⟩)).mono ?_
    rintro e w' ⟨N, he, _, _, hb⟩
    exact ⟨hb, .inr ⟨fun v hv => (by cases hv), _, _, _, he⟩⟩
  · refine (Tryd.strconv_ParseInt_10_at64_range s (by omega) hp _ w h2 (.inr ⟨_, _, rfl⟩)).mono ?_
    rintro e w' ⟨N, he, _, _, hb⟩
    exact ⟨hb, .inr ⟨fun v hv => (by cases hv), _, _, _, he⟩⟩

theorem parseInt_ok (s : ByteArray) (w : World) (v : Int) (hs : s.size ≤ 1048576) (hv : Lib.parseIntB 64 s.data.toList = .ok v) (hE : Env w) :
    Calls Tryd.prog 24 #[.string s, .int .i64 10, .int .i64 64] w fun e w' => e = .returned (.tuple #[.int .i64 v, .nilIface]) ∧ Below w.heap.size w w' := by
  refine (parseInt_any s w hs hE).mono ?_
  rintro e w' ⟨hb, ⟨u, hu, he⟩ | ⟨hn, _⟩⟩
  · rw [hv] at hu
    injection hu with hu
    subst hu
    exact ⟨he, hb⟩
  · exact absurd hv (hn v)
theorem trim_any (s : ByteArray) (w : World) :
    Calls Tryd.prog 23 #[.string s, .string ⟨#[45]⟩] w fun e w' => e = .returned (.string ⟨(Lib.trimPrefix s.data.toList [45]).toArray⟩) ∧ w = w' :=
  (Tryd.strings_TrimPrefix s ⟨#[45]⟩ w).mono fun _ _ ⟨he, hw⟩ => ⟨he, hw.symm⟩
set_option maxHeartbeats 1600000 in
set_option maxRecDepth 100000 in
theorem readDecimal_any (s : ByteArray) (w : World) (hs : s.size ≤ 1048576) (hE : Env w) :
    Calls Tryd.prog 15 #[.string s] w fun e w' => ∃ o, e = .returned (retD o) ∧ DecP s o ∧ Below w.heap.size w w' := by
  have HE := Lib.hid hE
  clear hE
  by_cases hl : 19 < s.size
  · go_enter Tryd.func15, Tryd.ntmps15
    go_wp2
    exact bodyPost_ret (v := retD none) (by simp [results, Tryd.results15, go_sem, retD]) rfl ⟨none, rfl, DecP.none_of (fun v h1 h2 e => by have := itoaS_len h1 h2; rw [← e] at this; omega), Below.refl _ _⟩
  · have hl' : s.size ≤ 19 := by omega
    clear hl
    obtain ⟨T, hT⟩ : ∃ T, Lib.trimPrefix s.data.toList [45] = T := ⟨_, rfl⟩
    have HT := Lib.hid hT
    have hTl : T.length ≤ s.size := by rw [← hT]; exact trim_len _ _
    have hsz : (⟨T.toArray⟩ : ByteArray).size = T.length := rfl
    clear hT
    by_cases hl2 : 18 < T.length
    · go_enter Tryd.func15, Tryd.ntmps15
      go_wp2_with (go_at_call 23; refine (trim_any _ _).mono ?_; rintro e w' ⟨rfl, rfl⟩; rw [HT.out])
      exact bodyPost_ret (v := retD none) (by simp [results, Tryd.results15, go_sem, retD]) rfl ⟨none, rfl, DecP.none_of (fun v h1 h2 e => by have := itoaS_len h1 h2; rw [← e] at this; omega), Below.refl _ _⟩
    · by_cases hp : ∃ v, Lib.parseIntB 64 s.data.toList = .ok v
      · obtain ⟨v, hv⟩ := hp
        have HV := Lib.hid hv
        have hb := Lib.parseIntB_bounds hv
        have hv1 : -9223372036854775808 ≤ v := by have := hb.1; omega
        have hv2 : v ≤ 9223372036854775807 := by have := hb.2; omega
        clear hv hb
        by_cases he : itoaS v = s
        · have hne : ((itoaS v).toList == s.toList) = true := by rw [he]; exact str_same s
          have HQ := Lib.hid he
          clear he
          go_enter Tryd.func15, Tryd.ntmps15
          go_wp2_with (first | (go_at_call 23; refine (trim_any _ _).mono ?_; rintro e w' ⟨rfl, rfl⟩; rw [HT.out]) | (go_at_call 24; refine (parseInt_ok s _ v (by omega) HV.out HE.out).mono ?_; rintro e w1 ⟨rfl, hb1⟩) | (go_at_call 18; refine (decimal_any _ _ (by omega) (by omega) (HE.out.below hb1).1).mono ?_; rintro e w2 ⟨rfl, hb2⟩))
          exact bodyPost_ret (v := retD (some v)) (by simp [results, Tryd.results15, go_sem, retD]) rfl ⟨some v, rfl, ⟨fun u hu => by cases hu; exact HQ.out, fun u h1 h2 e => by have h := parse_itoa h1 h2; rw [← e, HV.out] at h; injection h with h; rw [h]⟩, bw_trans hb1 hb2⟩
        · have hne := str_ne he
          have HQ := Lib.hid he
          clear he
          go_enter Tryd.func15, Tryd.ntmps15
          go_wp2_with (first | (go_at_call 23; refine (trim_any _ _).mono ?_; rintro e w' ⟨rfl, rfl⟩; rw [HT.out]) | (go_at_call 24; refine (parseInt_ok s _ v (by omega) HV.out HE.out).mono ?_; rintro e w1 ⟨rfl, hb1⟩) | (go_at_call 18; refine (decimal_any _ _ (by omega) (by omega) (HE.out.below hb1).1).mono ?_; rintro e w2 ⟨rfl, hb2⟩))
          exact bodyPost_ret (v := retD none) (by simp [results, Tryd.results15, go_sem, retD]) rfl ⟨none, rfl, DecP.none_of (fun u h1 h2 e => HQ.out (by have h := parse_itoa h1 h2; rw [← e, HV.out] at h; injection h with h; rw [h, e])), bw_trans hb1 hb2⟩
      · have HP := Lib.hid hp
        clear hp
        go_enter Tryd.func15, Tryd.ntmps15
        go_wp2_with (first | (go_at_call 23; refine (trim_any _ _).mono ?_; rintro e w' ⟨rfl, rfl⟩; rw [HT.out]) | (go_at_call 24; refine (parseInt_any s _ (by omega) HE.out).mono ?_; rintro e w1 ⟨hb1, ⟨v, hv, rfl⟩ | ⟨_, v, t, p, rfl⟩⟩; exact absurd ⟨v, hv⟩ HP.out))
        exact bodyPost_ret (v := retD none) (by simp [results, Tryd.results15, go_sem, retD]) rfl ⟨none, rfl, DecP.none_of (fun v h1 h2 e => HP.out ⟨v, by rw [e]; exact parse_itoa h1 h2⟩), hb1⟩
end Go.Proofs.YtjpjmfdadidopaaDoor
