/-
  UselessBars: in the reference; the law.
-/
import Derived.Test.YticohpimkicphaaYw
namespace Go.Proofs.Yticohpimkicphaa
open Go.RowKit

/-- What holds inside the reference's statement that makes a slide of the first bars. -/
def JUa (wb : World) (xb b off m i n c : Nat) (A : Option Addr) (zs : List BrE) (a0 : Act) (d : Nat → Bool) (a' : Act) (w' : World) : Prop :=
  ∃ t27 t28 t29 t30 t31 t32 t33 t34 t35 t10 : Value, a' = ((((((((((a0.put (some 27) t27).put (some 28) t28).put (some 29) t29).put (some 30) t30).put (some 31) t31).put (some 32) t32).put (some 33) t33).put (some 34) t34).put (some 35) t35).put (some 10) t10) ∧
    ((d 10 = false ∧ Below wb.heap.size wb w' ∧ (d 0 = true → t27 = .pointer (some ⟨xb, 0, none⟩)) ∧ (d 1 = true → t28 = .slice A n c) ∧ (d 2 = true → (d 7 = false → OwnB w' wb.heap.size t29 [])) ∧ (d 3 = true → t30 = .pointer (some ⟨xb, 1, none⟩)) ∧ (d 4 = true → t31 = (.slice (some ⟨b, off, none⟩) m m)) ∧ (d 5 = true → t32 = .int .i64 (i : Int)) ∧ (d 6 = true → t33 = (.slice (some ⟨b, off, none⟩) i m)) ∧ (d 7 = true → OwnB w' wb.heap.size t34 zs) ∧ (d 8 = true → t35 = .agg #[.slice A n c, t34]) ∧ (d 9 = true → ∃ p, t10 = .pointer (some ⟨p, 0, none⟩) ∧ wb.heap.size ≤ p ∧ p < w'.heap.size ∧ w'.cell? ⟨p, 0, none⟩ = some (.slice none 0 0) ∧ w'.cell? ⟨p, 1, none⟩ = some (.slice none 0 0) ∧ w'.frozen? ⟨p, 0, none⟩ = false ∧ w'.frozen? ⟨p, 1, none⟩ = false ∧ (d 7 = true → t34.ownBlock ≠ some p) ∧ (d 2 = true → d 7 = false → t29.ownBlock ≠ some p))) ∨
     (d 10 = true ∧ (∀ j, j < 10 → d j = true) ∧ ∃ p, t10 = .pointer (some ⟨p, 0, none⟩) ∧ Below wb.heap.size wb w' ∧ wb.heap.size ≤ p ∧ p < w'.heap.size ∧ w'.cell? ⟨p, 0, none⟩ = some (.slice A n c) ∧ w'.cell? ⟨p, 1, none⟩ = some t34 ∧ w'.frozen? ⟨p, 1, none⟩ = false ∧ OwnB w' wb.heap.size t34 zs ∧ t34.ownBlock ≠ some p))
/-- What holds inside the reference's statement that appends the other bars. -/
def JUb (wb : World) (b0 xb p b off ot m i : Nat) (V : Value) (zs : List BrE) (a0 : Act) (d : Nat → Bool) (a' : Act) (w' : World) : Prop :=
  ∃ t36 t37 t38 t39 t40 t41 t42 t43 t44 : Value, a' = (((((((((a0.put (some 36) t36).put (some 37) t37).put (some 38) t38).put (some 39) t39).put (some 40) t40).put (some 41) t41).put (some 42) t42).put (some 43) t43).put (some 44) t44) ∧
    ((d 7 = false ∧ Below wb.heap.size wb w' ∧ (d 0 = true → t36 = .pointer (some ⟨p, 1, none⟩)) ∧ (d 1 = true → t37 = V) ∧ (d 2 = true → t38 = .pointer (some ⟨xb, 1, none⟩)) ∧ (d 3 = true → t39 = (.slice (some ⟨b, off, none⟩) m m)) ∧ (d 4 = true → t40 = .int .i64 (i : Int)) ∧ (d 5 = true → t41 = .int .i64 ((i : Int) + 1)) ∧ (d 6 = true → t42 = (.slice (some ⟨b, ot, none⟩) (m - (i + 1)) (m - (i + 1))))) ∨
     (d 7 = true ∧ (∀ j, j < 7 → d j = true) ∧ ∃ w0 w1, Below wb.heap.size wb w0 ∧ w0.grownBy w1 V.ownBlock ∧ OwnB w1 b0 t43 zs ∧ (t43.ownBlock = V.ownBlock ∨ t43.ownBlock = some w0.heap.size) ∧ (d 8 = true → t44 = .pointer (some ⟨p, 1, none⟩)) ∧ (d 9 = false → w' = w1) ∧ (d 9 = true → w' = w1.setCell ⟨p, 1, none⟩ t43)))

set_option maxRecDepth 100000 in
set_option maxHeartbeats 6400000 in
theorem sUselessBars_any (A : Option Addr) (n c : Nat) (ss : List Int) (B : Option Addr) (m : Nat) (bs : List BrE) (P : Option Addr) (k e : Nat) (ps : List Int) (w : World) (HS : SlI w A n ss) (HB : SlBr w B m bs) (HP : SlI w P k ps) (hn : n ≤ 1048576) (hm : m ≤ 1048576) (hk : k ≤ 1048576) :
    Calls Try.prog 21 #[.agg #[.slice A n c, .slice B m m], .slice P k e] w (GivesIC (ubL ss n bs m ps) (scC ss n bs m [ps] 0) w) := by
  have hb0 : Below w.heap.size w (w.alloc (.cells #[.slice A n c, .slice B m m] 33)) := bw_alloc (Below.refl _ _) _
  have HD := Lib.hid (show SdP (w.alloc (.cells #[.slice A n c, .slice B m m] 33)) w.heap.size A n c ss B m m bs from ⟨by go_simp, by go_simp, HS.below hb0, HB.below hb0, by simp⟩)
  have HK := Lib.hid (l13Code_any w.heap.size A n c ss B m m bs P k e ps _ HD.out (HP.below hb0) hn hm hk)
  rw [← sc_nest] at HK
  by_cases hc : scC ss n bs m [ps] 0 = 0
  case neg =>
    rw [ub_no hc]
    have hce : (scC ss n bs m [ps] 0 != 0) = true := by simpa using hc
    clear HS HB HP
    generalize scC ss n bs m [ps] 0 = C at *
    go_enter Try.func21, Try.ntmps21
    go_wp2_with fail
    refine HK.out.mono ?_
    rintro e w1 ⟨rfl, hb1⟩
    go_wp2
    go_ret2
    exact ⟨_, rfl, OwnI.nil _ _, bw_trans hb0 hb1⟩
  rw [ub_yes hc]
  obtain ⟨n1, n4, m8, hst, hbd, hpl, hpn, _, _⟩ := sc_facts HS.length HB.1 hc
  rw [hc] at HK
  rw [hc]
  have hkn : n = k := by rw [← HP.length]; exact hpn.symm
  subst hkn
  have HM := Lib.hid (fun W (hW : Below (w.alloc (.cells #[.slice A n c, .slice B m m] 33)).heap.size (w.alloc (.cells #[.slice A n c, .slice B m m] 33)) W) => l13All_any w.heap.size A n c ss B m m bs P e ps W (HD.out.below hW) ((HP.below hb0).below hW) n1 n4 m8 hst hbd hpl)
  have HML := Lib.hid (fun i (hi : i < m) W (hW : Below w.heap.size w W) (B' : Option Addr) (d' p : Nat) (h : SdP W p A n c ss B' (m - 1) d' (wo bs i)) => l13All_any p A n c ss B' (m - 1) d' (wo bs i) P e ps W h (HP.below hW) n1 n4 (by omega) hst (wo_bd HB.1 hi hbd) hpl)
  have HWO := Lib.hid (fun i (hi : i < m) => wo_len HB.1 hi)
  have HQQ := Lib.hid (show ∀ i, ubQ ss n bs ps i = (cntN ss n (wo bs i) ps == cntN ss n bs ps) from fun i => rfl)
  have HBB := Lib.hid HB
  have HSS := Lib.hid HS
  have h256 : cntN ss n bs ps ≤ 256 := (all_gd (bs := bs) hst n4 hpl).2.1
  have H256 := Lib.hid (fun i => show cntN ss n (wo bs i) ps ≤ 256 from (all_gd (bs := wo bs i) hst n4 hpl).2.1)
  have hql := sel_len (ubQ ss n bs ps) m
  clear HS HB HP hst hbd hpl hpn hc
  generalize ubQ ss n bs ps = q at *
  obtain ⟨many, hmany⟩ : ∃ x, cntN ss n bs ps = x := ⟨_, rfl⟩
  rw [hmany] at h256 HQQ
  replace hmany : (allN (mvOk ss n bs) n ps).length = many := hmany
  have HMN := Lib.hid hmany
  clear hmany
  go_enter Try.func21, Try.ntmps21
  go_wp2_with fail
  refine HK.out.mono ?_
  rintro e w1 ⟨rfl, hb1⟩
  have hc0 : w1.cell? ⟨w.heap.size, 0, none⟩ = some (.slice A n c) := cell_of hb1 (by go_simp)
  have hc1 : w1.cell? ⟨w.heap.size, 1, none⟩ = some (.slice B m m) := cell_of hb1 (by go_simp)
  have hbw := bw_trans hb0 hb1
  clear HK
  go_wp2_with fail
  refine (HM.out _ hb1).mono ?_
  rintro e w2 ⟨A2, c2, rfl, -, hb2⟩
  rw [HMN.out]
  have hbw2 := bw_trans hbw hb2
  have hd0 := cell_of hb2 hc0
  have hd1 := cell_of hb2 hc1
  have hzz : w.heap.size < w2.heap.size := World.block_lt_of_cell? w2 _ hd0
  have hbs2 := hbw2.size
  clear HM hbw hb1 hb2 hc0 hc1 hb0 HD
  go_wp2_with fail
  go_loopg [8, 9] m (fun gh v x wr => ∃ i : Nat, i ≤ m ∧ gh = m - i ∧ x = .int .i64 (i : Int) ∧ OwnI wr w2.heap.size v (selL q i) ∧ Below w2.heap.size w2 wr)
  case atStart => exact ⟨0, by omega, by omega, rfl, OwnI.lit w2 (Nat.le_refl _), bw_alloc (Below.refl _ _) _⟩
  case round =>
    obtain ⟨i, hi, rfl, rfl, hown, hbr⟩ := hrel
    have HO := Lib.hid hown
    have hl := sel_len q i
    have hx1 := cell_of hbr hd1
    clear hown
    by_cases hlt : i < m
    · obtain ⟨b, off, rfl, -, -⟩ := HBB.out.get hlt
      have hx0 := cell_of hbr hd0
      obtain ⟨ot, hot, hs2⟩ := slice_tail (b := b) (off := off) hlt
      have HS2 := Lib.hid hs2
      have HS1 := Lib.hid (fun W => slice_head (b := b) (off := off) hlt W)
      have HBW := Lib.hid (HBB.out.below (bw_trans hbw2 hbr))
      have HMI := Lib.hid (HML.out i hlt)
      have HWL := Lib.hid (HWO.out i hlt)
      have HHL := Lib.hid (hdB_len (i := i) HBB.out.1 hlt)
      have hci := H256.out i
      have HQ := Lib.hid (HQQ.out i)
      have HCN := Lib.hid (show (allN (mvOk ss n (wo bs i)) n ps).length = cntN ss n (wo bs i) ps from rfl)
      replace hci : (allN (mvOk ss n (wo bs i)) n ps).length ≤ 256 := hci
      have hil : (i : Int) < (m : Int) := by omega
      clear hs2 hd0 hd1 HML HWO H256 HQQ
      go_wp2_with fail
      refine wp_region_inv' (by kernel_rfl) (by kernel_rfl) (JUa wr w.heap.size b off m i n c A (hdB bs i)) ?_ ?_ ?_
      · exact ⟨u27, u28, u29, u30, u31, u32, u33, u34, u35, u10, by simp only [Act.put, List.setIfInBounds_toArray, List.set_cons_zero, List.set_cons_succ], .inl ⟨rfl, (Below.refl _ _).drew, fun h => absurd h (by simp), fun h => absurd h (by simp), fun h => absurd h (by simp), fun h => absurd h (by simp), fun h => absurd h (by simp), fun h => absurd h (by simp), fun h => absurd h (by simp), fun h => absurd h (by simp), fun h => absurd h (by simp), fun h => absurd h (by simp)⟩⟩
      · refine ⟨?_, ?_, ?_, ?_, ?_, ?_, ?_, ?_, ?_, ?_, ?_, trivial⟩
        all_goals
          intro d a W hd hpre hcl hJ K hK
        · obtain ⟨t27, t28, t29, t30, t31, t32, t33, t34, t35, t10, hA, hJ⟩ := hJ
          have hJ1 : d 10 = false ∧ _ := hJ.resolve_right (fun h => by have h2 := h.2.1 0 (by omega); rw [hd] at h2; cases h2)
          obtain ⟨h14, hB, f0, f1, f2, f3, f4, f5, f6, f7, f8, f9⟩ := hJ1
          clear hJ
          have HF := Lib.hid (And.intro f0 (And.intro f1 (And.intro f2 (And.intro f3 (And.intro f4 (And.intro f5 (And.intro f6 (And.intro f7 (And.intro f8 (f9))))))))))
          have HK := Lib.hid hK
          have HD2 := Lib.hid (And.intro hd h14)
          clear hpre hcl hK hd h14 f0 f1 f2 f3 f4 f5 f6 f7 f8 f9
          try clear hp
          simp only [Act.put, List.setIfInBounds_toArray, List.set_cons_zero, List.set_cons_succ] at hA
          subst hA
          go_simp
          obtain ⟨f0, f1, f2, f3, f4, f5, f6, f7, f8, f9⟩ := HF.out
          obtain ⟨hd, h14⟩ := HD2.out
          exact HK.out _ _ ⟨(.pointer (some ⟨w.heap.size, 0, none⟩)), t28, t29, t30, t31, t32, t33, t34, t35, t10, by simp only [Act.put, List.setIfInBounds_toArray, List.set_cons_zero, List.set_cons_succ], .inl ⟨h14, hB, fun _ => rfl, f1, f2, f3, f4, f5, f6, f7, f8, f9⟩⟩
        · obtain ⟨t27, t28, t29, t30, t31, t32, t33, t34, t35, t10, hA, hJ⟩ := hJ
          have hJ1 : d 10 = false ∧ _ := hJ.resolve_right (fun h => by have h2 := h.2.1 1 (by omega); rw [hd] at h2; cases h2)
          obtain ⟨h14, hB, f0, f1, f2, f3, f4, f5, f6, f7, f8, f9⟩ := hJ1
          clear hJ
          have hp := hpre; simp [Region.binds] at hp
          obtain rfl := f0 (by simp [hp])
          have hcq := cell_of hB hx0
          have HF := Lib.hid (And.intro f0 (And.intro f1 (And.intro f2 (And.intro f3 (And.intro f4 (And.intro f5 (And.intro f6 (And.intro f7 (And.intro f8 (f9))))))))))
          have HK := Lib.hid hK
          have HD2 := Lib.hid (And.intro hd h14)
          clear hpre hcl hK hd h14 f0 f1 f2 f3 f4 f5 f6 f7 f8 f9
          try clear hp
          simp only [Act.put, List.setIfInBounds_toArray, List.set_cons_zero, List.set_cons_succ] at hA
          subst hA
          go_simp
          obtain ⟨f0, f1, f2, f3, f4, f5, f6, f7, f8, f9⟩ := HF.out
          obtain ⟨hd, h14⟩ := HD2.out
          exact HK.out _ _ ⟨(.pointer (some ⟨w.heap.size, 0, none⟩)), (.slice A n c), t29, t30, t31, t32, t33, t34, t35, t10, by simp only [Act.put, List.setIfInBounds_toArray, List.set_cons_zero, List.set_cons_succ], .inl ⟨h14, hB, f0, fun _ => rfl, f2, f3, f4, f5, f6, f7, f8, f9⟩⟩
        · obtain ⟨t27, t28, t29, t30, t31, t32, t33, t34, t35, t10, hA, hJ⟩ := hJ
          have hJ1 : d 10 = false ∧ _ := hJ.resolve_right (fun h => by have h2 := h.2.1 2 (by omega); rw [hd] at h2; cases h2)
          obtain ⟨h14, hB, f0, f1, f2, f3, f4, f5, f6, f7, f8, f9⟩ := hJ1
          clear hJ
          have HF := Lib.hid (And.intro f0 (And.intro f1 (And.intro f2 (And.intro f3 (And.intro f4 (And.intro f5 (And.intro f6 (And.intro f7 (And.intro f8 (f9))))))))))
          have HK := Lib.hid hK
          have HD2 := Lib.hid (And.intro hd h14)
          clear hpre hcl hK hd h14 f0 f1 f2 f3 f4 f5 f6 f7 f8 f9
          try clear hp
          simp only [Act.put, List.setIfInBounds_toArray, List.set_cons_zero, List.set_cons_succ] at hA
          subst hA
          go_simp
          obtain ⟨f0, f1, f2, f3, f4, f5, f6, f7, f8, f9⟩ := HF.out
          obtain ⟨hd, h14⟩ := HD2.out
          have hb := bw_alloc (Below.refl W.heap.size W) (.cells #[] 78)
          exact HK.out _ _ ⟨t27, t28, (.slice (some ⟨W.heap.size, 0, none⟩) 0 0), t30, t31, t32, t33, t34, t35, t10, by simp only [Act.put, List.setIfInBounds_toArray, List.set_cons_zero, List.set_cons_succ], .inl ⟨h14, bw_trans hB hb, f0, f1, fun _ _ => OwnB.lit W hB.size, f3, f4, f5, f6, fun h1 => (f7 h1).below hb, f8, fun h1 => (by obtain ⟨p, e, a1, a2, a3, a4, a5, a6, a7, a8⟩ := f9 h1; exact ⟨p, e, a1, Nat.lt_of_lt_of_le a2 hb.size, cell_of hb a3, cell_of hb a4, (hb.frozen (p := ⟨p, 0, none⟩) a2).trans a5, (hb.frozen (p := ⟨p, 1, none⟩) a2).trans a6, a7, fun _ _ e2 => by have e3 : W.heap.size = p := Option.some.inj e2; omega⟩)⟩⟩
        · obtain ⟨t27, t28, t29, t30, t31, t32, t33, t34, t35, t10, hA, hJ⟩ := hJ
          have hJ1 : d 10 = false ∧ _ := hJ.resolve_right (fun h => by have h2 := h.2.1 3 (by omega); rw [hd] at h2; cases h2)
          obtain ⟨h14, hB, f0, f1, f2, f3, f4, f5, f6, f7, f8, f9⟩ := hJ1
          clear hJ
          have HF := Lib.hid (And.intro f0 (And.intro f1 (And.intro f2 (And.intro f3 (And.intro f4 (And.intro f5 (And.intro f6 (And.intro f7 (And.intro f8 (f9))))))))))
          have HK := Lib.hid hK
          have HD2 := Lib.hid (And.intro hd h14)
          clear hpre hcl hK hd h14 f0 f1 f2 f3 f4 f5 f6 f7 f8 f9
          try clear hp
          simp only [Act.put, List.setIfInBounds_toArray, List.set_cons_zero, List.set_cons_succ] at hA
          subst hA
          go_simp
          obtain ⟨f0, f1, f2, f3, f4, f5, f6, f7, f8, f9⟩ := HF.out
          obtain ⟨hd, h14⟩ := HD2.out
          exact HK.out _ _ ⟨t27, t28, t29, (.pointer (some ⟨w.heap.size, 1, none⟩)), t31, t32, t33, t34, t35, t10, by simp only [Act.put, List.setIfInBounds_toArray, List.set_cons_zero, List.set_cons_succ], .inl ⟨h14, hB, f0, f1, f2, fun _ => rfl, f4, f5, f6, f7, f8, f9⟩⟩
        · obtain ⟨t27, t28, t29, t30, t31, t32, t33, t34, t35, t10, hA, hJ⟩ := hJ
          have hJ1 : d 10 = false ∧ _ := hJ.resolve_right (fun h => by have h2 := h.2.1 4 (by omega); rw [hd] at h2; cases h2)
          obtain ⟨h14, hB, f0, f1, f2, f3, f4, f5, f6, f7, f8, f9⟩ := hJ1
          clear hJ
          have hp := hpre; simp [Region.binds] at hp
          obtain rfl := f3 (by simp [hp])
          have hcq := cell_of hB hx1
          have HF := Lib.hid (And.intro f0 (And.intro f1 (And.intro f2 (And.intro f3 (And.intro f4 (And.intro f5 (And.intro f6 (And.intro f7 (And.intro f8 (f9))))))))))
          have HK := Lib.hid hK
          have HD2 := Lib.hid (And.intro hd h14)
          clear hpre hcl hK hd h14 f0 f1 f2 f3 f4 f5 f6 f7 f8 f9
          try clear hp
          simp only [Act.put, List.setIfInBounds_toArray, List.set_cons_zero, List.set_cons_succ] at hA
          subst hA
          go_simp
          obtain ⟨f0, f1, f2, f3, f4, f5, f6, f7, f8, f9⟩ := HF.out
          obtain ⟨hd, h14⟩ := HD2.out
          exact HK.out _ _ ⟨t27, t28, t29, (.pointer (some ⟨w.heap.size, 1, none⟩)), ((.slice (some ⟨b, off, none⟩) m m)), t32, t33, t34, t35, t10, by simp only [Act.put, List.setIfInBounds_toArray, List.set_cons_zero, List.set_cons_succ], .inl ⟨h14, hB, f0, f1, f2, f3, fun _ => rfl, f5, f6, f7, f8, f9⟩⟩
        · obtain ⟨t27, t28, t29, t30, t31, t32, t33, t34, t35, t10, hA, hJ⟩ := hJ
          have hJ1 : d 10 = false ∧ _ := hJ.resolve_right (fun h => by have h2 := h.2.1 5 (by omega); rw [hd] at h2; cases h2)
          obtain ⟨h14, hB, f0, f1, f2, f3, f4, f5, f6, f7, f8, f9⟩ := hJ1
          clear hJ
          have HF := Lib.hid (And.intro f0 (And.intro f1 (And.intro f2 (And.intro f3 (And.intro f4 (And.intro f5 (And.intro f6 (And.intro f7 (And.intro f8 (f9))))))))))
          have HK := Lib.hid hK
          have HD2 := Lib.hid (And.intro hd h14)
          clear hpre hcl hK hd h14 f0 f1 f2 f3 f4 f5 f6 f7 f8 f9
          try clear hp
          simp only [Act.put, List.setIfInBounds_toArray, List.set_cons_zero, List.set_cons_succ] at hA
          subst hA
          go_simp
          obtain ⟨f0, f1, f2, f3, f4, f5, f6, f7, f8, f9⟩ := HF.out
          obtain ⟨hd, h14⟩ := HD2.out
          exact HK.out _ _ ⟨t27, t28, t29, t30, t31, (.int .i64 (i : Int)), t33, t34, t35, t10, by simp only [Act.put, List.setIfInBounds_toArray, List.set_cons_zero, List.set_cons_succ], .inl ⟨h14, hB, f0, f1, f2, f3, f4, fun _ => rfl, f6, f7, f8, f9⟩⟩
        · obtain ⟨t27, t28, t29, t30, t31, t32, t33, t34, t35, t10, hA, hJ⟩ := hJ
          have hJ1 : d 10 = false ∧ _ := hJ.resolve_right (fun h => by have h2 := h.2.1 6 (by omega); rw [hd] at h2; cases h2)
          obtain ⟨h14, hB, f0, f1, f2, f3, f4, f5, f6, f7, f8, f9⟩ := hJ1
          clear hJ
          have hp := hpre; simp [Region.binds] at hp
          obtain rfl := f4 (by simp [hp])
          obtain rfl := f5 (by simp [hp])
          have HF := Lib.hid (And.intro f0 (And.intro f1 (And.intro f2 (And.intro f3 (And.intro f4 (And.intro f5 (And.intro f6 (And.intro f7 (And.intro f8 (f9))))))))))
          have HK := Lib.hid hK
          have HD2 := Lib.hid (And.intro hd h14)
          clear hpre hcl hK hd h14 f0 f1 f2 f3 f4 f5 f6 f7 f8 f9
          try clear hp
          simp only [Act.put, List.setIfInBounds_toArray, List.set_cons_zero, List.set_cons_succ] at hA
          subst hA
          refine stepSlice (by rfl) _ _ _ (by rfl) (.slice (some ⟨b, off, none⟩) i m) (HS1.out W) ?_
          obtain ⟨f0, f1, f2, f3, f4, f5, f6, f7, f8, f9⟩ := HF.out
          obtain ⟨hd, h14⟩ := HD2.out
          exact HK.out _ _ ⟨t27, t28, t29, t30, ((.slice (some ⟨b, off, none⟩) m m)), (.int .i64 (i : Int)), ((.slice (some ⟨b, off, none⟩) i m)), t34, t35, t10, by simp only [Act.put, List.setIfInBounds_toArray, List.set_cons_zero, List.set_cons_succ], .inl ⟨h14, hB, f0, f1, f2, f3, f4, f5, fun _ => rfl, f7, f8, f9⟩⟩
        · obtain ⟨t27, t28, t29, t30, t31, t32, t33, t34, t35, t10, hA, hJ⟩ := hJ
          have hJ1 : d 10 = false ∧ _ := hJ.resolve_right (fun h => by have h2 := h.2.1 7 (by omega); rw [hd] at h2; cases h2)
          obtain ⟨h14, hB, f0, f1, f2, f3, f4, f5, f6, f7, f8, f9⟩ := hJ1
          clear hJ
          have hp := hpre; simp [Region.binds] at hp
          obtain rfl := f6 (by simp [hp])
          have hO := f2 (by simp [hp]) hd
          have h8 : d 8 = false := by
            cases h : d 8
            · rfl
            · have h2 := hcl 8 _ rfl h
              simp [Region.binds] at h2
              rw [hd] at h2; simp at h2
          have H8 := Lib.hid h8
          clear h8
          have HO2 := Lib.hid hO
          have HTK := Lib.hid (SlBr.hd (i := i) (HBW.out.below hB) (by omega))
          clear hO
          have HD7 := Lib.hid (show d 2 = true from (by simp [hp]))
          have HF := Lib.hid (And.intro f0 (And.intro f1 (And.intro f2 (And.intro f3 (And.intro f4 (And.intro f5 (And.intro f6 (And.intro f7 (And.intro f8 (f9))))))))))
          have HK := Lib.hid hK
          have HD2 := Lib.hid (And.intro hd h14)
          clear hpre hcl hK hd h14 f0 f1 f2 f3 f4 f5 f6 f7 f8 f9
          try clear hp
          simp only [Act.put, List.setIfInBounds_toArray, List.set_cons_zero, List.set_cons_succ] at hA
          subst hA
          refine stepAppB (by rfl) _ _ (by rfl) wr.heap.size t29 [] (by rfl) HO2.out b off i m (hdB bs i) (by rfl) HTK.out (by simp; omega) hB.size ?_
          intro v8 wc hown1 hg1 hl1
          obtain ⟨f0, f1, f2, f3, f4, f5, f6, f7, f8, f9⟩ := HF.out
          obtain ⟨hd, h14⟩ := HD2.out
          exact HK.out _ _ ⟨t27, t28, t29, t30, t31, t32, ((.slice (some ⟨b, off, none⟩) i m)), v8, t35, t10, by simp only [Act.put, List.setIfInBounds_toArray, List.set_cons_zero, List.set_cons_succ], .inl ⟨h14, bw_from hB (below_grown hg1 (fun j hj => (World.ownsRow.lt HO2.out j hj).1) hB.size), f0, f1, fun _ h => absurd (show true = false from h) (by simp), f3, f4, f5, f6, fun _ => hown1, fun h => absurd (show d 8 = true from h) (by simp [H8.out]), fun h1 => (by obtain ⟨p, e, a1, a2, a3, a4, a5, a6, -, a8⟩ := f9 h1; (have hne := fun e2 => a8 (HD7.out) hd (Eq.symm e2)); exact ⟨p, e, a1, Nat.lt_of_lt_of_le a2 hg1.size, cell_grown hg1 hne a3, cell_grown hg1 hne a4, (hg1.frozen_far ⟨p, 0, none⟩ a2 hne).trans a5, (hg1.frozen_far ⟨p, 1, none⟩ a2 hne).trans a6, fun _ e2 => hl1.elim (fun h => a8 HD7.out hd (h.symm.trans e2)) (fun h => by have e3 := Option.some.inj (h.symm.trans e2); omega), fun _ h => absurd (show true = false from h) (by simp)⟩)⟩⟩
        · obtain ⟨t27, t28, t29, t30, t31, t32, t33, t34, t35, t10, hA, hJ⟩ := hJ
          have hJ1 : d 10 = false ∧ _ := hJ.resolve_right (fun h => by have h2 := h.2.1 8 (by omega); rw [hd] at h2; cases h2)
          obtain ⟨h14, hB, f0, f1, f2, f3, f4, f5, f6, f7, f8, f9⟩ := hJ1
          clear hJ
          have hp := hpre; simp [Region.binds] at hp
          obtain rfl := f1 (by simp [hp])
          have hO := f7 (by simp [hp])
          obtain ⟨A4, c4, e4, -⟩ := hO.sl
          clear hO
          subst e4
          have HF := Lib.hid (And.intro f0 (And.intro f1 (And.intro f2 (And.intro f3 (And.intro f4 (And.intro f5 (And.intro f6 (And.intro f7 (And.intro f8 (f9))))))))))
          have HK := Lib.hid hK
          have HD2 := Lib.hid (And.intro hd h14)
          clear hpre hcl hK hd h14 f0 f1 f2 f3 f4 f5 f6 f7 f8 f9
          try clear hp
          simp only [Act.put, List.setIfInBounds_toArray, List.set_cons_zero, List.set_cons_succ] at hA
          subst hA
          go_simp
          obtain ⟨f0, f1, f2, f3, f4, f5, f6, f7, f8, f9⟩ := HF.out
          obtain ⟨hd, h14⟩ := HD2.out
          exact HK.out _ _ ⟨t27, (.slice A n c), t29, t30, t31, t32, t33, (.slice A4 (hdB bs i).length c4), (.agg #[.slice A n c, .slice A4 (hdB bs i).length c4]), t10, by simp only [Act.put, List.setIfInBounds_toArray, List.set_cons_zero, List.set_cons_succ], .inl ⟨h14, hB, f0, f1, f2, f3, f4, f5, f6, f7, fun _ => rfl, f9⟩⟩
        · obtain ⟨t27, t28, t29, t30, t31, t32, t33, t34, t35, t10, hA, hJ⟩ := hJ
          have hJ1 : d 10 = false ∧ _ := hJ.resolve_right (fun h => by have h2 := h.2.1 9 (by omega); rw [hd] at h2; cases h2)
          obtain ⟨h14, hB, f0, f1, f2, f3, f4, f5, f6, f7, f8, f9⟩ := hJ1
          clear hJ
          have HF := Lib.hid (And.intro f0 (And.intro f1 (And.intro f2 (And.intro f3 (And.intro f4 (And.intro f5 (And.intro f6 (And.intro f7 (And.intro f8 (f9))))))))))
          have HK := Lib.hid hK
          have HD2 := Lib.hid (And.intro hd h14)
          clear hpre hcl hK hd h14 f0 f1 f2 f3 f4 f5 f6 f7 f8 f9
          try clear hp
          simp only [Act.put, List.setIfInBounds_toArray, List.set_cons_zero, List.set_cons_succ] at hA
          subst hA
          go_simp
          obtain ⟨f0, f1, f2, f3, f4, f5, f6, f7, f8, f9⟩ := HF.out
          obtain ⟨hd, h14⟩ := HD2.out
          have hb := bw_alloc (Below.refl W.heap.size W) (.cells #[.slice none 0 0, .slice none 0 0] 33)
          exact HK.out _ _ ⟨t27, t28, t29, t30, t31, t32, t33, t34, t35, (.pointer (some ⟨W.heap.size, 0, none⟩)), by simp only [Act.put, List.setIfInBounds_toArray, List.set_cons_zero, List.set_cons_succ], .inl ⟨h14, bw_trans hB hb, f0, f1, fun h1 h2 => (f2 h1 h2).below hb, f3, f4, f5, f6, fun h1 => (f7 h1).below hb, f8, fun _ => ⟨W.heap.size, rfl, hB.size, by simp, by go_simp, by go_simp, by go_simp, by go_simp, fun h2 e2 => (by have := (World.ownsRow.lt (f7 h2) _ e2).2; omega), fun h2 h3 e2 => (by have := (World.ownsRow.lt (f2 h2 h3) _ e2).2; omega)⟩⟩⟩
        · obtain ⟨t27, t28, t29, t30, t31, t32, t33, t34, t35, t10, hA, hJ⟩ := hJ
          have hJ1 : d 10 = false ∧ _ := hJ.resolve_right (fun h => by have h2 := h.1; rw [hd] at h2; cases h2)
          obtain ⟨h14, hB, f0, f1, f2, f3, f4, f5, f6, f7, f8, f9⟩ := hJ1
          clear hJ
          have hp := hpre; simp [Region.binds] at hp
          obtain rfl := f8 (by simp [hp])
          obtain ⟨p, rfl, a1, a2, a3, a4, a5, a6, a7, -⟩ := f9 (by simp [hp])
          have hO := f7 (by simp [hp])
          obtain ⟨A4, c4, e4, -⟩ := hO.sl
          subst e4
          have hno := a7 (by simp [hp])
          have HOV := Lib.hid (show OwnB ((W.setCell ⟨p, 0, none⟩ (.slice A n c)).setCell ⟨p, 1, none⟩ (.slice A4 (hdB bs i).length c4)) wr.heap.size (.slice A4 (hdB bs i).length c4) (hdB bs i) from (World.ownsRow.kept hO (grown_set W ⟨p, 0, none⟩ (.slice A n c)) (.inr hno)).kept (grown_set _ ⟨p, 1, none⟩ (.slice A4 (hdB bs i).length c4)) (.inr hno))
          have HNO := Lib.hid hno
          have HBW := Lib.hid (show Below wr.heap.size wr ((W.setCell ⟨p, 0, none⟩ (.slice A n c)).setCell ⟨p, 1, none⟩ (.slice A4 (hdB bs i).length c4)) from Below.setCell (Below.setCell hB a1 _) a1 _)
          have HC0 := Lib.hid (show ((W.setCell ⟨p, 0, none⟩ (.slice A n c)).setCell ⟨p, 1, none⟩ (.slice A4 (hdB bs i).length c4)).cell? ⟨p, 0, none⟩ = some (.slice A n c) by (rw [Brother (Brne_off (by decide))]; exact World.cell?_setCell_same' _ _ _ (by rw [a3]; rfl)))
          have HC1 := Lib.hid (show ((W.setCell ⟨p, 0, none⟩ (.slice A n c)).setCell ⟨p, 1, none⟩ (.slice A4 (hdB bs i).length c4)).cell? ⟨p, 1, none⟩ = some (.slice A4 (hdB bs i).length c4) by exact World.cell?_setCell_same' _ _ _ (by rw [Brother (Brne_off (by decide)), a4]; rfl))
          have HF1 := Lib.hid (show ((W.setCell ⟨p, 0, none⟩ (.slice A n c)).setCell ⟨p, 1, none⟩ (.slice A4 (hdB bs i).length c4)).frozen? ⟨p, 1, none⟩ = false by rw [World.frozen?_setCell, World.frozen?_setCell]; exact a6)
          have HA := Lib.hid (And.intro a1 a2)
          have hall : ∀ j, j < 10 → d j = true := by
            intro j hj
            have hj2 : j = 0 ∨ j = 1 ∨ j = 2 ∨ j = 3 ∨ j = 4 ∨ j = 5 ∨ j = 6 ∨ j = 7 ∨ j = 8 ∨ j = 9 := by omega
            rcases hj2 with rfl | rfl | rfl | rfl | rfl | rfl | rfl | rfl | rfl | rfl <;> simp only [hp]
          have HAL := Lib.hid hall
          clear hall hO hno a1 a2 a7
          have HF := Lib.hid (And.intro f0 (And.intro f1 (And.intro f2 (And.intro f3 (And.intro f4 (And.intro f5 (And.intro f6 (And.intro f7 (And.intro f8 (f9))))))))))
          have HK := Lib.hid hK
          have HD2 := Lib.hid (And.intro hd h14)
          have HP2 := Lib.hid hp
          clear hpre hcl hK hd h14 f0 f1 f2 f3 f4 f5 f6 f7 f8 f9
          try clear hp
          simp only [Act.put, List.setIfInBounds_toArray, List.set_cons_zero, List.set_cons_succ] at hA
          subst hA
          go_simp
          obtain ⟨f0, f1, f2, f3, f4, f5, f6, f7, f8, f9⟩ := HF.out
          obtain ⟨hd, h14⟩ := HD2.out
          exact HK.out _ _ ⟨t27, t28, t29, t30, t31, t32, t33, (.slice A4 (hdB bs i).length c4), (.agg #[.slice A n c, .slice A4 (hdB bs i).length c4]), (.pointer (some ⟨p, 0, none⟩)), by simp only [Act.put, List.setIfInBounds_toArray, List.set_cons_zero, List.set_cons_succ], .inr ⟨upD_same _ _, fun j hj => upD_true (HAL.out j hj), p, rfl, HBW.out, HA.out.1, by simp only [World.size_setCell]; exact HA.out.2, HC0.out, HC1.out, HF1.out, HOV.out, HNO.out⟩⟩
      · rintro d a' w4 hall ⟨t27, t28, t29, t30, t31, t32, t33, t34, t35, t10, hA, hJ⟩
        obtain ⟨h15, _, p, rfl, hB4, hp1, hp2, hc4, hc5, hf5, hO4, hnp⟩ := hJ.resolve_left (fun h => by have h2 := h.1; rw [hall 10 (by decide)] at h2; cases h2)
        clear hall hJ h15
        simp only [Act.put, List.setIfInBounds_toArray, List.set_cons_zero, List.set_cons_succ] at hA
        subst hA
        obtain ⟨A4, c4, e4, -⟩ := hO4.sl
        subst e4
        have HOV := Lib.hid hO4
        have HNP := Lib.hid (fun e2 => hnp (Eq.symm e2) : some p ≠ (Value.slice A4 (hdB bs i).length c4).ownBlock)
        have HPW := Lib.hid hp2
        have HPB := Lib.hid hp1
        have HB4 := Lib.hid hB4
        have hx1 := cell_of hB4 hx1
        have hwrs := hB4.size
        have HBW2 := Lib.hid (HBW.out.below hB4)
        clear hO4 hnp hp1 hp2 hB4
        go_wp2_with fail
        refine wp_region_inv' (by kernel_rfl) (by kernel_rfl) (JUb w4 wr.heap.size w.heap.size p b off ot m i (.slice A4 (hdB bs i).length c4) (wo bs i)) ?_ ?_ ?_
        · exact ⟨u36, u37, u38, u39, u40, u41, u42, u43, u44, by simp only [Act.put, List.setIfInBounds_toArray, List.set_cons_zero, List.set_cons_succ], .inl ⟨rfl, (Below.refl _ _).drew, fun h => absurd h (by simp), fun h => absurd h (by simp), fun h => absurd h (by simp), fun h => absurd h (by simp), fun h => absurd h (by simp), fun h => absurd h (by simp), fun h => absurd h (by simp)⟩⟩
        · refine ⟨?_, ?_, ?_, ?_, ?_, ?_, ?_, ?_, ?_, ?_, trivial⟩
          all_goals
            intro d a W hd hpre hcl hJ K hK
          · obtain ⟨t36, t37, t38, t39, t40, t41, t42, t43, t44, hA, hJ⟩ := hJ
            have hJ1 : d 7 = false ∧ _ := hJ.resolve_right (fun h => by have h2 := h.2.1 0 (by omega); rw [hd] at h2; cases h2)
            obtain ⟨h14, hB, f0, f1, f2, f3, f4, f5, f6⟩ := hJ1
            clear hJ
            have HF := Lib.hid (And.intro f0 (And.intro f1 (And.intro f2 (And.intro f3 (And.intro f4 (And.intro f5 (f6)))))))
            have HK := Lib.hid hK
            have HD2 := Lib.hid (And.intro hd h14)
            clear hpre hcl hK hd h14 f0 f1 f2 f3 f4 f5 f6
            try clear hp
            simp only [Act.put, List.setIfInBounds_toArray, List.set_cons_zero, List.set_cons_succ] at hA
            subst hA
            go_simp
            obtain ⟨f0, f1, f2, f3, f4, f5, f6⟩ := HF.out
            obtain ⟨hd, h14⟩ := HD2.out
            exact HK.out _ _ ⟨(.pointer (some ⟨p, 1, none⟩)), t37, t38, t39, t40, t41, t42, t43, t44, by simp only [Act.put, List.setIfInBounds_toArray, List.set_cons_zero, List.set_cons_succ], .inl ⟨h14, hB, fun _ => rfl, f1, f2, f3, f4, f5, f6⟩⟩
          · obtain ⟨t36, t37, t38, t39, t40, t41, t42, t43, t44, hA, hJ⟩ := hJ
            have hJ1 : d 7 = false ∧ _ := hJ.resolve_right (fun h => by have h2 := h.2.1 1 (by omega); rw [hd] at h2; cases h2)
            obtain ⟨h14, hB, f0, f1, f2, f3, f4, f5, f6⟩ := hJ1
            clear hJ
            have hp := hpre; simp [Region.binds] at hp
            obtain rfl := f0 (by simp [hp])
            have hcq := cell_of hB hc5
            have HF := Lib.hid (And.intro f0 (And.intro f1 (And.intro f2 (And.intro f3 (And.intro f4 (And.intro f5 (f6)))))))
            have HK := Lib.hid hK
            have HD2 := Lib.hid (And.intro hd h14)
            clear hpre hcl hK hd h14 f0 f1 f2 f3 f4 f5 f6
            try clear hp
            simp only [Act.put, List.setIfInBounds_toArray, List.set_cons_zero, List.set_cons_succ] at hA
            subst hA
            go_simp
            obtain ⟨f0, f1, f2, f3, f4, f5, f6⟩ := HF.out
            obtain ⟨hd, h14⟩ := HD2.out
            exact HK.out _ _ ⟨(.pointer (some ⟨p, 1, none⟩)), ((.slice A4 (hdB bs i).length c4)), t38, t39, t40, t41, t42, t43, t44, by simp only [Act.put, List.setIfInBounds_toArray, List.set_cons_zero, List.set_cons_succ], .inl ⟨h14, hB, f0, fun _ => rfl, f2, f3, f4, f5, f6⟩⟩
          · obtain ⟨t36, t37, t38, t39, t40, t41, t42, t43, t44, hA, hJ⟩ := hJ
            have hJ1 : d 7 = false ∧ _ := hJ.resolve_right (fun h => by have h2 := h.2.1 2 (by omega); rw [hd] at h2; cases h2)
            obtain ⟨h14, hB, f0, f1, f2, f3, f4, f5, f6⟩ := hJ1
            clear hJ
            have HF := Lib.hid (And.intro f0 (And.intro f1 (And.intro f2 (And.intro f3 (And.intro f4 (And.intro f5 (f6)))))))
            have HK := Lib.hid hK
            have HD2 := Lib.hid (And.intro hd h14)
            clear hpre hcl hK hd h14 f0 f1 f2 f3 f4 f5 f6
            try clear hp
            simp only [Act.put, List.setIfInBounds_toArray, List.set_cons_zero, List.set_cons_succ] at hA
            subst hA
            go_simp
            obtain ⟨f0, f1, f2, f3, f4, f5, f6⟩ := HF.out
            obtain ⟨hd, h14⟩ := HD2.out
            exact HK.out _ _ ⟨t36, t37, (.pointer (some ⟨w.heap.size, 1, none⟩)), t39, t40, t41, t42, t43, t44, by simp only [Act.put, List.setIfInBounds_toArray, List.set_cons_zero, List.set_cons_succ], .inl ⟨h14, hB, f0, f1, fun _ => rfl, f3, f4, f5, f6⟩⟩
          · obtain ⟨t36, t37, t38, t39, t40, t41, t42, t43, t44, hA, hJ⟩ := hJ
            have hJ1 : d 7 = false ∧ _ := hJ.resolve_right (fun h => by have h2 := h.2.1 3 (by omega); rw [hd] at h2; cases h2)
            obtain ⟨h14, hB, f0, f1, f2, f3, f4, f5, f6⟩ := hJ1
            clear hJ
            have hp := hpre; simp [Region.binds] at hp
            obtain rfl := f2 (by simp [hp])
            have hcq := cell_of hB hx1
            have HF := Lib.hid (And.intro f0 (And.intro f1 (And.intro f2 (And.intro f3 (And.intro f4 (And.intro f5 (f6)))))))
            have HK := Lib.hid hK
            have HD2 := Lib.hid (And.intro hd h14)
            clear hpre hcl hK hd h14 f0 f1 f2 f3 f4 f5 f6
            try clear hp
            simp only [Act.put, List.setIfInBounds_toArray, List.set_cons_zero, List.set_cons_succ] at hA
            subst hA
            go_simp
            obtain ⟨f0, f1, f2, f3, f4, f5, f6⟩ := HF.out
            obtain ⟨hd, h14⟩ := HD2.out
            exact HK.out _ _ ⟨t36, t37, (.pointer (some ⟨w.heap.size, 1, none⟩)), ((.slice (some ⟨b, off, none⟩) m m)), t40, t41, t42, t43, t44, by simp only [Act.put, List.setIfInBounds_toArray, List.set_cons_zero, List.set_cons_succ], .inl ⟨h14, hB, f0, f1, f2, fun _ => rfl, f4, f5, f6⟩⟩
          · obtain ⟨t36, t37, t38, t39, t40, t41, t42, t43, t44, hA, hJ⟩ := hJ
            have hJ1 : d 7 = false ∧ _ := hJ.resolve_right (fun h => by have h2 := h.2.1 4 (by omega); rw [hd] at h2; cases h2)
            obtain ⟨h14, hB, f0, f1, f2, f3, f4, f5, f6⟩ := hJ1
            clear hJ
            have HF := Lib.hid (And.intro f0 (And.intro f1 (And.intro f2 (And.intro f3 (And.intro f4 (And.intro f5 (f6)))))))
            have HK := Lib.hid hK
            have HD2 := Lib.hid (And.intro hd h14)
            clear hpre hcl hK hd h14 f0 f1 f2 f3 f4 f5 f6
            try clear hp
            simp only [Act.put, List.setIfInBounds_toArray, List.set_cons_zero, List.set_cons_succ] at hA
            subst hA
            go_simp
            obtain ⟨f0, f1, f2, f3, f4, f5, f6⟩ := HF.out
            obtain ⟨hd, h14⟩ := HD2.out
            exact HK.out _ _ ⟨t36, t37, t38, t39, (.int .i64 (i : Int)), t41, t42, t43, t44, by simp only [Act.put, List.setIfInBounds_toArray, List.set_cons_zero, List.set_cons_succ], .inl ⟨h14, hB, f0, f1, f2, f3, fun _ => rfl, f5, f6⟩⟩
          · obtain ⟨t36, t37, t38, t39, t40, t41, t42, t43, t44, hA, hJ⟩ := hJ
            have hJ1 : d 7 = false ∧ _ := hJ.resolve_right (fun h => by have h2 := h.2.1 5 (by omega); rw [hd] at h2; cases h2)
            obtain ⟨h14, hB, f0, f1, f2, f3, f4, f5, f6⟩ := hJ1
            clear hJ
            have hp := hpre; simp [Region.binds] at hp
            obtain rfl := f4 (by simp [hp])
            have hwr : IntKind.i64.wrap ((i : Int) + 1) = (i : Int) + 1 := IntWalk.i64_in _ (by omega)
            have HF := Lib.hid (And.intro f0 (And.intro f1 (And.intro f2 (And.intro f3 (And.intro f4 (And.intro f5 (f6)))))))
            have HK := Lib.hid hK
            have HD2 := Lib.hid (And.intro hd h14)
            clear hpre hcl hK hd h14 f0 f1 f2 f3 f4 f5 f6
            try clear hp
            simp only [Act.put, List.setIfInBounds_toArray, List.set_cons_zero, List.set_cons_succ] at hA
            subst hA
            go_simp
            obtain ⟨f0, f1, f2, f3, f4, f5, f6⟩ := HF.out
            obtain ⟨hd, h14⟩ := HD2.out
            exact HK.out _ _ ⟨t36, t37, t38, t39, (.int .i64 (i : Int)), (.int .i64 ((i : Int) + 1)), t42, t43, t44, by simp only [Act.put, List.setIfInBounds_toArray, List.set_cons_zero, List.set_cons_succ], .inl ⟨h14, hB, f0, f1, f2, f3, f4, fun _ => rfl, f6⟩⟩
          · obtain ⟨t36, t37, t38, t39, t40, t41, t42, t43, t44, hA, hJ⟩ := hJ
            have hJ1 : d 7 = false ∧ _ := hJ.resolve_right (fun h => by have h2 := h.2.1 6 (by omega); rw [hd] at h2; cases h2)
            obtain ⟨h14, hB, f0, f1, f2, f3, f4, f5, f6⟩ := hJ1
            clear hJ
            have hp := hpre; simp [Region.binds] at hp
            obtain rfl := f3 (by simp [hp])
            obtain rfl := f5 (by simp [hp])
            have HF := Lib.hid (And.intro f0 (And.intro f1 (And.intro f2 (And.intro f3 (And.intro f4 (And.intro f5 (f6)))))))
            have HK := Lib.hid hK
            have HD2 := Lib.hid (And.intro hd h14)
            clear hpre hcl hK hd h14 f0 f1 f2 f3 f4 f5 f6
            try clear hp
            simp only [Act.put, List.setIfInBounds_toArray, List.set_cons_zero, List.set_cons_succ] at hA
            subst hA
            refine stepSlice (by rfl) _ _ _ (by rfl) (.slice (some ⟨b, ot, none⟩) (m - (i + 1)) (m - (i + 1))) (HS2.out W) ?_
            obtain ⟨f0, f1, f2, f3, f4, f5, f6⟩ := HF.out
            obtain ⟨hd, h14⟩ := HD2.out
            exact HK.out _ _ ⟨t36, t37, t38, ((.slice (some ⟨b, off, none⟩) m m)), t40, (.int .i64 ((i : Int) + 1)), ((.slice (some ⟨b, ot, none⟩) (m - (i + 1)) (m - (i + 1)))), t43, t44, by simp only [Act.put, List.setIfInBounds_toArray, List.set_cons_zero, List.set_cons_succ], .inl ⟨h14, hB, f0, f1, f2, f3, f4, f5, fun _ => rfl⟩⟩
          · obtain ⟨t36, t37, t38, t39, t40, t41, t42, t43, t44, hA, hJ⟩ := hJ
            have hJ1 : d 7 = false ∧ _ := hJ.resolve_right (fun h => by have h2 := h.1; rw [hd] at h2; cases h2)
            obtain ⟨h14, hB, f0, f1, f2, f3, f4, f5, f6⟩ := hJ1
            clear hJ
            have hp := hpre; simp [Region.binds] at hp
            obtain rfl := f1 (by simp [hp])
            obtain rfl := f6 (by simp [hp])
            have h8 : d 8 = false := by
              cases h : d 8
              · rfl
              · have h2 := hcl 8 _ rfl h
                simp [Region.binds] at h2
                rw [hd] at h2; simp at h2
            have H8 := Lib.hid h8
            clear h8
            have h9 : d 9 = false := by
              cases h : d 9
              · rfl
              · have h2 := hcl 9 _ rfl h
                simp [Region.binds] at h2
                rw [hd] at h2; simp at h2
            have H9 := Lib.hid h9
            clear h9
            have HTK := Lib.hid (SlBr.drop (HBW2.out.below hB) hlt hot)
            have hall : ∀ j, j < 7 → d j = true := by
              have c6 := hcl 6 _ rfl (by simp [hp])
              simp [Region.binds] at c6
              have c5 := hcl 5 _ rfl (by simp [c6])
              simp [Region.binds] at c5
              have c3 := hcl 3 _ rfl (by simp [c6])
              simp [Region.binds] at c3
              have c1 := hcl 1 _ rfl (by simp [hp])
              simp [Region.binds] at c1
              intro j hj
              have hj2 : j = 0 ∨ j = 1 ∨ j = 2 ∨ j = 3 ∨ j = 4 ∨ j = 5 ∨ j = 6 := by omega
              rcases hj2 with rfl | rfl | rfl | rfl | rfl | rfl | rfl <;> simp only [hp, c6, c5, c3, c1]
            have HAL := Lib.hid hall
            clear hall
            have HF := Lib.hid (And.intro f0 (And.intro f1 (And.intro f2 (And.intro f3 (And.intro f4 (And.intro f5 (f6)))))))
            have HK := Lib.hid hK
            have HD2 := Lib.hid (And.intro hd h14)
            have HP2 := Lib.hid hp
            clear hpre hcl hK hd h14 f0 f1 f2 f3 f4 f5 f6
            try clear hp
            simp only [Act.put, List.setIfInBounds_toArray, List.set_cons_zero, List.set_cons_succ] at hA
            subst hA
            refine stepAppB (by rfl) _ _ (by rfl) wr.heap.size (.slice A4 (hdB bs i).length c4) (hdB bs i) (by rfl) (HOV.out.below hB) b ot (m - (i + 1)) (m - (i + 1)) (bs.drop (i + 1)) (by rfl) HTK.out (by rw [HHL.out]; omega) (Nat.le_trans hwrs hB.size) ?_
            intro v8 wc hown1 hg1 hl1
            obtain ⟨f0, f1, f2, f3, f4, f5, f6⟩ := HF.out
            obtain ⟨hd, h14⟩ := HD2.out
            exact HK.out _ _ ⟨t36, (.slice A4 (hdB bs i).length c4), t38, t39, t40, t41, (.slice (some ⟨b, ot, none⟩) (m - (i + 1)) (m - (i + 1))), v8, t44, by simp only [Act.put, List.setIfInBounds_toArray, List.set_cons_zero, List.set_cons_succ], .inr ⟨upD_same _ _, fun j hj => upD_true (HAL.out j hj), W, wc, hB, hg1, hown1, hl1, fun h => absurd (show d 8 = true from h) (by simp [H8.out]), fun _ => rfl, fun h => absurd (show d 9 = true from h) (by simp [H9.out])⟩⟩
          · obtain ⟨t36, t37, t38, t39, t40, t41, t42, t43, t44, hA, hJ⟩ := hJ
            have hp := hpre; simp [Region.binds] at hp
            have hJ2 : d 7 = true ∧ _ := hJ.resolve_left (fun h => by have h2 := h.1; rw [show d 7 = true by simp [hp]] at h2; cases h2)
            obtain ⟨h7, hall, w0, w1, hB0, hG0, hO0, hl0, f8, f9a, f9b⟩ := hJ2
            have h9 : d 9 = false := by
              cases h : d 9
              · rfl
              · have h2 := hcl 9 _ rfl h
                simp [Region.binds] at h2
                rw [hd] at h2; simp at h2
            obtain rfl := f9a h9
            have HZ := Lib.hid (And.intro h7 (And.intro hall (And.intro hB0 (And.intro hG0 (And.intro hO0 (And.intro hl0 (And.intro h9 f9b)))))))
            have HK := Lib.hid hK
            clear hpre hcl hK hd hp hJ h7 hall hB0 hG0 hO0 hl0 f8 f9a f9b h9
            simp only [Act.put, List.setIfInBounds_toArray, List.set_cons_zero, List.set_cons_succ] at hA
            subst hA
            go_simp
            obtain ⟨h7, hall, hB0, hG0, hO0, hl0, h9, f9b⟩ := HZ.out
            exact HK.out _ _ ⟨t36, t37, t38, t39, t40, t41, t42, t43, (.pointer (some ⟨p, 1, none⟩)), by simp only [Act.put, List.setIfInBounds_toArray, List.set_cons_zero, List.set_cons_succ], .inr ⟨upD_true h7, fun j hj => upD_true (hall j hj), w0, _, hB0, hG0, hO0, hl0, fun _ => rfl, fun _ => rfl, fun h => absurd (show d 9 = true from h) (by simp [h9])⟩⟩
          · obtain ⟨t36, t37, t38, t39, t40, t41, t42, t43, t44, hA, hJ⟩ := hJ
            have hp := hpre; simp [Region.binds] at hp
            have hJ2 : d 7 = true ∧ _ := hJ.resolve_left (fun h => by have h2 := h.1; rw [show d 7 = true by simp [hp]] at h2; cases h2)
            obtain ⟨h7, hall, w0, w1, hB0, hG0, hO0, hl0, f8, f9a, f9b⟩ := hJ2
            obtain rfl := f8 (by simp [hp])
            obtain rfl := f9a hd
            obtain ⟨A5, c5, e5, -⟩ := hO0.sl
            subst e5
            have hcp := cell_grown hG0 HNP.out (cell_of hB0 hc5)
            have hfp := (hG0.frozen_far ⟨p, 1, none⟩ (Nat.lt_of_lt_of_le HPW.out hB0.size) HNP.out).trans ((hB0.frozen (p := ⟨p, 1, none⟩) HPW.out).trans hf5)
            have HZ := Lib.hid (And.intro h7 (And.intro hall (And.intro hB0 (And.intro hG0 (And.intro hO0 hl0)))))
            have HK := Lib.hid hK
            clear hpre hcl hK hd hp hJ h7 hall hB0 hG0 hO0 hl0 f8 f9a f9b
            simp only [Act.put, List.setIfInBounds_toArray, List.set_cons_zero, List.set_cons_succ] at hA
            subst hA
            go_simp
            obtain ⟨h7, hall, hB0, hG0, hO0, hl0⟩ := HZ.out
            exact HK.out _ _ ⟨t36, t37, t38, t39, t40, t41, t42, (.slice A5 (wo bs i).length c5), (.pointer (some ⟨p, 1, none⟩)), by simp only [Act.put, List.setIfInBounds_toArray, List.set_cons_zero, List.set_cons_succ], .inr ⟨upD_true h7, fun j hj => upD_true (hall j hj), w0, _, hB0, hG0, hO0, hl0, fun _ => rfl, fun h => absurd (show true = false from h) (by simp), fun _ => rfl⟩⟩
        · rintro d a' W hall ⟨t36, t37, t38, t39, t40, t41, t42, t43, t44, hA, hJ⟩
          obtain ⟨-, -, w0, w1, hB0, hG0, hO0, hl0, -, -, f9b⟩ := hJ.resolve_left (fun h => by have h2 := h.1; rw [hall 7 (by decide)] at h2; cases h2)
          obtain rfl := f9b (hall 9 (by decide))
          clear hall hJ f9b
          simp only [Act.put, List.setIfInBounds_toArray, List.set_cons_zero, List.set_cons_succ] at hA
          subst hA
          have hne := HNP.out
          have hpz := HPW.out
          obtain ⟨A5, c5, e5, -⟩ := hO0.sl
          subst e5
          have hnep : (Value.slice A5 (wo bs i).length c5).ownBlock ≠ some p := by
            rcases hl0 with h | h
            · rw [h]; exact fun e => hne e.symm
            · rw [h]; intro e; have e3 := Option.some.inj e; have := hB0.size; omega
          have hwrp := HPB.out
          have hG1 := grown_set w1 ⟨p, 1, none⟩ (.slice A5 (wo bs i).length c5)
          have hOF : OwnB (w1.setCell ⟨p, 1, none⟩ (.slice A5 (wo bs i).length c5)) wr.heap.size (.slice A5 (wo bs i).length c5) (wo bs i) := World.ownsRow.kept hO0 hG1 (.inr hnep)
          have hBF : Below wr.heap.size wr (w1.setCell ⟨p, 1, none⟩ (.slice A5 (wo bs i).length c5)) := Below.setCell (bw_from (bw_trans HB4.out hB0) (below_grown hG0 (fun j hj => (World.ownsRow.lt HOV.out j hj).1) (bw_trans HB4.out hB0).size)) hwrp _
          have hcz1 : (w1.setCell ⟨p, 1, none⟩ (.slice A5 (wo bs i).length c5)).cell? ⟨p, 1, none⟩ = some (.slice A5 (wo bs i).length c5) := World.cell?_setCell_same' _ _ _ (by rw [cell_grown hG0 hne (cell_of hB0 hc5)]; rfl)
          have hcz0 : (w1.setCell ⟨p, 1, none⟩ (.slice A5 (wo bs i).length c5)).cell? ⟨p, 0, none⟩ = some (.slice A n c) := by rw [Brother (Brne_off (by decide))]; exact cell_grown hG0 hne (cell_of hB0 hc4)
          have hpsz : p < (w1.setCell ⟨p, 1, none⟩ (.slice A5 (wo bs i).length c5)).heap.size := World.block_lt_of_cell? _ _ hcz1
          generalize w1.setCell ⟨p, 1, none⟩ (.slice A5 (wo bs i).length c5) = wf at *
          have hsl : SlBr wf A5 (wo bs i).length (wo bs i) := by obtain ⟨A6, c6, e6, h6⟩ := hOF.sl; injection e6 with e6 _ _; rw [e6]; exact h6
          rw [HWL.out] at hcz1 hsl
          have hbw4 := bw_trans (bw_trans hbw2 hbr) hBF
          have HR4 := Lib.hid (HMI.out wf hbw4 A5 c5 p ⟨hcz0, hcz1, HSS.out.below hbw4, hsl, hpsz⟩)
          have HO4 := Lib.hid (HO.out.below hBF)
          have hbr4 := bw_trans hbr hBF
          clear hB0 hG0 hO0 hl0 hne hpz hnep hwrp hG1 hOF hBF hcz0 hcz1 hpsz hsl hc4 hc5 hf5 hx1 hx0 HOV HB4 HNP HPW HPB HMI HS1 HS2 HBW HBW2
          go_wp2_with fail
          refine HR4.out.mono ?_
          rintro e w5 ⟨A6, c6, rfl, -, hb5⟩
          have HO5 := Lib.hid (HO4.out.below hb5)
          have hbr5 := bw_trans hbr4 hb5
          have hsz5 := hbr5.size
          change Below _ _ _ at hb5
          have HCL := Lib.hid (HCN.out)
          clear HR4 HO4
          cases hq : q i
          · have HE := Lib.hid (sel_no hq)
            have hne := HQ.out
            rw [hq] at hne
            have hne2 : (((allN (mvOk ss n (wo bs i)) n ps).length : Int) == (many : Int)) = false := by rw [HCL.out]; simp at hne ⊢; omega
            clear hq hne
            go_wp2_with fail
            go_roundg (m - (i + 1))
            case rel => exact ⟨i + 1, by omega, rfl, by go_num, by rw [HE.out]; exact HO5.out, hbr5⟩
            case measure => omega
          · have HE := Lib.hid (sel_yes hq)
            have hne := HQ.out
            rw [hq] at hne
            have hne2 : (allN (mvOk ss n (wo bs i)) n ps).length = many := by rw [HCL.out]; simpa using hne.symm
            rw [hne2]
            clear hq hne hne2
            go_wp2_with (at_builtin; refine wpAppI rfl _ _ rfl _ _ _ rfl (HO5.out.alloc _) _ ((i : Int)) rfl (by go_simp) (by omega) (by simp; omega) ?_; intro v6 w6 hown6 hg6 hb6)
            go_roundg (m - (i + 1))
            case rel => exact ⟨i + 1, by omega, rfl, by go_num, by rw [HE.out]; exact hown6, bw_from (bw_alloc hbr5 _) hb6⟩
            case measure => omega
    · have hjm : i = m := by omega
      subst hjm
      have hil : ¬ ((i : Int) < (i : Int)) := by omega
      obtain ⟨A', c', rfl⟩ := HO.out.form
      clear HML HWO H256 HQQ HBB HSS
      go_wp2
      go_ret2
      exact ⟨_, rfl, OwnI.base HO.out hbs2, bw_trans hbw2 hbr⟩

set_option maxRecDepth 100000 in
set_option maxHeartbeats 6400000 in
theorem law_UselessBars (a_aX : Option Addr) (l_aX c_aX : Nat) (xs_aX : List Int) (b_aX : Option Addr) (m_aX d_aX : Nat) (bs_aX : List BrE) (a_aPlaces : Option Addr) (l_aPlaces c_aPlaces : Nat) (xs_aPlaces : List Int) (w : World) (hl_aX : l_aX ≤ 9223372036854775807) (hm_aX : m_aX ≤ 9223372036854775807) (H_aX : SlI w a_aX l_aX xs_aX) (HB_aX : SlBr w b_aX m_aX bs_aX) (hm_aPlaces : l_aPlaces ≤ 9223372036854775807) (H_aPlaces : SlI w a_aPlaces l_aPlaces xs_aPlaces) :
    Calls Try.prog 4 #[.agg #[.slice a_aX l_aX c_aX, .slice b_aX m_aX d_aX], .slice a_aPlaces l_aPlaces c_aPlaces] w fun e w' => e = .returned (.bool true) ∧ Below w.heap.size w w' := by
  by_cases hn_aPlaces : l_aPlaces ≤ 1048576
  case neg =>
    clear H_aX HB_aX H_aPlaces
    go_enter Try.func4, Try.ntmps4
    go_wp2
    go_ret
    exact ⟨rfl, bw_alloc (Below.refl _ _) _⟩
  have HSZ := Lib.hid (fun W => szSlide_any a_aX l_aX c_aX b_aX m_aX d_aX 1048576 W hl_aX hm_aX ⟨by omega, by omega⟩)
  have hsz := @szD_ok 1048576 l_aX m_aX (by omega)
  generalize szD 1048576 l_aX m_aX = Z at *
  by_cases hz : Z < 0
  case pos =>
    clear H_aX HB_aX H_aPlaces hsz
    go_enter Try.func4, Try.ntmps4
    go_wp2_with fail
    refine (HSZ.out _).mono ?_
    rintro e w0 ⟨rfl, hB0⟩
    go_wp2
    go_ret
    exact ⟨rfl, bw_trans (bw_alloc (Below.refl _ _) _) hB0⟩
  obtain ⟨hn_aX, hq_aX⟩ := hsz hz
  clear hsz
  have hS : ∀ (A_aX : Option Addr) (C_aX : Nat) (B_aX : Option Addr) (A_aPlaces : Option Addr) (C_aPlaces : Nat) (W : World), SlI W A_aX l_aX xs_aX → SlBr W B_aX m_aX bs_aX → SlI W A_aPlaces l_aPlaces xs_aPlaces → Calls Try.prog 21 #[.agg #[.slice A_aX l_aX C_aX, .slice B_aX m_aX m_aX], .slice A_aPlaces l_aPlaces C_aPlaces] W (GivesIC (ubL xs_aX l_aX bs_aX m_aX xs_aPlaces) (scC xs_aX l_aX bs_aX m_aX [xs_aPlaces] 0) W) := fun A_aX C_aX B_aX A_aPlaces C_aPlaces W K_aX KB_aX K_aPlaces => sUselessBars_any A_aX l_aX C_aX xs_aX B_aX m_aX bs_aX A_aPlaces l_aPlaces C_aPlaces xs_aPlaces W K_aX KB_aX K_aPlaces hn_aX hq_aX hn_aPlaces
  have hI : ∀ (A_aX : Option Addr) (C_aX : Nat) (B_aX : Option Addr) (A_aPlaces : Option Addr) (C_aPlaces : Nat) (W : World), SlI W A_aX l_aX xs_aX → SlBr W B_aX m_aX bs_aX → SlI W A_aPlaces l_aPlaces xs_aPlaces → Calls Try.prog 22 #[.agg #[.slice A_aX l_aX C_aX, .slice B_aX m_aX m_aX], .slice A_aPlaces l_aPlaces C_aPlaces] W (GivesIC (ubL xs_aX l_aX bs_aX m_aX xs_aPlaces) (scC xs_aX l_aX bs_aX m_aX [xs_aPlaces] 0) W) := fun A_aX C_aX B_aX A_aPlaces C_aPlaces W K_aX KB_aX K_aPlaces => iUselessBars_any A_aX l_aX C_aX xs_aX B_aX m_aX bs_aX A_aPlaces l_aPlaces C_aPlaces xs_aPlaces W K_aX KB_aX K_aPlaces hn_aX hq_aX hn_aPlaces
  have hy : (ubL xs_aX l_aX bs_aX m_aX xs_aPlaces).length ≤ 1048576 := ub_len hq_aX
  generalize ubL xs_aX l_aX bs_aX m_aX xs_aPlaces = ys at *
  generalize scC xs_aX l_aX bs_aX m_aX [xs_aPlaces] 0 = K0 at *
  have HS := Lib.hid hS
  have HI := Lib.hid hI
  clear hS hI
  have HT := Lib.hid (fun W (hW : Below w.heap.size w W) => toSlide_any a_aX l_aX c_aX xs_aX b_aX m_aX d_aX bs_aX W (H_aX.below hW) (HB_aX.below hW) hn_aX hq_aX)
  clear H_aX HB_aX
  go_enter Try.func4, Try.ntmps4
  go_wp2_with fail
  refine (HSZ.out _).mono ?_
  rintro e w1 ⟨rfl, hb⟩
  clear HSZ
  have hX0 : w1.cell? ⟨w.heap.size, 0, none⟩ = some (.slice a_aX l_aX c_aX) := cell_of hb (by go_simp)
  have hX1 : w1.cell? ⟨w.heap.size, 1, none⟩ = some (.slice b_aX m_aX d_aX) := cell_of hb (by go_simp)
  have hB := bw_trans (bw_alloc (Below.refl _ _) _) hb
  have ZB : w.heap.size < w1.heap.size := World.block_lt_of_cell? w1 _ hX0
  clear hb
  go_wp2_with fail
  refine (HT.out _ hB).mono ?_
  rintro e w2 ⟨gs1, gs2, rfl, Ns1, Ns2, Ns3, Os, Xs, Fs, hb⟩
  replace hX0 := cell_of hb hX0
  replace hX1 := cell_of hb hX1
  replace ZB := Nat.lt_of_lt_of_le ZB hb.size
  replace hB := bw_trans hB hb
  clear hb
  replace Fs := Lib.hid Fs
  have Ss : SlI w2 (some ⟨gs1, 0, none⟩) l_aX xs_aX := by (have h := Os.sl; rw [← h.1] at h; exact h.2)
  go_wp2_with fail
  refine (toInts_any a_aPlaces l_aPlaces c_aPlaces xs_aPlaces _ (H_aPlaces.below hB) hn_aPlaces).mono ?_
  rintro e w3 ⟨rfl, he⟩
  have hb : Below w2.heap.size w2 w3 := by rw [he]; exact bw_alloc (Below.refl _ _) _
  have Os_aPlaces : OwnI w3 w2.heap.size (.slice (some ⟨w2.heap.size, 0, none⟩) l_aPlaces l_aPlaces) xs_aPlaces := by rw [he]; exact OwnI.made H_aPlaces.length hn_aPlaces
  have Zs_aPlaces : w2.heap.size < w3.heap.size := by rw [he]; simp
  clear he
  replace Fs : Hid _ := fun j => (hb.frozen (p := ⟨gs2, j, none⟩) Ns3).trans (Fs.out j)
  replace Ss := Ss.below hb
  replace Os := Os.below hb
  replace Xs := Xs.below hb
  replace hX0 := cell_of hb hX0
  replace hX1 := cell_of hb hX1
  replace ZB := Nat.lt_of_lt_of_le ZB hb.size
  replace Ns3 := Nat.lt_of_lt_of_le Ns3 hb.size
  replace hB := bw_trans hB hb
  clear hb
  go_wp2_with fail
  refine (HS.out (some ⟨gs1, 0, none⟩) l_aX (some ⟨gs2, 0, none⟩) (some ⟨w2.heap.size, 0, none⟩) l_aPlaces _ Ss Xs (by have h := Os_aPlaces.sl; rw [← h.1] at h; exact h.2)).mono ?_
  rintro e w4 ⟨Vw, rfl, Gw, hb⟩
  replace Fs : Hid _ := fun j => (hb.frozen (p := ⟨gs2, j, none⟩) Ns3).trans (Fs.out j)
  replace Ss := Ss.below hb
  replace Os := Os.below hb
  replace Xs := Xs.below hb
  replace Os_aPlaces := Os_aPlaces.below hb
  replace hX0 := cell_of hb hX0
  replace hX1 := cell_of hb hX1
  replace ZB := Nat.lt_of_lt_of_le ZB hb.size
  replace Ns3 := Nat.lt_of_lt_of_le Ns3 hb.size
  replace Zs_aPlaces := Nat.lt_of_lt_of_le Zs_aPlaces hb.size
  replace hB := bw_trans hB hb
  obtain ⟨Aw, cw, rfl⟩ := Gw.form
  clear hb
  clear Ss Os Xs Fs Ns3
  clear Os_aPlaces Zs_aPlaces
  have hW := Below.refl w4.heap.size w4
  have LZB : w.heap.size < w4.heap.size := ZB
  have hBs : w.heap.size ≤ w4.heap.size := hB.size
  have GW := Gw.sl.2
  clear Gw
  go_wp2_with fail
  refine (HT.out _ hB).mono ?_
  rintro e w5 ⟨gx1, gx2, rfl, Nx1, Nx2, Nx3, Ox, Xx, Fx, hb⟩
  replace hX0 := cell_of hb hX0
  replace hX1 := cell_of hb hX1
  replace ZB := Nat.lt_of_lt_of_le ZB hb.size
  replace hB := bw_trans hB hb
  replace hW := bw_trans hW hb
  clear hb
  replace Fx := Lib.hid Fx
  have Sx : SlI w5 (some ⟨gx1, 0, none⟩) l_aX xs_aX := by (have h := Ox.sl; rw [← h.1] at h; exact h.2)
  go_wp2_with fail
  have hb : Below w5.heap.size w5 (w5.alloc (.cells #[.slice (some ⟨gx1, 0, none⟩) l_aX l_aX, .slice (some ⟨gx2, 0, none⟩) m_aX m_aX] 33)) := bw_alloc (Below.refl _ _) _
  have hY0 : (w5.alloc (.cells #[.slice (some ⟨gx1, 0, none⟩) l_aX l_aX, .slice (some ⟨gx2, 0, none⟩) m_aX m_aX] 33)).cell? ⟨w5.heap.size, 0, none⟩ = some (.slice (some ⟨gx1, 0, none⟩) l_aX l_aX) := by go_simp
  have hY1 : (w5.alloc (.cells #[.slice (some ⟨gx1, 0, none⟩) l_aX l_aX, .slice (some ⟨gx2, 0, none⟩) m_aX m_aX] 33)).cell? ⟨w5.heap.size, 1, none⟩ = some (.slice (some ⟨gx2, 0, none⟩) m_aX m_aX) := by go_simp
  generalize (w5.alloc (.cells #[.slice (some ⟨gx1, 0, none⟩) l_aX l_aX, .slice (some ⟨gx2, 0, none⟩) m_aX m_aX] 33)) = w6 at hb hY0 hY1 ⊢
  replace Fx : Hid _ := fun j => (hb.frozen (p := ⟨gx2, j, none⟩) Nx3).trans (Fx.out j)
  replace Sx := Sx.below hb
  replace Ox := Ox.below hb
  replace Xx := Xx.below hb
  replace hX0 := cell_of hb hX0
  replace hX1 := cell_of hb hX1
  replace ZB := Nat.lt_of_lt_of_le ZB hb.size
  replace Nx3 := Nat.lt_of_lt_of_le Nx3 hb.size
  replace hB := bw_trans hB hb
  replace hW := bw_trans hW hb
  clear hb
  have LX : w4.heap.size ≤ gx1 := Nx1
  go_wp2_with fail
  refine (toInts_any a_aPlaces l_aPlaces c_aPlaces xs_aPlaces _ (H_aPlaces.below hB) hn_aPlaces).mono ?_
  rintro e w7 ⟨rfl, he⟩
  have hb : Below w6.heap.size w6 w7 := by rw [he]; exact bw_alloc (Below.refl _ _) _
  have LGX_aPlaces := Lib.hid (show gx2 < w6.heap.size from Nx3)
  have Ox_aPlaces : OwnI w7 w6.heap.size (.slice (some ⟨w6.heap.size, 0, none⟩) l_aPlaces l_aPlaces) xs_aPlaces := by rw [he]; exact OwnI.made H_aPlaces.length hn_aPlaces
  have Zx_aPlaces : w6.heap.size < w7.heap.size := by rw [he]; simp
  clear he
  replace Fx : Hid _ := fun j => (hb.frozen (p := ⟨gx2, j, none⟩) Nx3).trans (Fx.out j)
  replace Sx := Sx.below hb
  replace Ox := Ox.below hb
  replace Xx := Xx.below hb
  replace hX0 := cell_of hb hX0
  replace hX1 := cell_of hb hX1
  replace hY0 := cell_of hb hY0
  replace hY1 := cell_of hb hY1
  replace ZB := Nat.lt_of_lt_of_le ZB hb.size
  replace Nx3 := Nat.lt_of_lt_of_le Nx3 hb.size
  replace hB := bw_trans hB hb
  replace hW := bw_trans hW hb
  clear hb
  have BGX : gx2 < w7.heap.size := Nx3
  have BGhW := Lib.hid (show w4.heap.size ≤ w7.heap.size from hW.size)
  have BGhB := Lib.hid (show w.heap.size ≤ w7.heap.size from hB.size)
  have LE_aPlaces := Lib.hid (show w6.heap.size < w7.heap.size from Zx_aPlaces)
  have LG_aPlaces := Lib.hid (show gx2 < w6.heap.size from LGX_aPlaces.out)
  go_wp2_with fail
  refine (HI.out (some ⟨gx1, 0, none⟩) l_aX (some ⟨gx2, 0, none⟩) (some ⟨w6.heap.size, 0, none⟩) l_aPlaces _ Sx Xx (by have h := Ox_aPlaces.sl; rw [← h.1] at h; exact h.2)).mono ?_
  rintro e w8 ⟨Vg, rfl, Gg, hb⟩
  replace Fx : Hid _ := fun j => (hb.frozen (p := ⟨gx2, j, none⟩) Nx3).trans (Fx.out j)
  replace Sx := Sx.below hb
  replace Ox := Ox.below hb
  replace Xx := Xx.below hb
  replace Ox_aPlaces := Ox_aPlaces.below hb
  replace hX0 := cell_of hb hX0
  replace hX1 := cell_of hb hX1
  replace hY0 := cell_of hb hY0
  replace hY1 := cell_of hb hY1
  replace ZB := Nat.lt_of_lt_of_le ZB hb.size
  replace Nx3 := Nat.lt_of_lt_of_le Nx3 hb.size
  replace Zx_aPlaces := Nat.lt_of_lt_of_le Zx_aPlaces hb.size
  replace hB := bw_trans hB hb
  replace hW := bw_trans hW hb
  obtain ⟨Ag, cg, rfl⟩ := Gg.form
  clear hb
  go_wp2_with fail
  refine (eqInts_any Ag Aw ys.length cg cw _ _ Gg.sl.2 (GW.below hW) hy).mono ?_
  rintro e w9 ⟨rfl, hb⟩
  replace Fx : Hid _ := fun j => (hb.frozen (p := ⟨gx2, j, none⟩) Nx3).trans (Fx.out j)
  replace Sx := Sx.below hb
  replace Ox := Ox.below hb
  replace Xx := Xx.below hb
  replace Ox_aPlaces := Ox_aPlaces.below hb
  replace Gg := Gg.below hb
  replace hX0 := cell_of hb hX0
  replace hX1 := cell_of hb hX1
  replace hY0 := cell_of hb hY0
  replace hY1 := cell_of hb hY1
  replace ZB := Nat.lt_of_lt_of_le ZB hb.size
  replace Nx3 := Nat.lt_of_lt_of_le Nx3 hb.size
  replace Zx_aPlaces := Nat.lt_of_lt_of_le Zx_aPlaces hb.size
  replace hB := bw_trans hB hb
  replace hW := bw_trans hW hb
  clear hb
  go_wp2_with fail
  have hT2 := Lib.hid (fun W (hW2 : Below w9.heap.size w9 W) => HT.out W (bw_trans hB hW2))
  have hE2 := Lib.hid (fun (A' : Option Addr) (B' : Option Addr) W (hW2 : Below w9.heap.size w9 W) (h1 : SlI W A' l_aX xs_aX) (h2 : SlBr W B' m_aX bs_aX) => eqSlide_any (some ⟨gx1, 0, none⟩) l_aX l_aX xs_aX (some ⟨gx2, 0, none⟩) m_aX m_aX bs_aX A' l_aX B' m_aX W (Sx.below hW2) (Xx.below hW2) h1 h2 hn_aX hq_aX)
  go_region_held3 (fun w' => w'.cell? ⟨w.heap.size, 0, none⟩ = some (.slice a_aX l_aX c_aX) ∧ w'.cell? ⟨w.heap.size, 1, none⟩ = some (.slice b_aX m_aX d_aX) ∧ w'.cell? ⟨w5.heap.size, 0, none⟩ = some (.slice (some ⟨gx1, 0, none⟩) l_aX l_aX) ∧ w'.cell? ⟨w5.heap.size, 1, none⟩ = some (.slice (some ⟨gx2, 0, none⟩) m_aX m_aX))
    (((try dsimp only); (repeat' apply And.intro) <;> first | assumption | go_simp))
    (first | (go_at_call 14; refine (hT2.out _ (Below.refl _ _).drew).mono ?_; rintro e wa ⟨gq1, gq2, rfl, _, _, _, Oq, Xq, _, hba0⟩; (have hba : Below w9.heap.size w9 wa := bw_trans (Below.refl _ _).drew hba0); (have Sq : SlI wa (some ⟨gq1, 0, none⟩) l_aX xs_aX := by (have h := Oq.sl; rw [← h.1] at h; exact h.2)); (have hv0 := cell_of hba hX0); (have hv1 := cell_of hba hX1); (have hv2 := cell_of hba hY0); (have hv3 := cell_of hba hY1)) | (go_at_call 18; refine (hE2.out _ _ _ hba Sq Xq).mono ?_; rintro e w10 ⟨rfl, hbb⟩; (have hb : Below w9.heap.size w9 w10 := bw_trans hba hbb); (have hu0 := cell_of hbb hv0); (have hu1 := cell_of hbb hv1); (have hu2 := cell_of hbb hv2); (have hu3 := cell_of hbb hv3)))
  clear hT2 hE2 Oq Xq Sq hv0 hv1 hv2 hv3 hu0 hu1 hu2 hu3 hba hba0 hbb
  replace Fx : Hid _ := fun j => (hb.frozen (p := ⟨gx2, j, none⟩) Nx3).trans (Fx.out j)
  replace Sx := Sx.below hb
  replace Ox := Ox.below hb
  replace Xx := Xx.below hb
  replace Ox_aPlaces := Ox_aPlaces.below hb
  replace Gg := Gg.below hb
  replace hX0 := cell_of hb hX0
  replace hX1 := cell_of hb hX1
  replace hY0 := cell_of hb hY0
  replace hY1 := cell_of hb hY1
  replace ZB := Nat.lt_of_lt_of_le ZB hb.size
  replace Nx3 := Nat.lt_of_lt_of_le Nx3 hb.size
  replace Zx_aPlaces := Nat.lt_of_lt_of_le Zx_aPlaces hb.size
  replace hB := bw_trans hB hb
  replace hW := bw_trans hW hb
  clear hb
  go_wp2_with fail
  refine (toInts_any a_aPlaces l_aPlaces c_aPlaces xs_aPlaces _ (H_aPlaces.below hB) hn_aPlaces).mono ?_
  rintro e w11 ⟨rfl, he⟩
  have hb : Below w10.heap.size w10 w11 := by rw [he]; exact bw_alloc (Below.refl _ _) _
  have Oq_aPlaces : OwnI w11 w10.heap.size (.slice (some ⟨w10.heap.size, 0, none⟩) l_aPlaces l_aPlaces) xs_aPlaces := by rw [he]; exact OwnI.made H_aPlaces.length hn_aPlaces
  have Zq_aPlaces : w10.heap.size < w11.heap.size := by rw [he]; simp
  clear he
  replace Fx : Hid _ := fun j => (hb.frozen (p := ⟨gx2, j, none⟩) Nx3).trans (Fx.out j)
  replace Sx := Sx.below hb
  replace Ox := Ox.below hb
  replace Xx := Xx.below hb
  replace Ox_aPlaces := Ox_aPlaces.below hb
  replace Gg := Gg.below hb
  replace hX0 := cell_of hb hX0
  replace hX1 := cell_of hb hX1
  replace hY0 := cell_of hb hY0
  replace hY1 := cell_of hb hY1
  replace ZB := Nat.lt_of_lt_of_le ZB hb.size
  replace Nx3 := Nat.lt_of_lt_of_le Nx3 hb.size
  replace Zx_aPlaces := Nat.lt_of_lt_of_le Zx_aPlaces hb.size
  replace hB := bw_trans hB hb
  replace hW := bw_trans hW hb
  clear hb
  go_wp2_with fail
  refine (eqInts_any _ _ l_aPlaces l_aPlaces l_aPlaces _ _ (by have h := Ox_aPlaces.sl; rw [← h.1] at h; exact h.2) (by have h := Oq_aPlaces.sl; rw [← h.1] at h; exact h.2) hn_aPlaces).mono ?_
  rintro e w12 ⟨rfl, hb⟩
  replace Fx : Hid _ := fun j => (hb.frozen (p := ⟨gx2, j, none⟩) Nx3).trans (Fx.out j)
  replace Sx := Sx.below hb
  replace Ox := Ox.below hb
  replace Xx := Xx.below hb
  replace Ox_aPlaces := Ox_aPlaces.below hb
  replace Gg := Gg.below hb
  replace Oq_aPlaces := Oq_aPlaces.below hb
  replace hX0 := cell_of hb hX0
  replace hX1 := cell_of hb hX1
  replace hY0 := cell_of hb hY0
  replace hY1 := cell_of hb hY1
  replace ZB := Nat.lt_of_lt_of_le ZB hb.size
  replace Nx3 := Nat.lt_of_lt_of_le Nx3 hb.size
  replace Zx_aPlaces := Nat.lt_of_lt_of_le Zx_aPlaces hb.size
  replace Zq_aPlaces := Nat.lt_of_lt_of_le Zq_aPlaces hb.size
  replace hB := bw_trans hB hb
  replace hW := bw_trans hW hb
  clear hb
  clear Oq_aPlaces Zq_aPlaces
  go_wp2_with fail
  refine (markSlide_any gx1 gx2 l_aX m_aX xs_aX bs_aX 1 _ Ox Xx Fx.out Nx2 Nx3 hn_aX hq_aX ⟨by omega, by omega⟩).mono ?_
  rintro e w13 ⟨rfl, hg, hr⟩
  replace hB := bw_from hB (hg.mono (Nat.le_trans hBs LX))
  replace hW := bw_from hW (hg.mono LX)
  have hlX : w.heap.size < gx1 := Nat.lt_of_lt_of_le LZB LX
  replace hX0 := (hg.cell (p := ⟨w.heap.size, 0, none⟩) hlX).trans hX0
  replace hX1 := (hg.cell (p := ⟨w.heap.size, 1, none⟩) hlX).trans hX1
  clear hY0 hY1 hlX
  replace ZB := Nat.lt_of_lt_of_le ZB hg.size
  replace Zx_aPlaces := Nat.lt_of_lt_of_le Zx_aPlaces hg.size
  replace Ox_aPlaces := hr _ _ _ LG_aPlaces.out Ox_aPlaces
  replace Gg := hr _ _ _ BGX Gg
  clear hg hr Sx Ox Xx Fx Nx3
  go_wp2_with fail
  refine (markI_any _ l_aPlaces _ w6.heap.size (1 + (l_aX : Int) + 4 * (m_aX : Int)) xs_aPlaces _ Ox_aPlaces hn_aPlaces ⟨by omega, by omega⟩).mono ?_
  rintro e w14 ⟨rfl, _, hg, _⟩
  replace hg : w13.grownBy w14 (some w6.heap.size) := hg
  have hlg : w6.heap.size < w7.heap.size := LE_aPlaces.out
  have hlx : gx2 < w6.heap.size := LG_aPlaces.out
  have hww : w4.heap.size < gx2 := Nat.lt_of_le_of_lt LX Nx2
  replace hB := bw_from hB (below_grown hg (fun j hj => by injection hj with hj; omega) hB.size)
  replace hW := bw_from hW (below_grown hg (fun j hj => by injection hj with hj; omega) hW.size)
  replace hX0 := (hg.cell_far ⟨w.heap.size, 0, none⟩ ZB (fun e => absurd (Option.some.inj e) (by dsimp only; omega))).trans hX0
  replace hX1 := (hg.cell_far ⟨w.heap.size, 1, none⟩ ZB (fun e => absurd (Option.some.inj e) (by dsimp only; omega))).trans hX1
  replace ZB := Nat.lt_of_lt_of_le ZB hg.size
  replace Gg := Gg.keptRow hg hlg
  clear hg hlg hlx hww Ox_aPlaces Zx_aPlaces
  have hkn : ¬ (1 + (l_aX : Int) + 4 * (m_aX : Int) + (l_aPlaces : Int) < 0) := by omega
  go_wp2_with fail
  refine (eqInts_any Ag Aw ys.length cg cw _ _ Gg.sl.2 (GW.below hW) hy).mono ?_
  rintro e w15 ⟨rfl, hb⟩
  replace Gg := Gg.below hb
  replace hX0 := cell_of hb hX0
  replace hX1 := cell_of hb hX1
  replace ZB := Nat.lt_of_lt_of_le ZB hb.size
  replace hB := bw_trans hB hb
  replace hW := bw_trans hW hb
  clear hb
  clear hkn
  go_wp2_with fail
  refine (markI_any Ag ys.length cg w7.heap.size 1 ys _ Gg hy ⟨by omega, by omega⟩).mono ?_
  rintro e w16 ⟨rfl, GM, _, hb⟩
  replace hX0 := (hb.cell (p := ⟨w.heap.size, 0, none⟩) (Nat.lt_of_lt_of_le LZB BGhW.out)).trans hX0
  replace hX1 := (hb.cell (p := ⟨w.heap.size, 1, none⟩) (Nat.lt_of_lt_of_le LZB BGhW.out)).trans hX1
  replace hB := bw_from hB (hb.mono BGhB.out)
  replace hW := bw_from hW (hb.mono BGhW.out)
  replace ZB := Nat.lt_of_lt_of_le ZB hb.size
  clear hb Gg
  have hml := mks_len 1 ys.length
  have HM := Lib.hid hml
  clear hml
  have hqn : ¬ (1 + (ys.length : Int) < 0) := by omega
  go_wp2_with fail
  refine (heldI_any Ag ys.length cg 1 _ (by have h := GM.sl.2; rw [HM.out] at h; exact h) hy ⟨by omega, by omega⟩).mono ?_
  rintro e w17 ⟨rfl, hb⟩
  replace GM := GM.below hb
  replace hX0 := cell_of hb hX0
  replace hX1 := cell_of hb hX1
  replace ZB := Nat.lt_of_lt_of_le ZB hb.size
  replace hB := bw_trans hB hb
  replace hW := bw_trans hW hb
  clear hb
  go_wp2_with fail
  refine (HT.out _ hB).mono ?_
  rintro e w18 ⟨gh1, gh2, rfl, Nh1, Nh2, Nh3, Oh, Xh, Fh, hb⟩
  replace GM := GM.below hb
  replace hX0 := cell_of hb hX0
  replace hX1 := cell_of hb hX1
  replace ZB := Nat.lt_of_lt_of_le ZB hb.size
  replace hB := bw_trans hB hb
  replace hW := bw_trans hW hb
  clear hb
  replace Fh := Lib.hid Fh
  have Sh : SlI w18 (some ⟨gh1, 0, none⟩) l_aX xs_aX := by (have h := Oh.sl; rw [← h.1] at h; exact h.2)
  go_wp2_with fail
  refine (toInts_any a_aPlaces l_aPlaces c_aPlaces xs_aPlaces _ (H_aPlaces.below hB) hn_aPlaces).mono ?_
  rintro e w19 ⟨rfl, he⟩
  have hb : Below w18.heap.size w18 w19 := by rw [he]; exact bw_alloc (Below.refl _ _) _
  have Oh_aPlaces : OwnI w19 w18.heap.size (.slice (some ⟨w18.heap.size, 0, none⟩) l_aPlaces l_aPlaces) xs_aPlaces := by rw [he]; exact OwnI.made H_aPlaces.length hn_aPlaces
  have Zh_aPlaces : w18.heap.size < w19.heap.size := by rw [he]; simp
  clear he
  replace Fh : Hid _ := fun j => (hb.frozen (p := ⟨gh2, j, none⟩) Nh3).trans (Fh.out j)
  replace GM := GM.below hb
  replace Sh := Sh.below hb
  replace Oh := Oh.below hb
  replace Xh := Xh.below hb
  replace hX0 := cell_of hb hX0
  replace hX1 := cell_of hb hX1
  replace ZB := Nat.lt_of_lt_of_le ZB hb.size
  replace Nh3 := Nat.lt_of_lt_of_le Nh3 hb.size
  replace hB := bw_trans hB hb
  replace hW := bw_trans hW hb
  clear hb
  go_wp2_with fail
  refine (HI.out (some ⟨gh1, 0, none⟩) l_aX (some ⟨gh2, 0, none⟩) (some ⟨w18.heap.size, 0, none⟩) l_aPlaces _ Sh Xh (by have h := Oh_aPlaces.sl; rw [← h.1] at h; exact h.2)).mono ?_
  rintro e w20 ⟨Vh, rfl, Gh, hb⟩
  replace Fh : Hid _ := fun j => (hb.frozen (p := ⟨gh2, j, none⟩) Nh3).trans (Fh.out j)
  replace GM := GM.below hb
  replace Sh := Sh.below hb
  replace Oh := Oh.below hb
  replace Xh := Xh.below hb
  replace Oh_aPlaces := Oh_aPlaces.below hb
  replace hX0 := cell_of hb hX0
  replace hX1 := cell_of hb hX1
  replace ZB := Nat.lt_of_lt_of_le ZB hb.size
  replace Nh3 := Nat.lt_of_lt_of_le Nh3 hb.size
  replace Zh_aPlaces := Nat.lt_of_lt_of_le Zh_aPlaces hb.size
  replace hB := bw_trans hB hb
  replace hW := bw_trans hW hb
  obtain ⟨Ah, ch, rfl⟩ := Gh.form
  clear hb
  clear Sh Oh Xh Fh Nh3
  clear Oh_aPlaces Zh_aPlaces
  go_wp2_with fail
  refine (eqInts_any Ah Aw ys.length ch cw _ _ Gh.sl.2 (GW.below hW) hy).mono ?_
  rintro e w21 ⟨rfl, hb⟩
  replace GM := GM.below hb
  replace Gh := Gh.below hb
  replace hX0 := cell_of hb hX0
  replace hX1 := cell_of hb hX1
  replace ZB := Nat.lt_of_lt_of_le ZB hb.size
  replace hB := bw_trans hB hb
  replace hW := bw_trans hW hb
  clear hb
  clear Gh
  go_wp2_with fail
  refine (heldI_any Ag ys.length cg 1 _ (by have h := GM.sl.2; rw [HM.out] at h; exact h) hy ⟨by omega, by omega⟩).mono ?_
  rintro e w22 ⟨rfl, hb⟩
  replace GM := GM.below hb
  replace hX0 := cell_of hb hX0
  replace hX1 := cell_of hb hX1
  replace ZB := Nat.lt_of_lt_of_le ZB hb.size
  replace hB := bw_trans hB hb
  replace hW := bw_trans hW hb
  clear hb
  clear GW GM HM
  go_wp2
  go_ret
  exact ⟨rfl, hB⟩
end Go.Proofs.Yticohpimkicphaa
