/-
  ShowAll: in the program and in the reference.
-/
import Derived.Test.YticohpimkicphaaYy
import Derived.Test.YticohpimkicphaaYt
namespace Go.Proofs.Yticohpimkicphaa
open Go.RowKit
open Go.Maps (Keyed)

def atS (ps : List Int) (pls : List (List Int)) : Nat → List Int
  | 0 => ps
  | j + 1 => pls.getD j []
def fnS (ss : List Int) (n : Nat) (bs : List BrE) (ps : List Int) (pls : List (List Int)) (j : Nat) : Bool := hasN (toR ss n bs (atS ps pls j)) (pls.getD j [])
def lnS (ss : List Int) (n : Nat) (bs : List BrE) (ps : List Int) (pls : List (List Int)) (j : Nat) : Nat := ((toR ss n bs (atS ps pls j)).getD (fdI (toR ss n bs (atS ps pls j)) (pls.getD j [])).toNat Nd.zero).pt.length
def okS (f : Nat → Bool) : Nat → Bool
  | 0 => true
  | k + 1 => okS f k && f k
def smS (f : Nat → Nat) : Nat → Nat
  | 0 => 0
  | k + 1 => smS f k + f k
theorem ok_stop {f : Nat → Bool} {j : Nat} (h : f j = false) : ∀ {n : Nat}, j < n → okS f n = false
  | 0, hj => by omega
  | n + 1, hj => by
    unfold okS
    rcases Nat.lt_or_ge j n with h1 | h1
    · rw [ok_stop h h1]; rfl
    · have : j = n := by omega
      subst this
      rw [h, Bool.and_false]
theorem ok_step {f : Nat → Bool} {n : Nat} (h1 : okS f n = true) (h2 : f n = true) : okS f (n + 1) = true := by
  unfold okS; rw [h1, h2]; rfl
def shBad (ss : List Int) (n : Nat) (ps : List Int) (pls : List (List Int)) : Bool := pls.any (fun p => !plB ss p n) || (!plB ss ps n || decide (6 < pls.length))
def shC (ss : List Int) (n : Nat) (bs : List BrE) (m : Nat) (ps : List Int) (pls : List (List Int)) : Int := if vsB ss n bs m then (if shBad ss n ps pls then 2 else (if myB bs ps then (if okS (fnS ss n bs ps pls) pls.length then 0 else 3) else 9)) else 1
def shV (ss : List Int) (n : Nat) (bs : List BrE) (m : Nat) (ps : List Int) (pls : List (List Int)) : Int := if vsB ss n bs m then (if shBad ss n ps pls then 0 else (if myB bs ps then (if okS (fnS ss n bs ps pls) pls.length then ((smS (lnS ss n bs ps pls) pls.length : Nat) : Int) else 0) else 0)) else 0
section
variable {ss : List Int} {n : Nat} {bs : List BrE} {m : Nat} {ps : List Int} {pls : List (List Int)}
theorem sh_1 (h : vsB ss n bs m = false) : shC ss n bs m ps pls = 1 ∧ shV ss n bs m ps pls = 0 := by unfold shC shV; rw [h]; exact ⟨rfl, rfl⟩
theorem sh_2 (h : vsB ss n bs m = true) (h2 : shBad ss n ps pls = true) : shC ss n bs m ps pls = 2 ∧ shV ss n bs m ps pls = 0 := by unfold shC shV; rw [h, h2]; exact ⟨rfl, rfl⟩
theorem sh_9 (h : vsB ss n bs m = true) (h2 : shBad ss n ps pls = false) (h3 : myB bs ps = false) : shC ss n bs m ps pls = 9 ∧ shV ss n bs m ps pls = 0 := by unfold shC shV; rw [h, h2, h3]; exact ⟨rfl, rfl⟩
theorem sh_3 (h : vsB ss n bs m = true) (h2 : shBad ss n ps pls = false) (h3 : myB bs ps = true) (h4 : okS (fnS ss n bs ps pls) pls.length = false) : shC ss n bs m ps pls = 3 ∧ shV ss n bs m ps pls = 0 := by unfold shC shV; rw [h, h2, h3, h4]; exact ⟨rfl, rfl⟩
theorem sh_0 (h : vsB ss n bs m = true) (h2 : shBad ss n ps pls = false) (h3 : myB bs ps = true) (h4 : okS (fnS ss n bs ps pls) pls.length = true) : shC ss n bs m ps pls = 0 ∧ shV ss n bs m ps pls = ((smS (lnS ss n bs ps pls) pls.length : Nat) : Int) := by unfold shC shV; rw [h, h2, h3, h4]; exact ⟨rfl, rfl⟩
theorem bad_at {k : Nat} (hk : k < pls.length) (h : plB ss (pls.getD k []) n = false) : shBad ss n ps pls = true := by
  unfold shBad
  rw [gany_true (d := []) hk (by rw [h]; rfl)]
  rfl
theorem bad_ps (h : plB ss ps n = false) : shBad ss n ps pls = true := by unfold shBad; rw [h]; simp
theorem bad_6 (h : 6 < pls.length) : shBad ss n ps pls = true := by unfold shBad; simp [h]
theorem bad_any (h : pls.any (fun p => !plB ss p n) = true) : shBad ss n ps pls = true := by unfold shBad; rw [h]; rfl
theorem bad_no (h1 : pls.any (fun p => !plB ss p n) = false) (h2 : plB ss ps n = true) (h3 : ¬ 6 < pls.length) : shBad ss n ps pls = false := by unfold shBad; rw [h1, h2]; simp; omega
theorem any_pl (h : ∀ k, k < pls.length → plB ss (pls.getD k []) n = true) : pls.any (fun p => !plB ss p n) = false := gany_false (d := []) (fun j hj => by rw [h j hj]; rfl)
theorem pl_any (h : pls.any (fun p => !plB ss p n) = false) : ∀ k, k < pls.length → plB ss (pls.getD k []) n = true := fun k hk => by
  have := gany_at (d := []) h hk
  simpa using this
/-- What the k-th show needs. -/
theorem sh_facts (hps : plB ss ps n = true) (hpl : ∀ k, k < pls.length → plB ss (pls.getD k []) n = true) {k : Nat} (hk : k ≤ pls.length) : plB ss (atS ps pls k) n = true := by
  cases k with
  | zero => exact hps
  | succ k => exact hpl k (by omega)
theorem ln_le (hst : stBd ss n) (hn : n ≤ 4) {k : Nat} (hp : plB ss (atS ps pls k) n = true) : lnS ss n bs ps pls k ≤ 256 := by
  obtain ⟨g1, g2, _⟩ := all_gd (bs := bs) hst hn hp
  unfold lnS
  rcases Nat.lt_or_ge (fdI (toR ss n bs (atS ps pls k)) (pls.getD k [])).toNat (toR ss n bs (atS ps pls k)).length with h | h
  · have h1 := GdN.pt_len g1 _ h
    have h2 : ((toR ss n bs (atS ps pls k)).getD (fdI (toR ss n bs (atS ps pls k)) (pls.getD k [])).toNat Nd.zero).pt.length ≤ (fdI (toR ss n bs (atS ps pls k)) (pls.getD k [])).toNat := h1
    have h3 : (toR ss n bs (atS ps pls k)).length ≤ 256 := g2
    omega
  · rw [List.getD_eq_getElem?_getD, List.getElem?_eq_none h]
    decide
end
theorem sm_le {f : Nat → Nat} {N : Nat} (h : ∀ k, k < N → f k ≤ 256) : ∀ k, k ≤ N → smS f k ≤ 256 * k
  | 0, _ => Nat.le_refl _
  | k + 1, hk => by
    have h1 := sm_le h k (by omega)
    have h2 := h k (by omega)
    unfold smS
    omega

set_option maxRecDepth 100000 in
set_option maxHeartbeats 6400000 in
theorem sShowAll_any (A : Option Addr) (n c : Nat) (ss : List Int) (B : Option Addr) (m d : Nat) (bs : List BrE) (P : Option Addr) (k e : Nat) (ps : List Int) (Q : Option Addr) (l f : Nat) (pls : List (List Int)) (w : World) (HS : SlI w A n ss) (HB : SlBr w B m bs) (HP : SlI w P k ps) (HQ : SlSS w Q l pls) (hn : n ≤ 1048576) (hm : m ≤ 1048576) (hk : k ≤ 1048576) (hq : l ≤ 1048576) :
    Calls Try.prog 13 #[.agg #[.slice A n c, .slice B m d], .slice P k e, .slice Q l f] w fun e w' => e = .returned (.tuple #[.int .i64 (shV ss n bs m ps pls), .int .i64 (shC ss n bs m ps pls)]) ∧ Below w.heap.size w w' := by
  have hb0 : Below w.heap.size w (w.alloc (.cells #[.slice A n c, .slice B m d] 33)) := bw_alloc (Below.refl _ _) _
  have HD := Lib.hid (show SdP (w.alloc (.cells #[.slice A n c, .slice B m d] 33)) w.heap.size A n c ss B m d bs from ⟨by go_simp, by go_simp, HS.below hb0, HB.below hb0, by simp⟩)
  have HO := Lib.hid (l13Ok_any w.heap.size A n c ss B m d bs _ HD.out hn hm)
  have HLS := HS.length
  have HLB := HB.1
  have HLP := HP.length
  have hll : pls.length = l := HQ.1
  cases hv : vsB ss n bs m
  case false =>
    rw [hv] at HO
    rw [(sh_1 hv).1, (sh_1 hv).2]
    clear HS HB HP HQ hv HLS HLB HLP hll HD
    go_enter Try.func13, Try.ntmps13
    go_wp2_with fail
    refine HO.out.mono ?_
    rintro e w1 ⟨rfl, hb1⟩
    go_wp2
    go_ret2
    exact ⟨rfl, bw_trans hb0 hb1⟩
  obtain ⟨n1, n4, hst, m8, hbd⟩ := vs_at HLS HLB hv
  rw [hv] at HO
  have HQ0 := Lib.hid (fun W (hW : Below w.heap.size w W) => HQ.below hW)
  have HDW := Lib.hid (fun W hW => HD.out.below (w' := W) hW)
  have HPW := Lib.hid (fun W (hW : Below w.heap.size w W) => HP.below hW)
  have HPL := Lib.hid (fun (P' : Option Addr) (k' e' : Nat) (qs : List Int) W (hW : Below (w.alloc (.cells #[.slice A n c, .slice B m d] 33)).heap.size (w.alloc (.cells #[.slice A n c, .slice B m d] 33)) W) (h : SlI W P' k' qs) (hk' : k' ≤ 1048576) => l13Places_any w.heap.size A n c ss B m d bs P' k' e' qs W (HD.out.below hW) h hn hk' hst)
  have H2 := Lib.hid (fun h2 => sh_2 (pls := pls) (ps := ps) hv h2)
  have H9 := Lib.hid (fun h2 h3 => sh_9 (pls := pls) (ps := ps) hv h2 h3)
  have H3 := Lib.hid (fun h2 h3 h4 => sh_3 (pls := pls) (ps := ps) hv h2 h3 h4)
  have H0 := Lib.hid (fun h2 h3 h4 => sh_0 (pls := pls) (ps := ps) hv h2 h3 h4)
  have HLL := Lib.hid hll
  have HLP2 := Lib.hid HLP
  have HMY := Lib.hid (fun W hW (hkn : k = n) => (show Calls Try.prog 42 #[.pointer (some ⟨w.heap.size, 0, none⟩), .slice P k e] W _ from l13May_any w.heap.size A n c ss B m d bs P k e ps W (HD.out.below hW) (HP.below (bw_trans hb0 hW)) hm hk (by rw [hkn] at *; exact hbd)))
  have HAL := Lib.hid (fun (P' : Option Addr) (e' : Nat) (qs : List Int) W hW (h : SlI W P' n qs) (hq' : plB ss qs n = true) => (show Calls Try.prog 43 #[.pointer (some ⟨w.heap.size, 0, none⟩), .slice P' n e'] W (GivesS (toR ss n bs qs) W) from l13All_any w.heap.size A n c ss B m d bs P' e' qs W (HD.out.below hW) h n1 n4 m8 hst hbd hq'))
  have HGD := Lib.hid (fun qs (hq' : plB ss qs n = true) => show (toR ss n bs qs).length ≤ 256 ∧ ∀ y ∈ toR ss n bs qs, y.pl.length = n from ⟨(all_gd (bs := bs) (ps := qs) hst n4 hq').2.1, fun y hy => ((all_gd (bs := bs) (ps := qs) hst n4 hq').2.2 y hy).1⟩)
  have HFN0 := Lib.hid (show ∀ i, fnS ss n bs ps pls i = hasN (toR ss n bs (atS ps pls i)) (pls.getD i []) from fun i => rfl)
  have HLE0 := Lib.hid (show ∀ i, lnS ss n bs ps pls i = ((toR ss n bs (atS ps pls i)).getD (fdI (toR ss n bs (atS ps pls i)) (pls.getD i [])).toNat Nd.zero).pt.length from fun i => rfl)
  have HSF := Lib.hid (fun hps hpl k hk' => sh_facts (ss := ss) (n := n) (pls := pls) (ps := ps) hps hpl (k := k) hk')
  have HLN := Lib.hid (fun k hp => ln_le (bs := bs) (pls := pls) (ps := ps) hst n4 (k := k) hp)
  clear HS HB HP HQ hv HLS HLB HLP hll HD hst hbd
  generalize shC ss n bs m ps pls = C at *
  generalize shV ss n bs m ps pls = V at *
  generalize lnS ss n bs ps pls = LN at *
  generalize fnS ss n bs ps pls = FN at *
  generalize toR ss n bs = TR at *
  go_enter Try.func13, Try.ntmps13
  go_wp2_with fail
  refine HO.out.mono ?_
  rintro e w1 ⟨rfl, hb1⟩
  go_wp2_with fail
  go_loopg [8] l (fun gh x wr => ∃ j : Nat, j ≤ l ∧ gh = l - j ∧ x = .int .i64 (j : Int) ∧ Hid (∀ i, i < j → plB ss (pls.getD i []) n = true) ∧ Below (w.alloc (.cells #[.slice A n c, .slice B m d] 33)).heap.size (w.alloc (.cells #[.slice A n c, .slice B m d] 33)) wr)
  case atStart => exact ⟨0, by omega, by omega, rfl, fun i hi => absurd hi (by omega), hb1⟩
  case round =>
    clear hb1 HO
    obtain ⟨j, hj, rfl, rfl, hno, hbr⟩ := hrel
    by_cases hlt : j < l
    · obtain ⟨b, off, rfl, hbl, A', c', hc, hs, hle⟩ := (HQ0.out _ (bw_trans hb0 hbr)).get hlt
      have HK := Lib.hid (HPL.out A' _ c' _ _ hbr hs hle)
      have hjl : (j : Int) < (l : Int) := by omega
      obtain ⟨xs, hxs⟩ : ∃ xs, pls.getD j [] = xs := ⟨_, rfl⟩
      rw [hxs] at HK hc
      clear hs
      cases hp : plB ss xs n
      · obtain ⟨rfl, rfl⟩ := H2.out (bad_at (by rw [HLL.out]; exact hlt) (by rw [hxs]; exact hp))
        rw [hp] at HK
        clear hxs hp H2 H9 H3 H0 HMY HAL HSF HLN HGD
        generalize xs.length = q at *
        go_wp2_with fail
        refine HK.out.mono ?_
        rintro e w2 ⟨rfl, hb2⟩
        go_wp2
        go_ret2
        exact ⟨rfl, bw_trans (bw_trans hb0 hbr) hb2⟩
      · have HN : Hid (∀ i, i < j + 1 → plB ss (pls.getD i []) n = true) := fun i hi => by
          rcases Nat.lt_or_ge i j with h | h
          · exact hno.out i h
          · have : i = j := by omega
            subst this; rw [hxs]; exact hp
        rw [hp] at HK
        clear hxs hp H2 H9 H3 H0 HMY HAL HSF HLN HGD
        generalize xs.length = q at *
        go_wp2_with fail
        refine HK.out.mono ?_
        rintro e w2 ⟨rfl, hb2⟩
        go_wp2_with fail
        go_roundg (l - (j + 1))
        case rel => exact ⟨j + 1, by omega, rfl, by go_num, HN, bw_trans hbr hb2⟩
        case measure => omega
    · have HALL : Hid (∀ i, i < pls.length → plB ss (pls.getD i []) n = true) := fun i hi => hno.out i (by have := HLL.out; omega)
      have hjl : ¬ ((j : Int) < (l : Int)) := by omega
      have hnn := any_pl HALL.out
      have HK := Lib.hid (HPL.out P k e ps wr hbr (HPW.out _ (bw_trans hb0 hbr)) hk)
      clear hno
      cases hp : plB ss ps n
      · obtain ⟨rfl, rfl⟩ := H2.out (bad_ps hp)
        rw [hp] at HK
        clear hp hnn H2 H9 H3 H0 HMY HAL HSF HLN HGD
        go_wp2_with fail
        refine HK.out.mono ?_
        rintro e w2 ⟨rfl, hb2⟩
        go_wp2
        go_ret2
        exact ⟨rfl, bw_trans (bw_trans hb0 hbr) hb2⟩
      rw [hp] at HK
      by_cases h6 : 6 < l
      · obtain ⟨rfl, rfl⟩ := H2.out (bad_6 (by rw [HLL.out]; exact h6))
        have h6' : (6 : Int) < (l : Int) := by omega
        clear hp hnn H2 H9 H3 H0 HMY HAL HSF HLN HGD
        go_wp2_with fail
        refine HK.out.mono ?_
        rintro e w2 ⟨rfl, hb2⟩
        go_wp2
        go_ret2
        exact ⟨rfl, bw_trans (bw_trans hb0 hbr) hb2⟩
      have h6' : ¬ (6 : Int) < (l : Int) := by omega
      have hbad := bad_no hnn hp (by rw [HLL.out]; exact h6)
      obtain rfl : k = n := by rw [← HLP2.out]; exact (pl_at hp).1
      have HBD := Lib.hid hbad
      have HSF2 := Lib.hid (HSF.out hp HALL.out)
      have HMM := Lib.hid (fun W hW => HMY.out W hW rfl)
      have H9' := Lib.hid (H9.out hbad)
      have H3' := Lib.hid (H3.out hbad)
      have H0' := Lib.hid (H0.out hbad)
      clear hp hnn hbad H2 H9 H3 H0 HMY HSF HPL
      cases hmy : myB bs ps
      · obtain ⟨rfl, rfl⟩ := H9'.out hmy
        rw [hmy] at HMM
        clear hmy H9' H3' H0' HAL HSF2 HLN HGD
        go_wp2_with fail
        refine HK.out.mono ?_
        rintro e w2 ⟨rfl, hb2⟩
        go_wp2_with fail
        refine (HMM.out _ (bw_trans hbr hb2)).mono ?_
        rintro e w3 ⟨rfl, hb3⟩
        go_wp2
        go_ret2
        exact ⟨rfl, bw_trans (bw_trans (bw_trans hb0 hbr) hb2) hb3⟩
      rw [hmy] at HMM
      have H3'' := Lib.hid (H3'.out hmy)
      have H0'' := Lib.hid (H0'.out hmy)
      have HL6 := Lib.hid (fun i (hi : i < l) => HLN.out i (HSF2.out i (by have := HLL.out; omega)))
      have HSM := Lib.hid (fun i (hi : i ≤ l) => sm_le HL6.out i hi)
      clear hmy H9' H3' H0' HLN
      go_wp2_with fail
      refine HK.out.mono ?_
      rintro e w2 ⟨rfl, hb2⟩
      go_wp2_with fail
      refine (HMM.out _ (bw_trans hbr hb2)).mono ?_
      rintro e w3 ⟨rfl, hb3⟩
      have hbx := bw_trans (bw_trans hbr hb2) hb3
      clear HK HMM hb2 hb3 hbr
      go_wp2_with fail
      go_loopg [9, 10, 11] l (fun gh s a x wr => ∃ (i : Nat) (A1 : Option Addr) (c1 : Nat), i ≤ l ∧ gh = l - i ∧ x = .int .i64 (i : Int) ∧ s = .int .i64 ((smS LN i : Nat) : Int) ∧ a = .slice A1 k c1 ∧ Hid (SlI wr A1 k (atS ps pls i)) ∧ Hid (okS FN i = true) ∧ Below (w.alloc (.cells #[.slice A k c, .slice B m d] 33)).heap.size (w.alloc (.cells #[.slice A k c, .slice B m d] 33)) wr)
      case atStart => exact ⟨0, P, e, by omega, by omega, rfl, rfl, rfl, Lib.hid (HPW.out _ (bw_trans hb0 hbx)), Lib.hid rfl, hbx⟩
      case round =>
        clear hbx
        obtain ⟨i, A1, c1, hi, rfl, rfl, rfl, rfl, hat, hok, hbr⟩ := hrel
        by_cases hlt : i < l
        · obtain ⟨b, off, rfl, hbl, A', c', hc, hs, hle⟩ := (HQ0.out _ (bw_trans hb0 hbr)).get hlt
          have hpi := HALL.out i (by rw [HLL.out]; exact hlt)
          have hxl : (pls.getD i []).length = k := (pl_at hpi).1
          rw [hxl] at hc hs
          have hpa := HSF2.out i (by rw [HLL.out]; exact hi)
          obtain ⟨g2, g3⟩ := HGD.out _ hpa
          have HA1 := Lib.hid (HAL.out A1 c1 _ wr hbr hat.out hpa)
          have HF := Lib.hid (fun (A5 : Option Addr) c5 W (hW : Below wr.heap.size wr W) (h : SlW W A5 (TR (atS ps pls i))) => l13Find_any A5 c5 (TR (atS ps pls i)) A' k c' (pls.getD i []) W h (hs.below hW) g3 n4 g2)
          have HFN := Lib.hid (HFN0.out i)
          have HLE := Lib.hid (HLE0.out i)
          have hs0 := HSM.out i hi
          have hl0 := HL6.out i hlt
          have hs1 : smS LN (i + 1) = smS LN i + LN i := rfl
          have HS1 := Lib.hid hs1
          have HNX := Lib.hid (show atS ps pls (i + 1) = pls.getD i [] from rfl)
          have HSN := Lib.hid hs
          have hil : (i : Int) < (l : Int) := by omega
          clear g3 HFN0 HLE0 hpi hxl hpa hat HAL HSF2 HGD HALL HL6 HSM hs hs1
          obtain ⟨xs, hxs⟩ : ∃ xs, pls.getD i [] = xs := ⟨_, rfl⟩
          rw [hxs] at HF HFN HLE HNX HSN
          clear hxs
          obtain ⟨all, hall⟩ : ∃ all, TR (atS ps pls i) = all := ⟨_, rfl⟩
          rw [hall] at HA1 HF HFN HLE g2
          clear hall
          go_wp2_with fail
          refine HA1.out.mono ?_
          rintro e w4 ⟨A5, c5, rfl, hsl, hb4⟩
          have HSL := Lib.hid hsl
          have hc4 := cell_of hb4 hc
          clear hsl HA1
          go_wp2_with fail
          refine (HF.out A5 c5 _ hb4 HSL.out).mono ?_
          rintro e w5 ⟨rfl, hb5⟩
          have HSW := Lib.hid (HSL.out.below hb5)
          have hb45 := bw_trans hb4 hb5
          have hbw5 := bw_trans hbr hb45
          have hc5 := cell_of hb5 hc4
          clear HF HSL hb4 hb5 hc4
          cases hX : hasN all xs
          · obtain ⟨rfl, rfl⟩ := H3''.out (ok_stop (by rw [HFN.out]; exact hX) (by rw [HLL.out]; exact hlt))
            have hfd := fd_no hX
            rw [hfd]
            clear H3'' H0'' hX hfd
            go_wp2
            go_ret2
            exact ⟨rfl, bw_trans hb0 hbw5⟩
          obtain ⟨J, hfd, hJ, _⟩ := fd_yes hX
          rw [hfd, Int.toNat_natCast] at HLE
          rw [hfd]
          have HOK : Hid (okS FN (i + 1) = true) := ok_step hok.out (by rw [HFN.out]; exact hX)
          have hJ0 : ¬ ((J : Int) < 0) := by omega
          have hJ1 : (J : Int) < (all.length : Int) := by omega
          obtain ⟨bb, oo, rfl, _, hcs⟩ := HSW.out
          obtain ⟨-, -, -, hc3⟩ := hcs J hJ
          rw [← HLE.out] at hc3
          clear hcs hX hfd HFN HLE H3'' H0'' hok
          obtain ⟨ln, hln⟩ : ∃ ln, LN i = ln := ⟨_, rfl⟩
          rw [hln] at hl0 HS1 hc3
          clear hln
          go_wp2_with fail
          go_roundg (l - (i + 1))
          case rel => exact ⟨i + 1, A', c', by omega, rfl, by go_num, by rw [HS1.out]; go_num, rfl, by rw [HNX.out]; exact Lib.hid (HSN.out.below hb45), HOK, hbw5⟩
          case measure => omega
        · have hil : i = l := by omega
          have hii : ¬ ((i : Int) < (l : Int)) := by omega
          obtain ⟨rfl, e2⟩ := H0''.out (by rw [HLL.out, ← hil]; exact hok.out)
          have HE := Lib.hid (show ((smS LN i : Nat) : Int) = V by rw [e2, HLL.out, hil])
          clear e2 hil HAL HSF2 HGD HALL HL6 HSM H3'' H0''
          go_wp2
          go_ret2
          exact ⟨by rw [← HE.out]; rfl, bw_trans hb0 hbr⟩
end Go.Proofs.Yticohpimkicphaa
