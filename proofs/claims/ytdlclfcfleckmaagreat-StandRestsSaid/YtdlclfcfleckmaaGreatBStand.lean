/- CheckRest, Grounded and Capacity of the program. -/
import Derived.Test.YtdlclfcfleckmaaGreatBCaps
import Derived.Test.YtdlclfcfleckmaaGreatBRested
namespace Go.Proofs.YtdlclfcfleckmaaGreat
open Go.RowKit

/-- rested, in every case: the error, and what comes with error 0. -/
def RestAll (qs : List (Knd × KAt)) (QA : Option Addr) (qc : Nat) (bs : List Brk) (B : Option Addr) (cb : Nat) (tab : Int) (hands : List Int) (w : World) (e : Ending) (w' : World) : Prop :=
  (restErr (qs.map (·.1)) bs tab hands = 0 ∧ RestPost qs QA qc bs B cb tab hands w e w') ∨ (restErr (qs.map (·.1)) bs tab hands ≠ 0 ∧ e = .returned (.tuple #[.pointer none, .slice none 0 0, .int .i64 (restErr (qs.map (·.1)) bs tab hands)]) ∧ Ext w w')
theorem rested_c (qs : List (Knd × KAt)) (QA : Option Addr) (qc : Nat) (bs : List Brk) (B : Option Addr) (cb : Nat) (tab : Int) (HA : Option Addr) (hc : Nat) (hands : List Int) (w : World) (hk : Kinds w QA qc qs) (hb : Bricks w B cb bs) (hh : IntsZ w HA hc hands) :
    Calls Tryz.prog 51 #[.slice QA qs.length qc, .agg #[.slice B bs.length cb], .agg #[.int .i64 tab, .slice HA hands.length hc]] w (RestAll qs QA qc bs B cb tab hands w) := by
  by_cases h0 : checkErr (qs.map (·.1)) bs = 0
  · refine (rested_good qs QA qc bs B cb tab HA hc hands w hk hb hh h0).mono ?_
    rintro e w' (⟨h1, h2⟩ | ⟨h1, h2, E⟩)
    · exact Or.inl ⟨h1, h2⟩
    · exact Or.inr ⟨by rw [h1]; decide, by rw [h1]; exact h2, E⟩
  · refine (rested_bad qs QA qc bs B cb tab HA hc hands w hk hb _ rfl h0).mono ?_
    rintro e w' ⟨h2, E⟩
    have h1 : restErr (qs.map (·.1)) bs tab hands = checkErr (qs.map (·.1)) bs := restErr_check rfl h0
    exact Or.inr ⟨by rw [h1]; exact h0, by rw [h1]; exact h2, E⟩
set_option maxRecDepth 100000 in
set_option maxHeartbeats 4000000 in
theorem checkRest_c (qs : List (Knd × KAt)) (QA : Option Addr) (qc : Nat) (bs : List Brk) (B : Option Addr) (cb : Nat) (tab : Int) (HA : Option Addr) (hc : Nat) (hands : List Int) (w : World) (hk : Kinds w QA qc qs) (hb : Bricks w B cb bs) (hh : IntsZ w HA hc hands) :
    Calls Tryz.prog 20 #[.slice QA qs.length qc, .agg #[.slice B bs.length cb], .agg #[.int .i64 tab, .slice HA hands.length hc]] w fun e w' => e = .returned (.int .i64 (restErr (qs.map (·.1)) bs tab hands)) ∧ Ext w w' := by
  obtain ⟨W1, hW1, E1, B1, hz1⟩ := mk_ w #[.slice B bs.length cb] 25
  obtain ⟨W2, hW2, E2, B2, hz2⟩ := mk_ W1 #[.int .i64 tab, .slice HA hands.length hc] 28
  have E := E1.trans E2
  have b1 := (B1.ext E2).cell
  have b2 := B2.cell
  have RE := rested_c qs QA qc bs B cb tab HA hc hands W2 (hk.ext E) (hb.ext E) (hh.ext E)
  clear hz1 hz2 B1 B2 E1 E2
  go_enter Tryz.func20, Tryz.ntmps20
  go_wp2_with fail
  refine RE.mono ?_
  rintro e w' (⟨h0, X, CA, cc, M, JA, jc, gs, cp, mm, GA, gc, rfl, hX, BU, BZ, E'⟩ | ⟨h0, rfl, E'⟩)
  · have EE := Lib.hid (E.trans E')
    have H0 := Lib.hid h0
    clear E E' BU BZ hX h0 RE
    go_wp2_with fail
    refine bodyPost_ret (v := .int .i64 0) (by simp [results, Tryz.results20, go_sem]) rfl ?_
    exact ⟨by rw [H0.out], EE.out⟩
  · have EE := Lib.hid (E.trans E')
    obtain ⟨r, hr⟩ : ∃ r, restErr (qs.map (·.1)) bs tab hands = r := ⟨_, rfl⟩
    have Hr := Lib.hid hr
    rw [hr] at h0
    rw [hr]
    clear E E' RE hr
    go_wp2_with fail
    refine bodyPost_ret (v := .int .i64 r) (by simp [results, Tryz.results20, go_sem]) rfl ?_
    exact ⟨by rw [Hr.out], EE.out⟩
/-- The grounded bricks with error 0; else none. -/
def grdE (ks : List Knd) (bs : List Brk) (tab : Int) (hands : List Int) : List Bool := if restErr ks bs tab hands = 0 then grdL ks bs tab hands bs.length else []
def GrdPost (ks : List Knd) (bs : List Brk) (tab : Int) (hands : List Int) (w : World) (e : Ending) (w' : World) : Prop :=
  ∃ GA gc, e = .returned (.tuple #[.slice GA (grdE ks bs tab hands).length gc, .int .i64 (restErr ks bs tab hands)]) ∧ BoolsZ w' GA gc (grdE ks bs tab hands) ∧ Ext w w'
set_option maxRecDepth 100000 in
set_option maxHeartbeats 4000000 in
theorem grounded_c (qs : List (Knd × KAt)) (QA : Option Addr) (qc : Nat) (bs : List Brk) (B : Option Addr) (cb : Nat) (tab : Int) (HA : Option Addr) (hc : Nat) (hands : List Int) (w : World) (hk : Kinds w QA qc qs) (hb : Bricks w B cb bs) (hh : IntsZ w HA hc hands) :
    Calls Tryz.prog 17 #[.slice QA qs.length qc, .agg #[.slice B bs.length cb], .agg #[.int .i64 tab, .slice HA hands.length hc]] w (GrdPost (qs.map (·.1)) bs tab hands w) := by
  obtain ⟨W1, hW1, E1, B1, hz1⟩ := mk_ w #[.slice B bs.length cb] 25
  obtain ⟨W2, hW2, E2, B2, hz2⟩ := mk_ W1 #[.int .i64 tab, .slice HA hands.length hc] 28
  have E := E1.trans E2
  have b1 := (B1.ext E2).cell
  have b2 := B2.cell
  have RE := rested_c qs QA qc bs B cb tab HA hc hands W2 (hk.ext E) (hb.ext E) (hh.ext E)
  clear hz1 hz2 B1 B2 E1 E2
  go_enter Tryz.func17, Tryz.ntmps17
  go_wp2_with fail
  refine RE.mono ?_
  rintro e w' (⟨h0, X, CA, cc, M, JA, jc, gs, cp, mm, GA, gc, rfl, hX, BU, BZ, E'⟩ | ⟨h0, rfl, E'⟩)
  · have EE := Lib.hid (E.trans E')
    have H0 := Lib.hid h0
    have HZ := Lib.hid BZ
    clear E E' BU BZ hX h0 RE
    go_wp2_with fail
    refine bodyPost_ret (v := .tuple #[.slice GA bs.length gc, .int .i64 0]) (by simp [results, Tryz.results17, go_sem]) rfl ?_
    have hg : grdE (qs.map (·.1)) bs tab hands = grdL (qs.map (·.1)) bs tab hands bs.length := if_pos H0.out
    refine ⟨GA, gc, ?_, ?_, EE.out⟩
    · rw [hg, grdL_len, H0.out]
    · rw [hg]
      exact HZ.out
  · have EE := Lib.hid (E.trans E')
    have H0 := Lib.hid h0
    obtain ⟨r, hr⟩ : ∃ r, restErr (qs.map (·.1)) bs tab hands = r := ⟨_, rfl⟩
    have Hr := Lib.hid hr
    rw [hr]
    clear E E' RE hr h0
    go_wp2_with fail
    refine bodyPost_ret (v := .tuple #[.slice none 0 0, .int .i64 r]) (by simp [results, Tryz.results17, go_sem]) rfl ?_
    have hg : grdE (qs.map (·.1)) bs tab hands = [] := if_neg H0.out
    refine ⟨none, 0, ?_, ?_, EE.out⟩
    · rw [hg, Hr.out]
      rfl
    · rw [hg]
      exact ⟨rfl, Nat.le_refl _, Nat.zero_le _, by simp, fun h => absurd h (Nat.lt_irrefl 0)⟩
/-- The error of Capacity. -/
def pairBad (n : Nat) (i k : Int) : Bool := !(inB 0 ((n : Int) - 1) i) || !(inB 0 ((n : Int) - 1) k) || i == k
def capErr (ks : List Knd) (bs : List Brk) (i k : Int) : Int := if checkErr ks bs = 0 then (if pairBad bs.length i k = true then 2 else 0) else checkErr ks bs
def capR (ks : List Knd) (bs : List Brk) (i k : Int) : Int := if capErr ks bs i k = 0 then capV ks bs i.toNat k.toNat else 0
theorem pairBad_cases (n : Nat) (i k : Int) : (pairBad n i k = true ∧ (i < 0 ∨ (0 ≤ i ∧ (n : Int) ≤ i) ∨ (0 ≤ i ∧ i < n ∧ k < 0) ∨ (0 ≤ i ∧ i < n ∧ 0 ≤ k ∧ (n : Int) ≤ k) ∨ (0 ≤ i ∧ i < n ∧ 0 ≤ k ∧ k < n ∧ i = k))) ∨ (pairBad n i k = false ∧ 0 ≤ i ∧ i < n ∧ 0 ≤ k ∧ k < n ∧ i ≠ k) := by
  unfold pairBad
  by_cases h1 : inB 0 ((n : Int) - 1) i = true
  · by_cases h2 : inB 0 ((n : Int) - 1) k = true
    · have h1' := inB_iff.1 h1
      have h2' := inB_iff.1 h2
      by_cases h3 : i = k
      · refine Or.inl ⟨by simp [h3], ?_⟩
        omega
      · refine Or.inr ⟨?_, by omega, by omega, by omega, by omega, h3⟩
        rw [h1, h2, beq_eq_false_iff_ne.2 h3]
        rfl
    · rw [inB_iff] at h2
      have h1' := inB_iff.1 h1
      refine Or.inl ⟨?_, by omega⟩
      rw [← inB_iff, Bool.not_eq_true] at h2
      rw [h2]
      simp
  · have h2 := h1
    rw [inB_iff] at h2
    rw [Bool.not_eq_true] at h1
    rw [h1]
    exact Or.inl ⟨by simp, by omega⟩
set_option maxRecDepth 100000 in
set_option maxHeartbeats 8000000 in
theorem capacity_c (qs : List (Knd × KAt)) (QA : Option Addr) (qc : Nat) (bs : List Brk) (B : Option Addr) (cb : Nat) (i k : Int) (w : World) (hk : Kinds w QA qc qs) (hb : Bricks w B cb bs) :
    Calls Tryz.prog 22 #[.slice QA qs.length qc, .agg #[.slice B bs.length cb], .int .i64 i, .int .i64 k] w fun e w' => e = .returned (.tuple #[.int .i64 (capR (qs.map (·.1)) bs i k), .int .i64 (capErr (qs.map (·.1)) bs i k)]) ∧ Ext w w' := by
  obtain ⟨W1, hW1, E1, B1, hz1⟩ := mk_ w #[.slice B bs.length cb] 25
  have b1 := B1.cell
  by_cases h0 : checkErr (qs.map (·.1)) bs = 0
  · have BU := build_ok qs QA qc bs B cb W1 (hk.ext E1) (hb.ext E1) h0
    have HF := Lib.hid (fit_of hk hb.2 h0)
    have hn := HF.out.n
    have hce : capErr (qs.map (·.1)) bs i k = if pairBad bs.length i k = true then 2 else 0 := if_pos h0
    have HB := Lib.hid B1
    clear hz1 h0
    go_enter Tryz.func22, Tryz.ntmps22
    go_wp2_with fail
    clear hW1 b1
    refine BU.mono ?_
    rintro e W2 ⟨X, CA, cc, M, JA, jc, gs, cp, mm, rfl, hX, BT, E2⟩
    have b2 := (HB.out.ext E2).cell
    have CC := capacities_c X qs QA qc bs B cb CA cc M JA jc gs cp mm W2 BT HF.out
    have EE := Lib.hid (E1.trans E2)
    clear BT E1 E2 hX BU
    go_upto_region 5 with (fail)
    clear b2
    rcases pairBad_cases bs.length i k with ⟨hp, hc⟩ | ⟨hp, i0, i1, k0, k1, hik⟩
    · have he2 : capErr (qs.map (·.1)) bs i k = 2 := by rw [hce, if_pos hp]
      have hr : capR (qs.map (·.1)) bs i k = 0 := by
        unfold capR
        rw [if_neg (by rw [he2]; decide)]
      have HR := Lib.hid hr
      have HE2 := Lib.hid he2
      clear hce hp hr he2 CC
      rcases hc with h1 | ⟨h1, h2⟩ | ⟨h1, h2, h3⟩ | ⟨h1, h2, h3, h4⟩ | ⟨h1, h2, h3, h4, rfl⟩
      · go_wp2_with fail
        refine bodyPost_ret (v := .tuple #[.int .i64 0, .int .i64 2]) (by simp [results, Tryz.results22, go_sem]) rfl ⟨by rw [HR.out, HE2.out], EE.out⟩
      · go_wp2_with fail
        refine bodyPost_ret (v := .tuple #[.int .i64 0, .int .i64 2]) (by simp [results, Tryz.results22, go_sem]) rfl ⟨by rw [HR.out, HE2.out], EE.out⟩
      · go_wp2_with fail
        refine bodyPost_ret (v := .tuple #[.int .i64 0, .int .i64 2]) (by simp [results, Tryz.results22, go_sem]) rfl ⟨by rw [HR.out, HE2.out], EE.out⟩
      · go_wp2_with fail
        refine bodyPost_ret (v := .tuple #[.int .i64 0, .int .i64 2]) (by simp [results, Tryz.results22, go_sem]) rfl ⟨by rw [HR.out, HE2.out], EE.out⟩
      · go_wp2_with fail
        refine bodyPost_ret (v := .tuple #[.int .i64 0, .int .i64 2]) (by simp [results, Tryz.results22, go_sem]) rfl ⟨by rw [HR.out, HE2.out], EE.out⟩
    · have he2 : capErr (qs.map (·.1)) bs i k = 0 := by rw [hce, hp]; rfl
      have hr : capR (qs.map (·.1)) bs i k = capV (qs.map (·.1)) bs i.toNat k.toNat := by
        unfold capR
        rw [if_pos he2]
      have HR := Lib.hid hr
      have HE2 := Lib.hid he2
      clear hce hp hr he2
      obtain ⟨a, rfl⟩ : ∃ a : Nat, i = a := ⟨i.toNat, by omega⟩
      obtain ⟨b, rfl⟩ : ∃ b : Nat, k = b := ⟨k.toNat, by omega⟩
      have hne : ((a : Int) == b) = false := beq_eq_false_iff_ne.2 hik
      have a2 : (a : Int) < 40 := by omega
      have b2 : (b : Int) < 40 := by omega
      go_wp2_with fail
      refine CC.mono ?_
      rintro e W3 ⟨G, f, rfl, hG, hM, hf, E3⟩
      have cM := MatB.cell hM (a := a) (b := b) (by omega) (by omega)
      have hv := hf a (by omega) b (by omega)
      have HV := Lib.hid hv
      have E9 := Lib.hid (EE.out.trans E3)
      clear hf hv hG hM E3
      go_wp2_with fail
      refine bodyPost_ret (v := .tuple #[.int .i64 (f a b), .int .i64 0]) (by simp [results, Tryz.results22, go_sem]) rfl ⟨by rw [HR.out, HE2.out, HV.out]; rfl, E9.out⟩
  · have BU := build_bad qs QA qc bs B cb W1 (hk.ext E1) (hb.ext E1) _ rfl h0
    obtain ⟨r, hr⟩ : ∃ r, checkErr (qs.map (·.1)) bs = r := ⟨_, rfl⟩
    have he : capErr (qs.map (·.1)) bs i k = r := by rw [← hr]; exact if_neg h0
    have hR : capR (qs.map (·.1)) bs i k = 0 := by
      unfold capR
      rw [if_neg (by rw [he, ← hr]; exact h0)]
    rw [hr] at BU h0
    have HR := Lib.hid hR
    have HE := Lib.hid he
    have h1 : (r != 0) = true := by simpa using h0
    clear hz1 hr hR he B1 h0
    go_enter Tryz.func22, Tryz.ntmps22
    go_wp2_with fail
    refine BU.mono ?_
    rintro e W2 ⟨rfl, E2⟩
    have EE := Lib.hid (E1.trans E2)
    clear E1 E2
    go_wp2_with fail
    refine bodyPost_ret (v := .tuple #[.int .i64 0, .int .i64 r]) (by simp [results, Tryz.results22, go_sem]) rfl ⟨by rw [HR.out, HE.out], EE.out⟩
end Go.Proofs.YtdlclfcfleckmaaGreat
