/- Capacity and Great of the reference; bools of the law. -/
import Derived.Test.YtdlclfcfleckmaaGreatBPutW
import Derived.Test.YtdlclfcfleckmaaGreatBApi
namespace Go.Proofs.YtdlclfcfleckmaaGreat
open Go.RowKit

set_option maxRecDepth 100000 in
set_option maxHeartbeats 8000000 in
theorem rCapacity_c (qs : List (Knd × KAt)) (QA : Option Addr) (qc : Nat) (bs : List Brk) (B : Option Addr) (cb : Nat) (i k : Int) (w : World) (hk : Kinds w QA qc qs) (hb : Bricks w B cb bs) :
    Calls Tryz.prog 23 #[.slice QA qs.length qc, .agg #[.slice B bs.length cb], .int .i64 i, .int .i64 k] w fun e w' => e = .returned (.tuple #[.int .i64 (capR (qs.map (·.1)) bs i k), .int .i64 (capErr (qs.map (·.1)) bs i k)]) ∧ Ext w w' := by
  obtain ⟨W1, hW1, E1, B1, hz1⟩ := mk_ w #[.slice B bs.length cb] 25
  have b1 := B1.cell
  have CK := rCheck_c qs QA qc bs B cb W1 (hk.ext E1) (hb.ext E1)
  by_cases h0 : checkErr (qs.map (·.1)) bs = 0
  · have HF := Lib.hid (fit_of hk hb.2 h0)
    have hn := HF.out.n
    have hce : capErr (qs.map (·.1)) bs i k = if pairBad bs.length i k = true then 2 else 0 := if_pos h0
    have HB := Lib.hid B1
    have PT := Lib.hid (fun (W : World) (E : Ext w W) => rPut_c qs QA qc bs B cb W (hk.ext E) (hb.ext E) h0)
    have WI := Lib.hid (fun (W : World) => within3_c i 0 ((bs.length : Int) - 1) W)
    have WK := Lib.hid (fun (W : World) => within3_c k 0 ((bs.length : Int) - 1) W)
    obtain ⟨p1, hp1⟩ : ∃ b, inB 0 ((bs.length : Int) - 1) i = b := ⟨_, rfl⟩
    obtain ⟨p2, hp2⟩ : ∃ b, inB 0 ((bs.length : Int) - 1) k = b := ⟨_, rfl⟩
    rw [hp1] at WI
    rw [hp2] at WK
    have hpb : pairBad bs.length i k = (!p1 || !p2 || i == k) := by unfold pairBad; rw [hp1, hp2]
    have HE1 := Lib.hid E1
    rw [h0] at CK
    have Hp1 := Lib.hid hp1
    have Hp2 := Lib.hid hp2
    clear hz1 h0 hp1 hp2 E1 B1 hk hb
    go_enter Tryz.func23, Tryz.ntmps23
    go_wp2_with fail
    clear hW1 b1
    refine CK.mono ?_
    rintro e W2 ⟨rfl, E2⟩
    have b1 := (HB.out.ext E2).cell
    go_wp2_with fail
    refine (WI.out _).mono ?_
    rintro e W3 ⟨rfl, E3⟩
    have E13 := (HE1.out.trans E2).trans E3
    have b1 := ((HB.out.ext E2).ext E3).cell
    have HB3 := Lib.hid ((HB.out.ext E2).ext E3)
    clear E2 E3
    cases p1
    · have he2 : capErr (qs.map (·.1)) bs i k = 2 := by rw [hce, hpb, if_pos (by simp)]
      have hr : capR (qs.map (·.1)) bs i k = 0 := by
        unfold capR
        rw [if_neg (by rw [he2]; decide)]
      have HR := Lib.hid hr
      have HE2 := Lib.hid he2
      have EE := Lib.hid E13
      clear hce hr he2
      go_wp2_with fail
      refine bodyPost_ret (v := .tuple #[.int .i64 0, .int .i64 2]) (by simp [results, Tryz.results23, go_sem]) rfl ⟨by rw [HR.out, HE2.out], EE.out⟩
    · go_wp2_with fail
      refine (WK.out _).mono ?_
      rintro e W4 ⟨rfl, E4⟩
      have E14 := E13.trans E4
      have b1 := (HB3.out.ext E4).cell
      clear E13 E4
      cases p2
      · have he2 : capErr (qs.map (·.1)) bs i k = 2 := by rw [hce, hpb, if_pos (by simp)]
        have hr : capR (qs.map (·.1)) bs i k = 0 := by
          unfold capR
          rw [if_neg (by rw [he2]; decide)]
        have HR := Lib.hid hr
        have HE2 := Lib.hid he2
        have EE := Lib.hid E14
        clear hce hr he2
        go_wp2_with fail
        refine bodyPost_ret (v := .tuple #[.int .i64 0, .int .i64 2]) (by simp [results, Tryz.results23, go_sem]) rfl ⟨by rw [HR.out, HE2.out], EE.out⟩
      · by_cases hik : i = k
        · have hq : (i == k) = true := beq_iff_eq.2 hik
          have he2 : capErr (qs.map (·.1)) bs i k = 2 := by rw [hce, hpb, if_pos (by rw [hq]; rfl)]
          have hr : capR (qs.map (·.1)) bs i k = 0 := by
            unfold capR
            rw [if_neg (by rw [he2]; decide)]
          have HR := Lib.hid hr
          have HE2 := Lib.hid he2
          have EE := Lib.hid E14
          clear hce hr he2
          go_wp2_with fail
          refine bodyPost_ret (v := .tuple #[.int .i64 0, .int .i64 2]) (by simp [results, Tryz.results23, go_sem]) rfl ⟨by rw [HR.out, HE2.out], EE.out⟩
        · have hne : (i == k) = false := beq_eq_false_iff_ne.2 hik
          have he2 : capErr (qs.map (·.1)) bs i k = 0 := by rw [hce, hpb, hne]; rfl
          have hr : capR (qs.map (·.1)) bs i k = capV (qs.map (·.1)) bs i.toNat k.toNat := by
            unfold capR
            rw [if_pos he2]
          have HR := Lib.hid hr
          have HE2 := Lib.hid he2
          have i1 := inB_iff.1 Hp1.out
          have k1 := inB_iff.1 Hp2.out
          obtain ⟨a, rfl⟩ : ∃ a : Nat, i = a := ⟨i.toNat, by omega⟩
          obtain ⟨b, rfl⟩ : ∃ b : Nat, k = b := ⟨k.toNat, by omega⟩
          have PU := PT.out _ E14
          have HE14 := Lib.hid E14
          have a0 : (0 : Int) ≤ a := by omega
          have a1 : (a : Int) < bs.length := by omega
          have b0 : (0 : Int) ≤ b := by omega
          have b2 : (b : Int) < bs.length := by omega
          have a3 : a < bs.length := by omega
          have b3 : b < bs.length := by omega
          clear hce hr he2 hpb i1 k1 E14
          go_wp2_with fail
          refine PU.mono ?_
          rintro e W5 ⟨U, A, cap, gs, f, hU, rfl, own, hPR, hv, E5⟩
          obtain ⟨PG, rfl, cA, -⟩ := ownAt own (t := a) a3 (plC_at a3)
          have cV := hPR.cell a3 b3
          have HV := Lib.hid hv
          have EE := Lib.hid (HE14.out.trans E5)
          clear own hPR hv E5 hU b1
          go_wp2_with fail
          refine bodyPost_ret (v := .tuple #[.int .i64 (f a b), .int .i64 0]) (by simp [results, Tryz.results23, go_sem]) rfl ⟨by rw [HR.out, HE2.out, HV.out]; rfl, EE.out⟩
  · obtain ⟨r, hr⟩ : ∃ r, checkErr (qs.map (·.1)) bs = r := ⟨_, rfl⟩
    have he : capErr (qs.map (·.1)) bs i k = r := by rw [← hr]; exact if_neg h0
    have hR : capR (qs.map (·.1)) bs i k = 0 := by
      unfold capR
      rw [if_neg (by rw [he, ← hr]; exact h0)]
    rw [hr] at CK h0
    have HR := Lib.hid hR
    have HE := Lib.hid he
    have h1 : (r != 0) = true := by simpa using h0
    clear hz1 hr hR he B1 h0
    go_enter Tryz.func23, Tryz.ntmps23
    go_wp2_with fail
    refine CK.mono ?_
    rintro e W2 ⟨rfl, E2⟩
    have EE := Lib.hid (E1.trans E2)
    clear E1 E2
    go_wp2_with fail
    refine bodyPost_ret (v := .tuple #[.int .i64 0, .int .i64 r]) (by simp [results, Tryz.results23, go_sem]) rfl ⟨by rw [HR.out, HE.out], EE.out⟩
end Go.Proofs.YtdlclfcfleckmaaGreat
