/- sets and Check of the program. -/
import Derived.Test.YtpikemglnnjemaaLook1
import Derived.Test.YtpikemglnnjemaaSet
namespace Go.Proofs.Ytpikemglnnjemaa
open Go.RowKit

/-- What sets hands back for a composition. -/
def SetsOk (s : Shape) (l : List Plate) (c : List Laid) (A : Option Addr) (cap : Nat) (PA : Option Addr) (pcap : Nat) (w : World) (e : Ending) (w' : World) : Prop :=
  ∃ g NA ncap AA acap EA ecap OA ocap LA lcap ms SA sc, ∃ out : List Nat, ∃ all, e = .returned (.tuple #[.pointer (some ⟨g, 0, none⟩), .slice SA out.length sc, .int .i64 0]) ∧ Board w' g s A cap l PA pcap NA ncap AA acap EA ecap OA ocap LA lcap ms ∧
    SliceIs w' SA out.length sc 1 (out.map fun m => [uv m]) ∧ setRun s l c c.length = some (out, all) ∧ all = 2 ^ fullN s.cells - 1 ∧ Ext w w'
set_option maxRecDepth 100000 in
set_option maxHeartbeats 2000000 in
theorem sets_ok (s : Shape) (A : Option Addr) (cap : Nat) (l : List Plate) (PA : Option Addr) (pcap : Nat) (c : List Laid) (CA : Option Addr) (ccap : Nat) (hv : s.valid = true) (hp : platesB l = true) (hc : compB s l c = true) (hclen : c.length ≤ 1000) (w : World)
    (hs : Bytes w A cap s.cells) (hl : Plates w PA pcap l) (hcs : Laids w CA ccap c) :
    Calls Try.prog 29 #[.agg #[.int .i64 s.W, .int .i64 s.D, .int .i64 s.H, .slice A s.cells.length cap], .slice PA l.length pcap, .slice CA c.length ccap] w (SetsOk s l c A cap PA pcap w) := by
  obtain ⟨W1, hW1, E1, B1, hz1⟩ := box_ w #[.int .i64 s.W, .int .i64 s.D, .int .i64 s.H, .slice A s.cells.length cap] 25
  have b1 := B1.cell
  have ok := Shape.ok_of hv
  have Hset : Hid (setB s l c = true) := Lib.hid ((set_comp ok).trans hc)
  have Hv := Lib.hid hv
  clear hc hv
  go_enter Try.func29, Try.ntmps29
  go_wp2_with fail
  refine (look_ok s l A cap PA pcap Hv.out hp _ (hs.ext E1) (hl.ext E1)).mono ?_
  rintro e w2 ⟨g, NA, ncap, AA, acap, EA, ec, OA, oc, LA, lc, ms, rfl, hB, E2⟩
  go_wp2_with fail
  refine (set_c g s A cap l PA pcap NA ncap AA acap EA ec OA oc LA lc ms c CA ccap ok hp hclen _ hB ((hcs.ext E1).ext E2)).mono ?_
  rintro e w3 ⟨⟨SA, sc, out, rfl, hres⟩, E3⟩
  rw [Hset.out]
  have Hres := Lib.hid (hres Hset.out)
  have HB := Lib.hid (hB.ext E3)
  clear hB hres
  go_wp2_with fail
  go_ret3
  obtain ⟨h1, all, h2, h3⟩ := Hres.out
  exact ⟨g, NA, ncap, AA, acap, EA, ec, OA, oc, LA, lc, ms, SA, sc, out, all, rfl, HB.out, h1, h2, h3, (E1.trans E2).trans E3⟩
set_option maxRecDepth 100000 in
set_option maxHeartbeats 2000000 in
theorem sets_bad (s : Shape) (A : Option Addr) (cap : Nat) (l : List Plate) (PA : Option Addr) (pcap : Nat) (c : List Laid) (CA : Option Addr) (ccap : Nat) (e0 : Int) (he : compErr s l c = e0) (h0 : e0 ≠ 0) (hclen : c.length ≤ 1000) (w : World)
    (hs : Bytes w A cap s.cells) (hl : Plates w PA pcap l) (hcs : Laids w CA ccap c) :
    Calls Try.prog 29 #[.agg #[.int .i64 s.W, .int .i64 s.D, .int .i64 s.H, .slice A s.cells.length cap], .slice PA l.length pcap, .slice CA c.length ccap] w fun e w' =>
      e = .returned (.tuple #[.pointer none, .slice none 0 0, .int .i64 e0]) ∧ Ext w w' := by
  obtain ⟨W1, hW1, E1, B1, hz1⟩ := box_ w #[.int .i64 s.W, .int .i64 s.D, .int .i64 s.H, .slice A s.cells.length cap] 25
  have b1 := B1.cell
  by_cases hv : s.valid = true ∧ platesB l = true
  · obtain ⟨hv, hp⟩ := hv
    have ok := Shape.ok_of hv
    unfold compErr at he
    rw [if_pos hv, if_pos hp] at he
    have hcf : compB s l c = false := by
      cases hh : compB s l c
      · rfl
      · rw [hh] at he
        exact absurd he.symm h0
    rw [hcf] at he
    have he8 : e0 = 8 := he.symm
    subst he8
    have Hset : Hid (setB s l c = false) := Lib.hid ((set_comp ok).trans hcf)
    have Hv := Lib.hid hv
    clear hcf hv he h0
    go_enter Try.func29, Try.ntmps29
    go_wp2_with fail
    refine (look_ok s l A cap PA pcap Hv.out hp _ (hs.ext E1) (hl.ext E1)).mono ?_
    rintro e w2 ⟨g, NA, ncap, AA, acap, EA, ec, OA, oc, LA, lc, ms, rfl, hB, E2⟩
    go_wp2_with fail
    refine (set_c g s A cap l PA pcap NA ncap AA acap EA ec OA oc LA lc ms c CA ccap ok hp hclen _ hB ((hcs.ext E1).ext E2)).mono ?_
    rintro e w3 ⟨⟨SA, sc, out, rfl, hres⟩, E3⟩
    rw [Hset.out]
    clear hB hres
    go_wp2_with fail
    go_ret3
    exact ⟨rfl, (E1.trans E2).trans E3⟩
  · have he2 : (if s.valid = true then platesErr l else 70) = e0 := by
      unfold compErr at he
      unfold platesErr
      by_cases h1 : s.valid = true
      · rw [if_pos h1] at he ⊢
        have h2 : ¬ platesB l = true := fun h => hv ⟨h1, h⟩
        rw [if_neg h2] at he ⊢
        exact he
      · rw [if_neg h1] at he ⊢
        exact he
    have He2 := Lib.hid he2
    have h0b : (e0 == 0) = false := by simpa using h0
    have h0c : (e0 != 0) = true := by simpa using h0
    have H0 := Lib.hid h0
    clear he he2 hv h0
    go_enter Try.func29, Try.ntmps29
    go_wp2_with fail
    refine (look_bad s l A cap PA pcap e0 He2.out H0.out _ (hs.ext E1) (hl.ext E1)).mono ?_
    rintro e w2 ⟨rfl, E2⟩
    go_wp2_with fail
    go_ret3
    exact ⟨rfl, E1.trans E2⟩
set_option maxRecDepth 100000 in
set_option maxHeartbeats 2000000 in
theorem check_c (s : Shape) (A : Option Addr) (cap : Nat) (l : List Plate) (PA : Option Addr) (pcap : Nat) (c : List Laid) (CA : Option Addr) (ccap : Nat) (hclen : c.length ≤ 1000) (w : World)
    (hs : Bytes w A cap s.cells) (hl : Plates w PA pcap l) (hcs : Laids w CA ccap c) :
    Calls Try.prog 22 #[.agg #[.int .i64 s.W, .int .i64 s.D, .int .i64 s.H, .slice A s.cells.length cap], .slice PA l.length pcap, .slice CA c.length ccap] w fun e w' =>
      e = .returned (.int .i64 (compErr s l c)) ∧ Ext w w' := by
  obtain ⟨W1, hW1, E1, B1, hz1⟩ := box_ w #[.int .i64 s.W, .int .i64 s.D, .int .i64 s.H, .slice A s.cells.length cap] 25
  have b1 := B1.cell
  obtain ⟨e0, he⟩ : ∃ e0, compErr s l c = e0 := ⟨_, rfl⟩
  have He := Lib.hid he
  by_cases h0 : e0 = 0
  · subst h0
    have h3 : s.valid = true ∧ platesB l = true ∧ compB s l c = true := by
      unfold compErr at he
      split at he
      · split at he
        · split at he
          · exact ⟨by assumption, by assumption, by assumption⟩
          · omega
        · omega
      · omega
    have H3 := Lib.hid h3
    clear he h3
    go_enter Try.func22, Try.ntmps22
    go_wp2_with fail
    refine (sets_ok s A cap l PA pcap c CA ccap H3.out.1 H3.out.2.1 H3.out.2.2 hclen _ (hs.ext E1) (hl.ext E1) (hcs.ext E1)).mono ?_
    rintro e w2 ⟨g, NA, ncap, AA, acap, EA, ec, OA, oc, LA, lc, ms, SA, sc, out, all, rfl, -, -, -, -, E2⟩
    go_wp2_with fail
    go_ret
    exact ⟨by rw [He.out]; rfl, E1.trans E2⟩
  · have H0 := Lib.hid h0
    clear he h0
    go_enter Try.func22, Try.ntmps22
    go_wp2_with fail
    refine (sets_bad s A cap l PA pcap c CA ccap e0 He.out H0.out hclen _ (hs.ext E1) (hl.ext E1) (hcs.ext E1)).mono ?_
    rintro e w2 ⟨rfl, E2⟩
    go_wp2_with fail
    go_ret
    exact ⟨by rw [He.out]; rfl, E1.trans E2⟩
end Go.Proofs.Ytpikemglnnjemaa
