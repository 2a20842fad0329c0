/- The given statement ComposeChecksCardSaid: for every input the law returns true, and each argument reads behind the call as it did; the listed table is tied to the program's text. No other conditions. -/
import Derived.Test.YtpikemglnnjemaaDoorCk8
import Derived.ProofKit
import Derived.Deep.Slices
import Derived.Carry
import Derived.OpenShut
import Derived.Lib.SmallJoins
import Derived.Test.YtpikemglnnjemaaDoorTie
import Derived.Test.YtpikemglnnjemaaDoorCards
import Derived.LaidMore
import Derived.Lib.LaidTab
import Derived.SevenTiedAt

namespace Go.Proofs.YtpikemglnnjemaaDoor
open Go.RowKit

/-- What sets hands back for a composition. -/
def SetsOk (s : Shape) (l : List Plate) (c : List Laid) (A : Option Addr) (cap : Nat) (PA : Option Addr) (pcap : Nat) (w : World) (e : Ending) (w' : World) : Prop :=
  ∃ g NA ncap AA acap EA ecap OA ocap LA lcap ms SA sc, ∃ out : List Nat, ∃ all, e = .returned (.tuple #[.pointer (some ⟨g, 0, none⟩), .slice SA out.length sc, .int .i64 0]) ∧ Board w' g s A cap l PA pcap NA ncap AA acap EA ecap OA ocap LA lcap ms ∧
    SliceIs w' SA out.length sc 1 (out.map fun m => [uv m]) ∧ setRun s l c c.length = some (out, all) ∧ all = 2 ^ fullN s.cells - 1 ∧ Ext w w'
set_option maxRecDepth 100000 in
set_option maxHeartbeats 2000000 in
theorem sets_ok (s : Shape) (A : Option Addr) (cap : Nat) (l : List Plate) (PA : Option Addr) (pcap : Nat) (c : List Laid) (CA : Option Addr) (ccap : Nat) (hv : s.valid = true) (hp : platesB l = true) (hc : compB s l c = true) (hclen : c.length ≤ 1000) (w : World)
    (hs : Bytes w A cap s.cells) (hl : Plates w PA pcap l) (hcs : Laids w CA ccap c) :
    Calls Tryd.prog 48 #[.agg #[.int .i64 s.W, .int .i64 s.D, .int .i64 s.H, .slice A s.cells.length cap], .slice PA l.length pcap, .slice CA c.length ccap] w (SetsOk s l c A cap PA pcap w) := by
  obtain ⟨W1, hW1, E1, B1, hz1⟩ := box_ w #[.int .i64 s.W, .int .i64 s.D, .int .i64 s.H, .slice A s.cells.length cap] 24
  have b1 := B1.cell
  have ok := Shape.ok_of hv
  have Hset : Hid (setB s l c = true) := Lib.hid ((set_comp ok).trans hc)
  have Hv := Lib.hid hv
  clear hc hv
  go_enter Tryd.func48, Tryd.ntmps48
  go_wp2_with fail
  refine (look_ok s l A cap PA pcap Hv.out hp _ (hs.ext E1) (hl.ext E1)).mono ?_
  rintro e w2 ⟨g, NA, ncap, AA, acap, EA, ec, OA, oc, LA, lc, ms, rfl, hB, E2⟩
  go_wp2_with fail
  refine (set_c g s A cap l PA pcap NA ncap AA acap EA ec OA oc LA lc ms c CA ccap ok hp hclen _ hB ((hcs.ext E1).ext E2)).mono ?_
  rintro e w3 ⟨⟨SA, sc, out, rfl, hres⟩, E3⟩
  rw [Hset.out]
  have Hres := Lib.hid (hres Hset.out)
  have HB := Lib.hid (hB.ext E3)
  clear hB hres
  go_wp2_with fail
  go_ret3
  obtain ⟨h1, all, h2, h3⟩ := Hres.out
  exact ⟨g, NA, ncap, AA, acap, EA, ec, OA, oc, LA, lc, ms, SA, sc, out, all, rfl, HB.out, h1, h2, h3, (E1.trans E2).trans E3⟩
set_option maxRecDepth 100000 in
set_option maxHeartbeats 2000000 in
theorem sets_bad (s : Shape) (A : Option Addr) (cap : Nat) (l : List Plate) (PA : Option Addr) (pcap : Nat) (c : List Laid) (CA : Option Addr) (ccap : Nat) (e0 : Int) (he : compErr s l c = e0) (h0 : e0 ≠ 0) (hclen : c.length ≤ 1000) (w : World)
    (hs : Bytes w A cap s.cells) (hl : Plates w PA pcap l) (hcs : Laids w CA ccap c) :
    Calls Tryd.prog 48 #[.agg #[.int .i64 s.W, .int .i64 s.D, .int .i64 s.H, .slice A s.cells.length cap], .slice PA l.length pcap, .slice CA c.length ccap] w fun e w' =>
      e = .returned (.tuple #[.pointer none, .slice none 0 0, .int .i64 e0]) ∧ Ext w w' := by
  obtain ⟨W1, hW1, E1, B1, hz1⟩ := box_ w #[.int .i64 s.W, .int .i64 s.D, .int .i64 s.H, .slice A s.cells.length cap] 24
  have b1 := B1.cell
  by_cases hv : s.valid = true ∧ platesB l = true
  · obtain ⟨hv, hp⟩ := hv
    have ok := Shape.ok_of hv
    unfold compErr at he
    rw [if_pos hv, if_pos hp] at he
    have hcf : compB s l c = false := by
      cases hh : compB s l c
      · rfl
      · rw [hh] at he
        exact absurd he.symm h0
    rw [hcf] at he
    have he8 : e0 = 8 := he.symm
    subst he8
    have Hset : Hid (setB s l c = false) := Lib.hid ((set_comp ok).trans hcf)
    have Hv := Lib.hid hv
    clear hcf hv he h0
    go_enter Tryd.func48, Tryd.ntmps48
    go_wp2_with fail
    refine (look_ok s l A cap PA pcap Hv.out hp _ (hs.ext E1) (hl.ext E1)).mono ?_
    rintro e w2 ⟨g, NA, ncap, AA, acap, EA, ec, OA, oc, LA, lc, ms, rfl, hB, E2⟩
    go_wp2_with fail
    refine (set_c g s A cap l PA pcap NA ncap AA acap EA ec OA oc LA lc ms c CA ccap ok hp hclen _ hB ((hcs.ext E1).ext E2)).mono ?_
    rintro e w3 ⟨⟨SA, sc, out, rfl, hres⟩, E3⟩
    rw [Hset.out]
    clear hB hres
    go_wp2_with fail
    go_ret3
    exact ⟨rfl, (E1.trans E2).trans E3⟩
  · have he2 : (if s.valid = true then platesErr l else 70) = e0 := by
      unfold compErr at he
      unfold platesErr
      by_cases h1 : s.valid = true
      · rw [if_pos h1] at he ⊢
        have h2 : ¬ platesB l = true := fun h => hv ⟨h1, h⟩
        rw [if_neg h2] at he ⊢
        exact he
      · rw [if_neg h1] at he ⊢
        exact he
    have He2 := Lib.hid he2
    have h0b : (e0 == 0) = false := by simpa using h0
    have h0c : (e0 != 0) = true := by simpa using h0
    have H0 := Lib.hid h0
    clear he he2 hv h0
    go_enter Tryd.func48, Tryd.ntmps48
    go_wp2_with fail
    refine (look_bad s l A cap PA pcap e0 He2.out H0.out _ (hs.ext E1) (hl.ext E1)).mono ?_
    rintro e w2 ⟨rfl, E2⟩
    go_wp2_with fail
    go_ret3
    exact ⟨rfl, E1.trans E2⟩
set_option maxRecDepth 100000 in
set_option maxHeartbeats 2000000 in
theorem check_c (s : Shape) (A : Option Addr) (cap : Nat) (l : List Plate) (PA : Option Addr) (pcap : Nat) (c : List Laid) (CA : Option Addr) (ccap : Nat) (hclen : c.length ≤ 1000) (w : World)
    (hs : Bytes w A cap s.cells) (hl : Plates w PA pcap l) (hcs : Laids w CA ccap c) :
    Calls Tryd.prog 22 #[.agg #[.int .i64 s.W, .int .i64 s.D, .int .i64 s.H, .slice A s.cells.length cap], .slice PA l.length pcap, .slice CA c.length ccap] w fun e w' =>
      e = .returned (.int .i64 (compErr s l c)) ∧ Ext w w' := by
  obtain ⟨W1, hW1, E1, B1, hz1⟩ := box_ w #[.int .i64 s.W, .int .i64 s.D, .int .i64 s.H, .slice A s.cells.length cap] 24
  have b1 := B1.cell
  obtain ⟨e0, he⟩ : ∃ e0, compErr s l c = e0 := ⟨_, rfl⟩
  have He := Lib.hid he
  by_cases h0 : e0 = 0
  · subst h0
    have h3 : s.valid = true ∧ platesB l = true ∧ compB s l c = true := by
      unfold compErr at he
      split at he
      · split at he
        · split at he
          · exact ⟨by assumption, by assumption, by assumption⟩
          · omega
        · omega
      · omega
    have H3 := Lib.hid h3
    clear he h3
    go_enter Tryd.func22, Tryd.ntmps22
    go_wp2_with fail
    refine (sets_ok s A cap l PA pcap c CA ccap H3.out.1 H3.out.2.1 H3.out.2.2 hclen _ (hs.ext E1) (hl.ext E1) (hcs.ext E1)).mono ?_
    rintro e w2 ⟨g, NA, ncap, AA, acap, EA, ec, OA, oc, LA, lc, ms, SA, sc, out, all, rfl, -, -, -, -, E2⟩
    go_wp2_with fail
    go_ret
    exact ⟨by rw [He.out]; rfl, E1.trans E2⟩
  · have H0 := Lib.hid h0
    clear he h0
    go_enter Tryd.func22, Tryd.ntmps22
    go_wp2_with fail
    refine (sets_bad s A cap l PA pcap c CA ccap e0 He.out H0.out hclen _ (hs.ext E1) (hl.ext E1) (hcs.ext E1)).mono ?_
    rintro e w2 ⟨rfl, E2⟩
    go_wp2_with fail
    go_ret
    exact ⟨by rw [He.out]; rfl, E1.trans E2⟩
end Go.Proofs.YtpikemglnnjemaaDoor

namespace Go.Proofs.YtpikemglnnjemaaDoor
open Go.RowKit

set_option maxRecDepth 100000 in
set_option maxHeartbeats 2000000 in
theorem hangsTop_c (s : Shape) (A : Option Addr) (cap : Nat) (l : List Plate) (PA : Option Addr) (pcap : Nat) (c : List Laid) (CA : Option Addr) (ccap : Nat) (hclen : c.length ≤ 1000) (w : World)
    (hs : Bytes w A cap s.cells) (hl : Plates w PA pcap l) (hcs : Laids w CA ccap c) (hT : TzTab w) :
    Calls Tryd.prog 14 #[.agg #[.int .i64 s.W, .int .i64 s.D, .int .i64 s.H, .slice A s.cells.length cap], .slice PA l.length pcap, .slice CA c.length ccap] w fun e w' =>
      e = .returned (.tuple #[.bool (hangR s l c), .int .i64 (compErr s l c)]) ∧ Ext w w' := by
  obtain ⟨W1, hW1, E1, B1, hz1⟩ := box_ w #[.int .i64 s.W, .int .i64 s.D, .int .i64 s.H, .slice A s.cells.length cap] 24
  have b1 := B1.cell
  obtain ⟨e0, he⟩ : ∃ e0, compErr s l c = e0 := ⟨_, rfl⟩
  have He := Lib.hid he
  by_cases h0 : e0 = 0
  · subst h0
    have h3 : s.valid = true ∧ platesB l = true ∧ compB s l c = true := by
      unfold compErr at he
      split at he
      · split at he
        · split at he
          · exact ⟨by assumption, by assumption, by assumption⟩
          · omega
        · omega
      · omega
    have H3 := Lib.hid h3
    have ok := Shape.ok_of h3.1
    have hpos := comp_pos ok h3.2.2
    clear he h3
    go_enter Tryd.func14, Tryd.ntmps14
    go_wp2_with fail
    refine (sets_ok s A cap l PA pcap c CA ccap H3.out.1 H3.out.2.1 H3.out.2.2 hclen _ (hs.ext E1) (hl.ext E1) (hcs.ext E1)).mono ?_
    rintro e w2 ⟨g, NA, ncap, AA, acap, EA, ec, OA, oc, LA, lc, ms, SA, sc, out, all, rfl, hB, hS, hrun, hall, E2⟩
    have his := setRun_is hrun
    have HA := Lib.hid (apart_of ok H3.out.2.1 hpos his hall)
    have Hw := Lib.hid (weak_eq ok his hall)
    have hol : out.length ≤ 1000 := by rw [his.len]; exact hclen
    have Hsm : Hid (∀ i, i < out.length → outAt out i < 65536) := Lib.hid (fun i hi => HA.out.small (by rw [← HA.out.len]; exact hi))
    clear hrun hall his
    go_wp2_with fail
    refine (hangs_c g s A cap l PA pcap NA ncap AA acap EA ec OA oc LA lc ms c out SA sc HA.out hclen _ hB hS (hT.ext (E1.trans E2))).mono ?_
    rintro e w3 ⟨rfl, E3⟩
    go_wp2_with fail
    go_ret2
    exact ⟨by unfold hangR; rw [He.out, if_pos rfl ] <;> rfl, (E1.trans E2).trans E3⟩
  · have H0 := Lib.hid h0
    have e1 : (e0 != 0) = true := by simpa using h0
    have e2 : (e0 == 0) = false := by simpa using h0
    clear he h0
    go_enter Tryd.func14, Tryd.ntmps14
    go_wp2_with fail
    refine (sets_bad s A cap l PA pcap c CA ccap e0 He.out H0.out hclen _ (hs.ext E1) (hl.ext E1) (hcs.ext E1)).mono ?_
    rintro e w2 ⟨rfl, E2⟩
    go_wp2_with fail
    go_ret2
    exact ⟨by unfold hangR; rw [He.out, if_neg H0.out] <;> rfl, E1.trans E2⟩
set_option maxRecDepth 100000 in
set_option maxHeartbeats 2000000 in
theorem weakTop_c (s : Shape) (A : Option Addr) (cap : Nat) (l : List Plate) (PA : Option Addr) (pcap : Nat) (c : List Laid) (CA : Option Addr) (ccap : Nat) (hclen : c.length ≤ 1000) (w : World)
    (hs : Bytes w A cap s.cells) (hl : Plates w PA pcap l) (hcs : Laids w CA ccap c) (hT : TzTab w) :
    Calls Tryd.prog 16 #[.agg #[.int .i64 s.W, .int .i64 s.D, .int .i64 s.H, .slice A s.cells.length cap], .slice PA l.length pcap, .slice CA c.length ccap] w fun e w' =>
      e = .returned (.tuple #[.int .i64 (weakR s l c), .int .i64 (compErr s l c)]) ∧ Ext w w' := by
  obtain ⟨W1, hW1, E1, B1, hz1⟩ := box_ w #[.int .i64 s.W, .int .i64 s.D, .int .i64 s.H, .slice A s.cells.length cap] 24
  have b1 := B1.cell
  obtain ⟨e0, he⟩ : ∃ e0, compErr s l c = e0 := ⟨_, rfl⟩
  have He := Lib.hid he
  by_cases h0 : e0 = 0
  · subst h0
    have h3 : s.valid = true ∧ platesB l = true ∧ compB s l c = true := by
      unfold compErr at he
      split at he
      · split at he
        · split at he
          · exact ⟨by assumption, by assumption, by assumption⟩
          · omega
        · omega
      · omega
    have H3 := Lib.hid h3
    have ok := Shape.ok_of h3.1
    have hpos := comp_pos ok h3.2.2
    clear he h3
    go_enter Tryd.func16, Tryd.ntmps16
    go_wp2_with fail
    refine (sets_ok s A cap l PA pcap c CA ccap H3.out.1 H3.out.2.1 H3.out.2.2 hclen _ (hs.ext E1) (hl.ext E1) (hcs.ext E1)).mono ?_
    rintro e w2 ⟨g, NA, ncap, AA, acap, EA, ec, OA, oc, LA, lc, ms, SA, sc, out, all, rfl, hB, hS, hrun, hall, E2⟩
    have his := setRun_is hrun
    have HA := Lib.hid (apart_of ok H3.out.2.1 hpos his hall)
    have Hw := Lib.hid (weak_eq ok his hall)
    have hol : out.length ≤ 1000 := by rw [his.len]; exact hclen
    have Hsm : Hid (∀ i, i < out.length → outAt out i < 65536) := Lib.hid (fun i hi => HA.out.small (by rw [← HA.out.len]; exact hi))
    clear hrun hall his
    go_wp2_with fail
    refine (weak_c g s A cap l PA pcap NA ncap AA acap EA ec OA oc LA lc ms out SA sc ok Hsm.out hol _ hB hS).mono ?_
    rintro e w3 ⟨rfl, E3⟩
    go_wp2_with fail
    go_ret2
    exact ⟨by unfold weakR; rw [He.out, if_pos rfl, ← Hw.out] <;> rfl, (E1.trans E2).trans E3⟩
  · have H0 := Lib.hid h0
    have e1 : (e0 != 0) = true := by simpa using h0
    have e2 : (e0 == 0) = false := by simpa using h0
    clear he h0
    go_enter Tryd.func16, Tryd.ntmps16
    go_wp2_with fail
    refine (sets_bad s A cap l PA pcap c CA ccap e0 He.out H0.out hclen _ (hs.ext E1) (hl.ext E1) (hcs.ext E1)).mono ?_
    rintro e w2 ⟨rfl, E2⟩
    go_wp2_with fail
    go_ret2
    exact ⟨by unfold weakR; rw [He.out, if_neg H0.out] <;> rfl, E1.trans E2⟩
end Go.Proofs.YtpikemglnnjemaaDoor

namespace Go.Proofs.YtpikemglnnjemaaDoor
open Go.RowKit

def muchB (n m k : Nat) : Bool := decide (600 < n) || (decide (20 < m) || decide (30 < k))
set_option maxHeartbeats 400000 in
theorem much_c (a b c : Int) (A B C : Option Addr) (n m k cn cm ck : Nat) (hn : n ≤ maxLen) (hm : m ≤ maxLen) (hk : k ≤ maxLen) (w : World) :
    Calls Tryd.prog 13 #[.agg #[.int .i64 a, .int .i64 b, .int .i64 c, .slice A n cn], .slice B m cm, .slice C k ck] w fun e w' => e = .returned (.bool (muchB n m k)) ∧ Ext w w' := by
  unfold maxLen at hn hm hk
  obtain ⟨W1, hW1, E1, B1, hz1⟩ := box_ w #[.int .i64 a, .int .i64 b, .int .i64 c, .slice A n cn] 24
  have b1 := B1.cell
  have Hm : Hid (muchB n m k = (decide ((600 : Int) < n) || (decide ((20 : Int) < m) || decide ((30 : Int) < k)))) := Lib.hid (by
    unfold muchB
    rw [show decide (600 < n) = decide ((600 : Int) < n) by simp; omega, show decide (20 < m) = decide ((20 : Int) < m) by simp; omega, show decide (30 < k) = decide ((30 : Int) < k) by simp; omega])
  cases h1 : decide ((600 : Int) < n)
  · cases h2 : decide ((20 : Int) < m)
    · cases h3 : decide ((30 : Int) < k)
      all_goals
        have Hb := Hm.out
        rw [h1, h2, h3] at Hb
        have Hb := Lib.hid Hb
        go_enter Tryd.func13, Tryd.ntmps13
        go_wp2_with fail
        go_ret
        exact ⟨by rw [Hb.out]; rfl, E1⟩
    · have Hb := Hm.out
      rw [h1, h2] at Hb
      have Hb := Lib.hid Hb
      go_enter Tryd.func13, Tryd.ntmps13
      go_wp2_with fail
      go_ret
      exact ⟨by rw [Hb.out]; rfl, E1⟩
  · have Hb := Hm.out
    rw [h1] at Hb
    have Hb := Lib.hid Hb
    go_enter Tryd.func13, Tryd.ntmps13
    go_wp2_with fail
    go_ret
    exact ⟨by rw [Hb.out]; rfl, E1⟩
end Go.Proofs.YtpikemglnnjemaaDoor

namespace Go.Proofs.YtpikemglnnjemaaDoor
open Go.RowKit

set_option maxHeartbeats 1600000 in
theorem rCheckShape_c (s : Shape) (A : Option Addr) (cap : Nat) (w : World) (hs : Bytes w A cap s.cells) :
    Calls Tryd.prog 19 #[.agg #[.int .i64 s.W, .int .i64 s.D, .int .i64 s.H, .slice A s.cells.length cap]] w fun e w' => e = .returned (.int .i64 (shapeErr s)) ∧ Ext w w' := by
  obtain ⟨W1, hW1, E1, B1, hz1⟩ := box_ w #[.int .i64 s.W, .int .i64 s.D, .int .i64 s.H, .slice A s.cells.length cap] 24
  have b1 := B1.cell
  cases h : s.valid
  · have He := Lib.hid (show shapeErr s = 70 by simp [shapeErr, h])
    have H := Lib.hid h
    clear h
    go_enter Tryd.func19, Tryd.ntmps19
    go_wp2_with fail
    refine (validShape_c A cap s.W s.D s.H s.cells _ (hs.ext E1)).mono ?_
    rintro e w2 ⟨rfl, E2⟩
    rw [show Shape.valid ⟨s.W, s.D, s.H, s.cells⟩ = false from H.out]
    go_wp2_with fail
    go_ret
    exact ⟨by rw [He.out]; rfl, E1.trans E2⟩
  · have He := Lib.hid (shapeErr_ok h)
    have H := Lib.hid h
    clear h
    go_enter Tryd.func19, Tryd.ntmps19
    go_wp2_with fail
    refine (validShape_c A cap s.W s.D s.H s.cells _ (hs.ext E1)).mono ?_
    rintro e w2 ⟨rfl, E2⟩
    rw [show Shape.valid ⟨s.W, s.D, s.H, s.cells⟩ = true from H.out]
    go_wp2_with fail
    go_ret
    exact ⟨by rw [He.out]; rfl, E1.trans E2⟩

set_option maxRecDepth 100000 in
set_option maxHeartbeats 8000000 in
theorem checks_walk (s : Shape) (A : Option Addr) (cap : Nat) (l : List Plate) (PA : Option Addr) (pcap : Nat) (c : List Laid) (CA : Option Addr) (ccap : Nat) (w : World) (hs : Bytes w A cap s.cells) (hl : Plates w PA pcap l) (hcs : Laids w CA ccap c) (hT : TzTab w) :
    Calls Tryd.prog 3 #[.agg #[.int .i64 s.W, .int .i64 s.D, .int .i64 s.H, .slice A s.cells.length cap], .slice PA l.length pcap, .slice CA c.length ccap] w fun e w' => e = .returned (.bool true) ∧ Ext w w' := by
  have hn1 := hs.len
  have hn2 := hl.len
  have hn3 := hcs.len
  obtain ⟨W1, hW1, E1, B1, hz1⟩ := box_ w #[.int .i64 s.W, .int .i64 s.D, .int .i64 s.H, .slice A s.cells.length cap] 24
  have b1 := B1.cell
  obtain ⟨m, hm⟩ : ∃ m, muchB s.cells.length l.length c.length = m := ⟨_, rfl⟩
  have Hm := Lib.hid hm
  cases m
  · have hcl : c.length ≤ 30 ∧ l.length ≤ 20 := by
      unfold muchB at hm
      simp at hm
      omega
    obtain ⟨hcl, hll⟩ := hcl
    have hcl1 : c.length ≤ 1000 := by omega
    clear hm
    go_enter Tryd.func3, Tryd.ntmps3
    go_wp2_with fail
    refine (much_c _ _ _ _ _ _ _ _ _ _ _ _ hn1 hn2 hn3 _).mono ?_
    rintro e W2 ⟨rfl, E2⟩
    rw [Hm.out]
    have E := E1.trans E2
    have B := B1.ext E2
    clear b1 E1 E2 B1 hz1 hW1
    have b1 := B.cell
    go_wp2_with fail
    refine (hangsTop_c s A cap l PA pcap c CA ccap hcl1 _ (hs.ext E) (hl.ext E) (hcs.ext E) (hT.ext E)).mono ?_
    rintro e W3 ⟨rfl, E2⟩
    replace E := E.trans E2
    replace B := B.ext E2
    clear b1 E2
    have b1 := B.cell
    go_wp2_with fail
    refine (rHangs_c s A cap l PA pcap c CA ccap hcl1 _ (hs.ext E) (hl.ext E) (hcs.ext E) ).mono ?_
    rintro e W4 ⟨rfl, E2⟩
    replace E := E.trans E2
    replace B := B.ext E2
    clear b1 E2
    have b1 := B.cell
    go_wp2_with fail
    refine (weakTop_c s A cap l PA pcap c CA ccap hcl1 _ (hs.ext E) (hl.ext E) (hcs.ext E) (hT.ext E)).mono ?_
    rintro e W5 ⟨rfl, E2⟩
    replace E := E.trans E2
    replace B := B.ext E2
    clear b1 E2
    have b1 := B.cell
    go_wp2_with fail
    refine (rWeak_c s A cap l PA pcap c CA ccap hcl1 _ (hs.ext E) (hl.ext E) (hcs.ext E) ).mono ?_
    rintro e W6 ⟨rfl, E2⟩
    replace E := E.trans E2
    replace B := B.ext E2
    clear b1 E2
    have b1 := B.cell
    obtain ⟨e0, he0⟩ : ∃ e0, compErr s l c = e0 := ⟨_, rfl⟩
    obtain ⟨hg, hhg⟩ : ∃ hg, hangR s l c = hg := ⟨_, rfl⟩
    obtain ⟨wk, hwk⟩ : ∃ wk, weakR s l c = wk := ⟨_, rfl⟩
    obtain ⟨es, hes⟩ : ∃ es, shapeErr s = es := ⟨_, rfl⟩
    obtain ⟨ep, hep⟩ : ∃ ep, platesErr l = ep := ⟨_, rfl⟩
    rw [he0, hhg, hwk]
    have H1 := Lib.hid he0
    have H2 := Lib.hid hes
    have H3 := Lib.hid hep
    have k1 : ∀ W', Ext W6 W' → Calls Tryd.prog 18 #[.agg #[.int .i64 s.W, .int .i64 s.D, .int .i64 s.H, .slice A s.cells.length cap]] W' fun e w' => e = .returned (.int .i64 es) ∧ Ext W' w' := fun W' E' => by
      rw [← H2.out]
      exact checkShape_c A cap s.W s.D s.H s.cells W' (hs.ext (E.trans E'))
    have k2 : ∀ W', Ext W6 W' → Calls Tryd.prog 19 #[.agg #[.int .i64 s.W, .int .i64 s.D, .int .i64 s.H, .slice A s.cells.length cap]] W' fun e w' => e = .returned (.int .i64 es) ∧ Ext W' w' := fun W' E' => by
      rw [← H2.out]
      exact rCheckShape_c s A cap W' (hs.ext (E.trans E'))
    have k3 : ∀ W', Ext W6 W' → Calls Tryd.prog 20 #[.slice PA l.length pcap] W' fun e w' => e = .returned (.int .i64 ep) ∧ Ext W' w' := fun W' E' => by
      rw [← H3.out]
      exact checkPlates_c PA pcap l W' (hl.ext (E.trans E'))
    have k4 : ∀ W', Ext W6 W' → Calls Tryd.prog 21 #[.slice PA l.length pcap] W' fun e w' => e = .returned (.int .i64 ep) ∧ Ext W' w' := fun W' E' => by
      rw [← H3.out]
      exact rCheckPlates_c PA pcap l W' (hl.ext (E.trans E'))
    have k5 : ∀ W', Ext W6 W' → Calls Tryd.prog 22 #[.agg #[.int .i64 s.W, .int .i64 s.D, .int .i64 s.H, .slice A s.cells.length cap], .slice PA l.length pcap, .slice CA c.length ccap] W' fun e w' => e = .returned (.int .i64 e0) ∧ Ext W' w' := fun W' E' => by
      rw [← H1.out]
      exact check_c s A cap l PA pcap c CA ccap hcl1 W' (hs.ext (E.trans E')) (hl.ext (E.trans E')) (hcs.ext (E.trans E'))
    have k6 : ∀ W', Ext W6 W' → Calls Tryd.prog 23 #[.agg #[.int .i64 s.W, .int .i64 s.D, .int .i64 s.H, .slice A s.cells.length cap], .slice PA l.length pcap, .slice CA c.length ccap] W' fun e w' => e = .returned (.int .i64 e0) ∧ Ext W' w' := fun W' E' => by
      rw [← H1.out]
      exact rCheck_c s A cap l PA pcap c CA ccap hcl1 W' (hs.ext (E.trans E')) (hl.ext (E.trans E')) (hcs.ext (E.trans E'))
    have K1 := Lib.hid k1
    have K2 := Lib.hid k2
    have K3 := Lib.hid k3
    have K4 := Lib.hid k4
    have K5 := Lib.hid k5
    have K6 := Lib.hid k6
    clear k1 k2 k3 k4 k5 k6 he0 hhg hwk hes hep
    go_wp2_with fail
    refine wp_region_grow (by kernel_rfl) (by kernel_rfl) ?_
    repeat (go_big_quiet_step ((first | (go_at_call 18; exact quiet_ext (K1.out _ ((Ext.refl _).grow _))) | (go_at_call 19; exact quiet_ext (K2.out _ ((Ext.refl _).grow _))) | (go_at_call 20; exact quiet_ext (K3.out _ ((Ext.refl _).grow _))) | (go_at_call 21; exact quiet_ext (K4.out _ ((Ext.refl _).grow _))) | (go_at_call 22; exact quiet_ext (K5.out _ ((Ext.refl _).grow _))) | (go_at_call 23; exact quiet_ext (K6.out _ ((Ext.refl _).grow _))))))
    refine wpQuiet_nil ?_
    intro W7 hW7
    have E7 : Ext W6 W7 := by
      obtain ⟨x, rfl⟩ := hW7
      exact (Ext.refl _).grow x
    clear hW7
    obtain ⟨hcW7, hfW7, hzW7⟩ := ext_facts E7
    go_wp2_with fail
    go_ret
    exact ⟨by simp, E.trans E7⟩
  · clear hm
    go_enter Tryd.func3, Tryd.ntmps3
    go_wp2_with fail
    refine (much_c _ _ _ _ _ _ _ _ _ _ _ _ hn1 hn2 hn3 _).mono ?_
    rintro e W2 ⟨rfl, E2⟩
    rw [Hm.out]
    go_wp2_with fail
    go_ret
    exact ⟨rfl, E1.trans E2⟩
end Go.Proofs.YtpikemglnnjemaaDoor

namespace Go.Proofs.YtpikemglnnjemaaDoor
open Go.RowKit Go.ChangeShapes Go.WideShapes Go.ChangeAt Go.Deep

theorem Tryd.own : ownKnob Tryd.prog.godebug = none := by kernel_rfl
theorem Tryd.laidOut : laidOutB Tryd.prog = true := by kernel_rfl

theorem list_of {α : Type} (p : Nat → α → Prop) (n : Nat) (h : ∀ i, i < n → ∃ x, p i x) : ∃ l : List α, l.length = n ∧ ∀ i x, l[i]? = some x → p i x := by
  induction n with
  | zero => exact ⟨[], rfl, fun i x hx => by simp at hx⟩
  | succ n ih =>
    obtain ⟨l, hl, hp⟩ := ih (fun i hi => h i (by omega))
    obtain ⟨x, hx⟩ := h n (by omega)
    refine ⟨l ++ [x], by simp [hl], fun i y hy => ?_⟩
    rcases Nat.lt_or_ge i n with hi | hi
    · rw [List.getElem?_append_left (by omega)] at hy
      exact hp i y hy
    · rw [List.getElem?_append_right (by omega), hl] at hy
      obtain rfl : i = n := by
        rcases Nat.eq_or_lt_of_le hi with h' | h'
        · exact h'.symm
        · rw [List.getElem?_eq_none (by simp; omega)] at hy; cases hy
      simp at hy
      subst hy
      exact hx

section
variable {H : Type} {enc : TypeId × Value → H} {P : Program} {w : World} {base : Nat} {spare : Nat → Bool} {held : Bool}

theorem rows_of_trod {t e : TypeId} {fuel sz : Nat} {A : Option Addr} {n cap : Nat} {x : DataW H × List MemPlace} (ht : P.underlying t = some (.slice e)) (hC : P.cellsOf e = sz) (hsz : 0 < sz)
    (h : DataW.trod enc P w base spare held fuel t [.slice A n cap] = some x) :
    ∃ rows : List (List Value), SliceIs w A n cap sz rows ∧ ∀ r ∈ rows, ∃ (m : Nat) (y : DataW H × List MemPlace), DataW.trod enc P w base spare held m e r = some y := by
  rcases open_slice ht h with ⟨h0, _⟩ | ⟨a, len, cap', m, fl, D, Pl, hcs, _, hl, hm, hmm, _, hi⟩
  · simp only [List.cons.injEq, Value.slice.injEq, and_true] at h0
    obtain ⟨rfl, rfl, rfl⟩ := h0
    exact ⟨[], ⟨rfl, Nat.le_refl _, by unfold maxLen; omega, by simp, fun h => by omega⟩, by simp⟩
  · simp only [List.cons.injEq, Value.slice.injEq, and_true] at hcs
    obtain ⟨rfl, rfl, rfl⟩ := hcs
    rw [hC] at hi
    have hnm : n ≤ m := by rw [hmm]; split <;> omega
    obtain ⟨rows, hlen, hrow⟩ := list_of (fun i r => w.cells? base (a.add (i * sz)) sz = some r ∧ DataW.trod enc P w base spare held fl e r = some (D i, Pl i)) n (fun i hin => hi i (by omega))
    refine ⟨rows, ⟨hlen, hl, hm, ?_, fun hn => ?_⟩, ?_⟩
    · intro r hr
      obtain ⟨i, hir⟩ := List.getElem?_of_mem hr
      exact (World.cells?_some (hrow i r hir).1).2.1
    · have h0 := hi 0 (by omega)
      obtain ⟨cs0, hc0, _⟩ := h0
      obtain ⟨_, hl0, hat0⟩ := World.cells?_some hc0
      have hcell0 := hat0 0 hsz
      have hsome : (w.cell? a).isSome = true := by
        have : (a.add (0 * sz)).add 0 = a := by simp [Addr.add]
        rw [this] at hcell0
        rw [hcell0, List.getElem?_eq_getElem (by omega)]
        rfl
      obtain ⟨b, off, spot⟩ := a
      have hspot : spot = none := by
        cases spot with
        | none => rfl
        | some q =>
          exfalso
          unfold World.cell? at hsome
          simp only at hsome
          split at hsome <;> simp at hsome
      subst hspot
      obtain ⟨u, hu⟩ := Option.isSome_iff_exists.1 hsome
      refine ⟨b, off, rfl, World.block_lt_of_cell? w _ hu, fun i r hr j u hu => ?_⟩
      obtain ⟨_, hlr, hat⟩ := World.cells?_some (hrow i r hr).1
      have hj : j < sz := by
        rcases Nat.lt_or_ge j r.length with h' | h'
        · omega
        · rw [List.getElem?_eq_none h'] at hu; cases hu
      have hadd : ((⟨b, off, none⟩ : Addr).add (i * sz)).add j = ⟨b, off + i * sz + j, none⟩ := by
        unfold Addr.add
        by_cases h1 : i * sz = 0 <;> by_cases h2 : j = 0 <;> simp [h1, h2]
      rw [← hadd, hat j hj]
      exact hu
    · intro r hr
      obtain ⟨i, hir⟩ := List.getElem?_of_mem hr
      exact ⟨_, _, (hrow i r hir).2⟩

/-- All arguments read behind the call as they did, where the world has only grown. -/
theorem trodAll_ext {ts : List TypeId} (hl : laidOutB P = true) {W W' : World} (hb : Ext W W') :
    ∀ {vs : List Value} {ds : List (DataW H)} {ps : List MemPlace}, (∀ t ∈ ts, P.readableRec t = true ∧ t < P.types.size) → DataW.TrodAll enc P W 0 (fun _ => true) true ts vs ds ps → (∀ x ∈ ps, x.block < W.heap.size) →
      DataW.TrodAll enc P W' 0 (fun b => decide (b < W.heap.size)) true ts vs ds ps := by
  induction ts with
  | nil =>
    intro vs ds ps _ h _
    obtain ⟨rfl, rfl, rfl⟩ := trodAll_nil h
    exact trodAll_mk0
  | cons t ts ih =>
    intro vs ds ps hr h hlt
    obtain ⟨v, vs', d, ds', p, q, rfl, rfl, rfl, hd, hrest⟩ := trodAll_cons h
    exact ⟨p, q, Below.trod hl (hr t (by simp)).1 (hr t (by simp)).2 hd hb (fun x hx => hlt x (by simp [hx])), ih (fun t' ht' => hr t' (by simp [ht'])) hrest (fun x hx => hlt x (by simp [hx])), rfl⟩
end
end Go.Proofs.YtpikemglnnjemaaDoor

namespace Go.Proofs.YtpikemglnnjemaaDoor
open Go.RowKit Go.ChangeShapes Go.WideShapes Go.ChangeAt Go.Deep Go.Joins

theorem cells_u8 : Tryd.prog.cellsOf 5 = 1 := by kernel_rfl
theorem cells_int : Tryd.prog.cellsOf 3 = 1 := by kernel_rfl
theorem cells_bool : Tryd.prog.cellsOf 4 = 1 := by kernel_rfl
theorem cells_cell : Tryd.prog.cellsOf 77 = 3 := by kernel_rfl
theorem cells_plate : Tryd.prog.cellsOf 51 = 4 := by kernel_rfl
theorem cells_laid : Tryd.prog.cellsOf 85 = 5 := by kernel_rfl
theorem cells_shape : Tryd.prog.cellsOf 24 = 4 := by kernel_rfl

theorem rows_map {α : Type} (f : α → List Value) {rows : List (List Value)} {xs : List α} (hl : xs.length = rows.length) (h : ∀ (i : Nat) (x : α), xs[i]? = some x → rows[i]? = some (f x)) : rows = xs.map f := by
  apply List.ext_getElem?
  intro i
  rw [List.getElem?_map]
  rcases Nat.lt_or_ge i rows.length with hi | hi
  · have : xs[i]? = some xs[i] := List.getElem?_eq_getElem (by omega)
    rw [this, h i _ this]
    rfl
  · rw [List.getElem?_eq_none hi, List.getElem?_eq_none (by omega)]
    rfl

section
variable {H : Type} {enc : TypeId × Value → H} {w : World} {base : Nat} {spare : Nat → Bool} {held : Bool}

set_option maxRecDepth 100000 in
theorem bytes_of_trod {fuel n cap : Nat} {A : Option Addr} {x : DataW H × List MemPlace}
    (h : DataW.trod enc Tryd.prog w base spare held fuel 22 [.slice A n cap] = some x) : ∃ cs : List Int, cs.length = n ∧ Bytes w A cap cs := by
  obtain ⟨rows, hS, hr⟩ := rows_of_trod Tryd.underlying22 cells_u8 (by omega) h
  obtain ⟨cs, hl, hp⟩ := list_of (fun i (c : Int) => rows[i]? = some [.int .u8 c] ∧ byteOk c) n (fun i hi => by
    have hi' : i < rows.length := by rw [hS.len]; exact hi
    have hget : rows[i]? = some rows[i] := List.getElem?_eq_getElem hi'
    obtain ⟨m, y, hy⟩ := hr _ (List.mem_of_getElem? hget)
    have hlen := hS.wide _ (List.mem_of_getElem? hget)
    generalize rows[i] = r at hget hy hlen
    match r, hlen with
    | [c0], _ =>
      obtain ⟨a, e0, _, wa⟩ := DataW.trod_int Tryd.underlying5 hy
      simp at e0
      subst e0
      exact ⟨a, hget, bounds_u8 wa⟩)
  refine ⟨cs, hl, ?_, fun c hm => ?_⟩
  · have := rows_map (fun c => [.int .u8 c]) (hl.trans hS.len.symm) fun i x hx => (hp i x hx).1
    rw [← this, hl]
    exact hS
  · obtain ⟨i, hi⟩ := List.getElem?_of_mem hm
    exact (hp i c hi).2

set_option maxRecDepth 100000 in
theorem plates_of_trod {fuel n cap : Nat} {A : Option Addr} {x : DataW H × List MemPlace}
    (h : DataW.trod enc Tryd.prog w base spare held fuel 25 [.slice A n cap] = some x) : ∃ l : List Plate, l.length = n ∧ Plates w A cap l := by
  obtain ⟨rows, hS, hr⟩ := rows_of_trod Tryd.underlying25 cells_plate (by omega) h
  obtain ⟨l, hl, hp⟩ := list_of (fun i (p : Plate) => rows[i]? = some p.cells) n (fun i hi => by
    have hi' : i < rows.length := by rw [hS.len]; exact hi
    have hget : rows[i]? = some rows[i] := List.getElem?_eq_getElem hi'
    obtain ⟨m, y, hy⟩ := hr _ (List.mem_of_getElem? hget)
    obtain ⟨xs, m', _, _, hlen, hxl, hf⟩ := DataW.trod_struct Tryd.underlying51 hy
    rw [cells_plate] at hlen
    generalize rows[i] = r at hget hy hlen hf
    match r, hlen with
    | [c0, c1, c2, c3], _ =>
      have f0 := hf 0 _ rfl
      have f1 := hf 1 _ rfl
      have f2 := hf 2 _ rfl
      have f3 := hf 3 _ rfl
      match xs, hxl with
      | [y0, y1, y2, y3], _ =>
        obtain ⟨a, e0, _, wa⟩ := DataW.trod_int Tryd.underlying3 f0
        obtain ⟨b, e1, _, wb⟩ := DataW.trod_int Tryd.underlying3 f1
        obtain ⟨c, e2, _, wc⟩ := DataW.trod_int Tryd.underlying3 f2
        obtain ⟨d, e3, _, wd⟩ := DataW.trod_int Tryd.underlying5 f3
        change List.take (Tryd.prog.cellsOf 3) [c0, c1, c2, c3] = _ at e0
        change List.take (Tryd.prog.cellsOf 3) [c1, c2, c3] = _ at e1
        change List.take (Tryd.prog.cellsOf 3) [c2, c3] = _ at e2
        change List.take (Tryd.prog.cellsOf 5) [c3] = _ at e3
        rw [cells_int] at e0 e1 e2
        rw [cells_u8] at e3
        simp at e0 e1 e2 e3
        subst e0 e1 e2 e3
        exact ⟨⟨a, b, c, d⟩, hget⟩)
  refine ⟨l, hl, ?_⟩
  have := rows_map Plate.cells (hl.trans hS.len.symm) hp
  unfold Plates
  rw [← this, hl]
  exact hS

set_option maxRecDepth 100000 in
theorem laids_of_trod {fuel n cap : Nat} {A : Option Addr} {x : DataW H × List MemPlace}
    (h : DataW.trod enc Tryd.prog w base spare held fuel 26 [.slice A n cap] = some x) : ∃ l : List Laid, l.length = n ∧ Laids w A cap l := by
  obtain ⟨rows, hS, hr⟩ := rows_of_trod Tryd.underlying26 cells_laid (by omega) h
  obtain ⟨l, hl, hp⟩ := list_of (fun i (p : Laid) => rows[i]? = some p.cells) n (fun i hi => by
    have hi' : i < rows.length := by rw [hS.len]; exact hi
    have hget : rows[i]? = some rows[i] := List.getElem?_eq_getElem hi'
    obtain ⟨m, y, hy⟩ := hr _ (List.mem_of_getElem? hget)
    obtain ⟨xs, m', _, _, hlen, hxl, hf⟩ := DataW.trod_struct Tryd.underlying85 hy
    rw [cells_laid] at hlen
    generalize rows[i] = r at hget hy hlen hf
    match r, hlen with
    | [c0, c1, c2, c3, c4], _ =>
      have f0 := hf 0 _ rfl
      have f1 := hf 1 _ rfl
      have f2 := hf 2 _ rfl
      match xs, hxl with
      | [y0, y1, y2], _ =>
        obtain ⟨a, e0, _, wa⟩ := DataW.trod_int Tryd.underlying3 f0
        obtain ⟨b, e3, _⟩ := DataW.trod_bool Tryd.underlying4 f2
        change List.take (Tryd.prog.cellsOf 3) [c0, c1, c2, c3, c4] = _ at e0
        change DataW.trod enc _ _ _ _ _ _ _ (List.take (Tryd.prog.cellsOf 77) [c1, c2, c3, c4]) = _ at f1
        change List.take (Tryd.prog.cellsOf 4) [c4] = _ at e3
        rw [cells_int] at e0
        rw [cells_cell] at f1
        rw [cells_bool] at e3
        simp at e0 e3
        subst e0 e3
        obtain ⟨zs, m'', _, _, _, hzl, hg⟩ := DataW.trod_struct Tryd.underlying77 f1
        have g0 := hg 0 _ rfl
        have g1 := hg 1 _ rfl
        have g2 := hg 2 _ rfl
        match zs, hzl with
        | [z0, z1, z2], _ =>
          obtain ⟨x, h1, _, _⟩ := DataW.trod_int Tryd.underlying3 g0
          obtain ⟨y, h2, _, _⟩ := DataW.trod_int Tryd.underlying3 g1
          obtain ⟨z, h3, _, _⟩ := DataW.trod_int Tryd.underlying3 g2
          change List.take (Tryd.prog.cellsOf 3) [c1, c2, c3] = _ at h1
          change List.take (Tryd.prog.cellsOf 3) [c2, c3] = _ at h2
          change List.take (Tryd.prog.cellsOf 3) [c3] = _ at h3
          rw [cells_int] at h1 h2 h3
          simp at h1 h2 h3
          subst h1 h2 h3
          exact ⟨⟨a, x, y, z, b⟩, hget⟩)
  refine ⟨l, hl, ?_⟩
  have := rows_map Laid.cells (hl.trans hS.len.symm) hp
  unfold Laids
  rw [← this, hl]
  exact hS
end

end Go.Proofs.YtpikemglnnjemaaDoor

namespace Go.Proofs.YtpikemglnnjemaaDoor
open Go.RowKit Go.ChangeShapes Go.WideShapes Go.ChangeAt

theorem gTab : Tryd.prog.globalNamed "math/bits.deBruijn32tab" = some 0 := by kernel_rfl
theorem gTabType : (Tryd.prog.globals[0]?).map (·.type) = some 190 := by kernel_rfl
theorem cellsTab : Tryd.prog.cellsOf 190 = 32 := by kernel_rfl
theorem cellsTabE : Tryd.prog.cellsOf 5 = 1 := by kernel_rfl
def tabZ : List Int := Lib.deBruijn32tab.map fun n : Nat => (n : Int)
/-- What every law of the seat lists. -/
def laidTab : List (String × DataW Unit) := [("math/bits.deBruijn32tab", Rows.laid_math_bits_deBruijn32tab)]
theorem laidTab_eq : laidTab = [("math/bits.deBruijn32tab", Lib.tabData .u8 tabZ)] := rfl
theorem tz_of_laid {W : World} (h : laidMetH Tryd.prog laidTab W) : TzTab W := by
  rw [MakeChecks.laidMetH_plain _ _ _ (by kernel_rfl), laidTab_eq] at h
  have hT := Lib.tabIs_of_head gTab gTabType Tryd.underlying190 Tryd.underlying5 cellsTabE cellsTab h
  intro j hj
  have := hT.cell gTab j (by simpa [tabZ] using hj)
  rw [this]
  congr 2
  unfold tabZ
  rw [List.getD_eq_getElem?_getD, List.getD_eq_getElem?_getD, List.getElem?_map, List.getElem?_eq_getElem hj]
  rfl

/-- A world in which the table lies as its initialiser lays it. -/
noncomputable def laidWorld (os : Os) : World :=
  { World.holding Tryd.prog os ⟨#[], #[], []⟩ with heap := (World.holding Tryd.prog os ⟨#[], #[], []⟩).heap.modify 0 fun
      | .cells _ t frozen => .cells (tabZ.map fun z => Value.int .u8 z).toArray t frozen
      | o => o }
theorem laidWorld_met (os : Os) (args : Array Value) : laidMetH Tryd.prog laidTab ((laidWorld os).forCall (fun _ _ => 0) ⟨#[], args, []⟩).memory := by
  rw [MakeChecks.laidMetH_plain _ _ _ (by kernel_rfl)]
  exact laidMet_of_run' 8 (by kernel_rfl) (by kernel_rfl)
end Go.Proofs.YtpikemglnnjemaaDoor

namespace Go.Proofs.YtpikemglnnjemaaDoor
open Go.RowKit Go.ChangeShapes Go.WideShapes Go.ChangeAt Go.Deep Go.Joins

set_option maxRecDepth 100000 in
theorem checks_lifted (os : Os) (started : os.Started) (H : Type) (enc : TypeId × Value → H) :
    ReturnsInHanded {} Tryd.checked os 3 .any (fun w args => (Rows.composeChecksSpec.pre enc Tryd.prog Tryd.f3 [] false w args ∧ laidMetH Tryd.prog laidTab w) ∧ sizedMet enc Tryd.prog Tryd.f3 (OpenSpec.ofChange Rows.composeChecksSpec) false w args)
      (Rows.composeChecksSpec.post enc Tryd.prog Tryd.f3 false true false false) := by
  refine returnsInHanded_of_change_and (C := Tryd.checked) (X := fun w _ => laidMetH Tryd.prog laidTab w) (fun _ _ _ hh h => h.of_heap hh) Tryd.own started (by kernel_rfl) Tryd.func3
    (ChangeSpec.witness_at (enc := enc) (C := Tryd.checked) (os := os) (X := fun w _ => laidMetH Tryd.prog laidTab w) false (laidWorld os) #[.agg #[.int .i64 0, .int .i64 0, .int .i64 0, .slice none 0 0], .slice none 0 0, .slice none 0 0] 8 rfl (by kernel_rfl) (by kernel_rfl) (by kernel_rfl) (by kernel_rfl) (by kernel_rfl) (laidWorld_met os _)) ?_
  intro W base args ds gs before hval0 hW _ _ hL _
  have hval : ∀ (j : Nat) t v, Tryd.f3.params[j]? = some t → args[j]? = some v → Value.okWide Tryd.prog W .any base t v := hval0
  have hW' := hW
  obtain ⟨p, q, hA0, hV, rfl, hfz, hnd⟩ := hW
  have hA : DataW.TrodAll enc Tryd.prog W 0 (fun _ => true) true Tryd.f3.params.toList args.toList ds p := hA0
  rw [Tryd.params3] at hA hval
  have hAll := hA
  obtain ⟨v0, v1, v2, d0, d1, d2, p0, p1, p2, rfl, rfl, rfl, h0, h1, h2⟩ := trodAll_three hA
  obtain ⟨rfl, rfl⟩ := trodVars_none hV
  obtain ⟨c0, c1, c2, c3, y0, y1, y2, y3, m, rfl, rfl, rfl, hy0, hy1, hy2, hy3⟩ := open_agg4 Tryd.underlying24 (by kernel_rfl) cells_shape (hval 0 24 v0 rfl rfl) h0
  obtain ⟨x, e0, e0', -⟩ := DataW.trod_int Tryd.underlying3 hy0
  obtain ⟨y, e1, e1', -⟩ := DataW.trod_int Tryd.underlying3 hy1
  obtain ⟨z, e2, e2', -⟩ := DataW.trod_int Tryd.underlying3 hy2
  simp at e0 e1 e2
  subst e0 e1 e2
  have hc3 : ∃ A n ca, c3 = .slice A n ca := by
    rcases open_slice Tryd.underlying22 hy3 with ⟨h, _⟩ | ⟨a, len, cap', _, _, _, _, h, _⟩
    · exact ⟨none, 0, 0, by simpa using h⟩
    · exact ⟨some a, len, cap', by simpa using h⟩
  obtain ⟨A, n, ca, rfl⟩ := hc3
  obtain ⟨cs, hcl, hcs⟩ := bytes_of_trod hy3
  obtain ⟨B, n1, cb, rfl⟩ := okWide_slice Tryd.underlying25 (hval 1 25 v1 rfl rfl)
  obtain ⟨C, n2, cc, rfl⟩ := okWide_slice Tryd.underlying26 (hval 2 26 v2 rfl rfl)
  obtain ⟨fu1, hf1⟩ := h1
  obtain ⟨fu2, hf2⟩ := h2
  obtain ⟨l, rfl, hpl⟩ := plates_of_trod (by simpa [Value.cells] using hf1)
  obtain ⟨ls, rfl, hla⟩ := laids_of_trod (by simpa [Value.cells] using hf2)
  subst hcl
  clear hA0 hval0
  simp only [List.append_nil] at hW' hAll
  have hlt : ∀ q ∈ (y0.2 ++ (y1.2 ++ (y2.2 ++ y3.2))) ++ p1 ++ p2, q.block < W.heap.size := fun q hq => hW'.lt q hq
  refine (checks_walk ⟨x, y, z, cs⟩ A ca l B cb ls C cc W hcs hpl hla (tz_of_laid hL)).mono fun e W' ⟨he, hE⟩ => ?_
  subst he
  refine ⟨_, rfl, ?_⟩
  refine ⟨_, _, _, [], (y0.2 ++ (y1.2 ++ (y2.2 ++ y3.2))) ++ p1 ++ p2, [], hW', ?_, ?_, rfl, hE.frame _, fun h => by cases h⟩
  · exact trodAll_mk1 (shut_bool Tryd.underlying4 true)
  · exact trodAll_ext (ts := [24, 25, 26]) Tryd.laidOut hE (by
      intro t ht
      simp only [List.mem_cons, List.not_mem_nil, or_false] at ht
      rcases ht with rfl | rfl | rfl <;> exact ⟨by kernel_rfl, of_decide_eq_true (by kernel_rfl)⟩) hAll hlt

theorem composeChecks_row : Rows.ComposeChecksSaid :=
  OpenClaim.holds_of_wide 3 Tryd.f3 rfl rfl rfl rfl rfl rfl rfl ⟨rfl, rfl, rfl, rfl, rfl⟩ rfl rfl rfl rfl rfl (by kernel_rfl) Tryd.func3 (by kernel_rfl)
    (of_decide_eq_true (by kernel_rfl)) (by unfold Func.isWrapper; rw [if_neg (of_decide_eq_false (by kernel_rfl))]; exact ⟨rfl, rfl⟩)
    (fun os started H enc _ => checks_lifted os started H enc)
theorem composeChecks_holds : Rows.ComposeChecksCardSaid :=
  Claim7.holds_tied_plain_at .later [] [.data] true Rows.composeChecksCard.stood.harness false
    composeChecks_row (fun _ h => by cases h) (by kernel_rfl) (fun _ h => by cases h) composeChecks_row_tie rfl ⟨rfl, rfl⟩ (by kernel_rfl) rfl
    (fun f fn hf hfn => by
      obtain rfl : f = 3 := Option.some.inj ((show Tryd.prog.funcNamed "studwork/studworklaw07.ComposeChecks" = some 3 by kernel_rfl).symm.trans hf) |>.symm
      obtain rfl : fn = Tryd.f3 := (Option.some.inj (Tryd.func3.symm.trans hfn)).symm
      exact ⟨by kernel_rfl, fun j t ht => by
        rw [Tryd.params3] at ht
        have ht := List.mem_of_getElem? (show ([24, 25, 26] : List TypeId)[j]? = some t by simpa using ht)
        simp only [List.mem_cons, List.not_mem_nil, or_false] at ht
        rcases ht with rfl | rfl | rfl
        · exact (show Tryd.prog.wantsStandIn 24 = false by kernel_rfl)
        · exact (show Tryd.prog.wantsStandIn 25 = false by kernel_rfl)
        · exact (show Tryd.prog.wantsStandIn 26 = false by kernel_rfl)⟩)
    (by kernel_rfl)
#print axioms composeChecks_holds
end Go.Proofs.YtpikemglnnjemaaDoor
