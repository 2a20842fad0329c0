/- sets and Check of the program. Hangs and Weak of the program. much: what is much larger than valid ones. The law ComposeChecks, walked. Large. The law's small helpers: at, two, four. SameLaid at equal compositions, and 'before'. The law ComposeSearches, walked. Opening a law's arguments: slices of whatever element type as rows of cells; the law's last step. Opening the arguments of chapter 7's laws: bytes, plates, laid plates. The listed table: from the row's condition to what the walks ask; a world that meets it. -/
import Derived.Test.YtaaeapjnjjbglaaDoorCm17
import Derived.Handy
import Derived.Laws.StructEq
import Derived.Laws.BytesArg
import Derived.ProofKit
import Derived.Deep.Slices
import Derived.Carry
import Derived.OpenShut
import Derived.Lib.SmallJoins
import Derived.Test.YtaaeapjnjjbglaaDoorTie
import Derived.Test.YtaaeapjnjjbglaaDoorCards
import Derived.LaidMore
import Derived.Lib.LaidTab

namespace Go.Proofs.YtaaeapjnjjbglaaDoor
open Go.RowKit

/-- What sets hands back for a composition. -/
def SetsOk (s : Shape) (l : List Plate) (c : List Laid) (A : Option Addr) (cap : Nat) (PA : Option Addr) (pcap : Nat) (w : World) (e : Ending) (w' : World) : Prop :=
  ∃ g NA ncap AA acap EA ecap OA ocap LA lcap ms SA sc, ∃ out : List Nat, ∃ all, e = .returned (.tuple #[.pointer (some ⟨g, 0, none⟩), .slice SA out.length sc, .int .i64 0]) ∧ Board w' g s A cap l PA pcap NA ncap AA acap EA ecap OA ocap LA lcap ms ∧
    SliceIs w' SA out.length sc 1 (out.map fun m => [uv m]) ∧ setRun s l c c.length = some (out, all) ∧ all = 2 ^ fullN s.cells - 1 ∧ Ext w w'
set_option maxRecDepth 100000 in
set_option maxHeartbeats 2000000 in
theorem sets_ok (s : Shape) (A : Option Addr) (cap : Nat) (l : List Plate) (PA : Option Addr) (pcap : Nat) (c : List Laid) (CA : Option Addr) (ccap : Nat) (hv : s.valid = true) (hp : platesB l = true) (hc : compB s l c = true) (hclen : c.length ≤ 1000) (w : World)
    (hs : Bytes w A cap s.cells) (hl : Plates w PA pcap l) (hcs : Laids w CA ccap c) :
    Calls Tryd.prog 50 #[.agg #[.int .i64 s.W, .int .i64 s.D, .int .i64 s.H, .slice A s.cells.length cap], .slice PA l.length pcap, .slice CA c.length ccap] w (SetsOk s l c A cap PA pcap w) := by
  obtain ⟨W1, hW1, E1, B1, hz1⟩ := box_ w #[.int .i64 s.W, .int .i64 s.D, .int .i64 s.H, .slice A s.cells.length cap] 24
  have b1 := B1.cell
  have ok := Shape.ok_of hv
  have Hset : Hid (setB s l c = true) := Lib.hid ((set_comp ok).trans hc)
  have Hv := Lib.hid hv
  clear hc hv
  go_enter Tryd.func50, Tryd.ntmps50
  go_wp2_with fail
  refine (look_ok s l A cap PA pcap Hv.out hp _ (hs.ext E1) (hl.ext E1)).mono ?_
  rintro e w2 ⟨g, NA, ncap, AA, acap, EA, ec, OA, oc, LA, lc, ms, rfl, hB, E2⟩
  go_wp2_with fail
  refine (set_c g s A cap l PA pcap NA ncap AA acap EA ec OA oc LA lc ms c CA ccap ok hp hclen _ hB ((hcs.ext E1).ext E2)).mono ?_
  rintro e w3 ⟨⟨SA, sc, out, rfl, hres⟩, E3⟩
  rw [Hset.out]
  have Hres := Lib.hid (hres Hset.out)
  have HB := Lib.hid (hB.ext E3)
  clear hB hres
  go_wp2_with fail
  go_ret3
  obtain ⟨h1, all, h2, h3⟩ := Hres.out
  exact ⟨g, NA, ncap, AA, acap, EA, ec, OA, oc, LA, lc, ms, SA, sc, out, all, rfl, HB.out, h1, h2, h3, (E1.trans E2).trans E3⟩
set_option maxRecDepth 100000 in
set_option maxHeartbeats 2000000 in
theorem sets_bad (s : Shape) (A : Option Addr) (cap : Nat) (l : List Plate) (PA : Option Addr) (pcap : Nat) (c : List Laid) (CA : Option Addr) (ccap : Nat) (e0 : Int) (he : compErr s l c = e0) (h0 : e0 ≠ 0) (hclen : c.length ≤ 1000) (w : World)
    (hs : Bytes w A cap s.cells) (hl : Plates w PA pcap l) (hcs : Laids w CA ccap c) :
    Calls Tryd.prog 50 #[.agg #[.int .i64 s.W, .int .i64 s.D, .int .i64 s.H, .slice A s.cells.length cap], .slice PA l.length pcap, .slice CA c.length ccap] w fun e w' =>
      e = .returned (.tuple #[.pointer none, .slice none 0 0, .int .i64 e0]) ∧ Ext w w' := by
  obtain ⟨W1, hW1, E1, B1, hz1⟩ := box_ w #[.int .i64 s.W, .int .i64 s.D, .int .i64 s.H, .slice A s.cells.length cap] 24
  have b1 := B1.cell
  by_cases hv : s.valid = true ∧ platesB l = true
  · obtain ⟨hv, hp⟩ := hv
    have ok := Shape.ok_of hv
    unfold compErr at he
    rw [if_pos hv, if_pos hp] at he
    have hcf : compB s l c = false := by
      cases hh : compB s l c
      · rfl
      · rw [hh] at he
        exact absurd he.symm h0
    rw [hcf] at he
    have he8 : e0 = 8 := he.symm
    subst he8
    have Hset : Hid (setB s l c = false) := Lib.hid ((set_comp ok).trans hcf)
    have Hv := Lib.hid hv
    clear hcf hv he h0
    go_enter Tryd.func50, Tryd.ntmps50
    go_wp2_with fail
    refine (look_ok s l A cap PA pcap Hv.out hp _ (hs.ext E1) (hl.ext E1)).mono ?_
    rintro e w2 ⟨g, NA, ncap, AA, acap, EA, ec, OA, oc, LA, lc, ms, rfl, hB, E2⟩
    go_wp2_with fail
    refine (set_c g s A cap l PA pcap NA ncap AA acap EA ec OA oc LA lc ms c CA ccap ok hp hclen _ hB ((hcs.ext E1).ext E2)).mono ?_
    rintro e w3 ⟨⟨SA, sc, out, rfl, hres⟩, E3⟩
    rw [Hset.out]
    clear hB hres
    go_wp2_with fail
    go_ret3
    exact ⟨rfl, (E1.trans E2).trans E3⟩
  · have he2 : (if s.valid = true then platesErr l else 70) = e0 := by
      unfold compErr at he
      unfold platesErr
      by_cases h1 : s.valid = true
      · rw [if_pos h1] at he ⊢
        have h2 : ¬ platesB l = true := fun h => hv ⟨h1, h⟩
        rw [if_neg h2] at he ⊢
        exact he
      · rw [if_neg h1] at he ⊢
        exact he
    have He2 := Lib.hid he2
    have h0b : (e0 == 0) = false := by simpa using h0
    have h0c : (e0 != 0) = true := by simpa using h0
    have H0 := Lib.hid h0
    clear he he2 hv h0
    go_enter Tryd.func50, Tryd.ntmps50
    go_wp2_with fail
    refine (look_bad s l A cap PA pcap e0 He2.out H0.out _ (hs.ext E1) (hl.ext E1)).mono ?_
    rintro e w2 ⟨rfl, E2⟩
    go_wp2_with fail
    go_ret3
    exact ⟨rfl, E1.trans E2⟩
set_option maxRecDepth 100000 in
set_option maxHeartbeats 2000000 in
theorem check_c (s : Shape) (A : Option Addr) (cap : Nat) (l : List Plate) (PA : Option Addr) (pcap : Nat) (c : List Laid) (CA : Option Addr) (ccap : Nat) (hclen : c.length ≤ 1000) (w : World)
    (hs : Bytes w A cap s.cells) (hl : Plates w PA pcap l) (hcs : Laids w CA ccap c) :
    Calls Tryd.prog 18 #[.agg #[.int .i64 s.W, .int .i64 s.D, .int .i64 s.H, .slice A s.cells.length cap], .slice PA l.length pcap, .slice CA c.length ccap] w fun e w' =>
      e = .returned (.int .i64 (compErr s l c)) ∧ Ext w w' := by
  obtain ⟨W1, hW1, E1, B1, hz1⟩ := box_ w #[.int .i64 s.W, .int .i64 s.D, .int .i64 s.H, .slice A s.cells.length cap] 24
  have b1 := B1.cell
  obtain ⟨e0, he⟩ : ∃ e0, compErr s l c = e0 := ⟨_, rfl⟩
  have He := Lib.hid he
  by_cases h0 : e0 = 0
  · subst h0
    have h3 : s.valid = true ∧ platesB l = true ∧ compB s l c = true := by
      unfold compErr at he
      split at he
      · split at he
        · split at he
          · exact ⟨by assumption, by assumption, by assumption⟩
          · omega
        · omega
      · omega
    have H3 := Lib.hid h3
    clear he h3
    go_enter Tryd.func18, Tryd.ntmps18
    go_wp2_with fail
    refine (sets_ok s A cap l PA pcap c CA ccap H3.out.1 H3.out.2.1 H3.out.2.2 hclen _ (hs.ext E1) (hl.ext E1) (hcs.ext E1)).mono ?_
    rintro e w2 ⟨g, NA, ncap, AA, acap, EA, ec, OA, oc, LA, lc, ms, SA, sc, out, all, rfl, -, -, -, -, E2⟩
    go_wp2_with fail
    go_ret
    exact ⟨by rw [He.out]; rfl, E1.trans E2⟩
  · have H0 := Lib.hid h0
    clear he h0
    go_enter Tryd.func18, Tryd.ntmps18
    go_wp2_with fail
    refine (sets_bad s A cap l PA pcap c CA ccap e0 He.out H0.out hclen _ (hs.ext E1) (hl.ext E1) (hcs.ext E1)).mono ?_
    rintro e w2 ⟨rfl, E2⟩
    go_wp2_with fail
    go_ret
    exact ⟨by rw [He.out]; rfl, E1.trans E2⟩
end Go.Proofs.YtaaeapjnjjbglaaDoor

namespace Go.Proofs.YtaaeapjnjjbglaaDoor
open Go.RowKit

set_option maxRecDepth 100000 in
set_option maxHeartbeats 2000000 in
theorem hangsTop_c (s : Shape) (A : Option Addr) (cap : Nat) (l : List Plate) (PA : Option Addr) (pcap : Nat) (c : List Laid) (CA : Option Addr) (ccap : Nat) (hclen : c.length ≤ 1000) (w : World)
    (hs : Bytes w A cap s.cells) (hl : Plates w PA pcap l) (hcs : Laids w CA ccap c) (hT : TzTab w) :
    Calls Tryd.prog 26 #[.agg #[.int .i64 s.W, .int .i64 s.D, .int .i64 s.H, .slice A s.cells.length cap], .slice PA l.length pcap, .slice CA c.length ccap] w fun e w' =>
      e = .returned (.tuple #[.bool (hangR s l c), .int .i64 (compErr s l c)]) ∧ Ext w w' := by
  obtain ⟨W1, hW1, E1, B1, hz1⟩ := box_ w #[.int .i64 s.W, .int .i64 s.D, .int .i64 s.H, .slice A s.cells.length cap] 24
  have b1 := B1.cell
  obtain ⟨e0, he⟩ : ∃ e0, compErr s l c = e0 := ⟨_, rfl⟩
  have He := Lib.hid he
  by_cases h0 : e0 = 0
  · subst h0
    have h3 : s.valid = true ∧ platesB l = true ∧ compB s l c = true := by
      unfold compErr at he
      split at he
      · split at he
        · split at he
          · exact ⟨by assumption, by assumption, by assumption⟩
          · omega
        · omega
      · omega
    have H3 := Lib.hid h3
    have ok := Shape.ok_of h3.1
    have hpos := comp_pos ok h3.2.2
    clear he h3
    go_enter Tryd.func26, Tryd.ntmps26
    go_wp2_with fail
    refine (sets_ok s A cap l PA pcap c CA ccap H3.out.1 H3.out.2.1 H3.out.2.2 hclen _ (hs.ext E1) (hl.ext E1) (hcs.ext E1)).mono ?_
    rintro e w2 ⟨g, NA, ncap, AA, acap, EA, ec, OA, oc, LA, lc, ms, SA, sc, out, all, rfl, hB, hS, hrun, hall, E2⟩
    have his := setRun_is hrun
    have HA := Lib.hid (apart_of ok H3.out.2.1 hpos his hall)
    have Hw := Lib.hid (weak_eq ok his hall)
    have hol : out.length ≤ 1000 := by rw [his.len]; exact hclen
    have Hsm : Hid (∀ i, i < out.length → outAt out i < 65536) := Lib.hid (fun i hi => HA.out.small (by rw [← HA.out.len]; exact hi))
    clear hrun hall his
    go_wp2_with fail
    refine (hangs_c g s A cap l PA pcap NA ncap AA acap EA ec OA oc LA lc ms c out SA sc HA.out hclen _ hB hS (hT.ext (E1.trans E2))).mono ?_
    rintro e w3 ⟨rfl, E3⟩
    go_wp2_with fail
    go_ret2
    exact ⟨by unfold hangR; rw [He.out, if_pos rfl ] <;> rfl, (E1.trans E2).trans E3⟩
  · have H0 := Lib.hid h0
    have e1 : (e0 != 0) = true := by simpa using h0
    have e2 : (e0 == 0) = false := by simpa using h0
    clear he h0
    go_enter Tryd.func26, Tryd.ntmps26
    go_wp2_with fail
    refine (sets_bad s A cap l PA pcap c CA ccap e0 He.out H0.out hclen _ (hs.ext E1) (hl.ext E1) (hcs.ext E1)).mono ?_
    rintro e w2 ⟨rfl, E2⟩
    go_wp2_with fail
    go_ret2
    exact ⟨by unfold hangR; rw [He.out, if_neg H0.out] <;> rfl, E1.trans E2⟩
set_option maxRecDepth 100000 in
set_option maxHeartbeats 2000000 in
theorem weakTop_c (s : Shape) (A : Option Addr) (cap : Nat) (l : List Plate) (PA : Option Addr) (pcap : Nat) (c : List Laid) (CA : Option Addr) (ccap : Nat) (hclen : c.length ≤ 1000) (w : World)
    (hs : Bytes w A cap s.cells) (hl : Plates w PA pcap l) (hcs : Laids w CA ccap c) (_hT : TzTab w) :
    Calls Tryd.prog 49 #[.agg #[.int .i64 s.W, .int .i64 s.D, .int .i64 s.H, .slice A s.cells.length cap], .slice PA l.length pcap, .slice CA c.length ccap] w fun e w' =>
      e = .returned (.tuple #[.int .i64 (weakR s l c), .int .i64 (compErr s l c)]) ∧ Ext w w' := by
  obtain ⟨W1, hW1, E1, B1, hz1⟩ := box_ w #[.int .i64 s.W, .int .i64 s.D, .int .i64 s.H, .slice A s.cells.length cap] 24
  have b1 := B1.cell
  obtain ⟨e0, he⟩ : ∃ e0, compErr s l c = e0 := ⟨_, rfl⟩
  have He := Lib.hid he
  by_cases h0 : e0 = 0
  · subst h0
    have h3 : s.valid = true ∧ platesB l = true ∧ compB s l c = true := by
      unfold compErr at he
      split at he
      · split at he
        · split at he
          · exact ⟨by assumption, by assumption, by assumption⟩
          · omega
        · omega
      · omega
    have H3 := Lib.hid h3
    have ok := Shape.ok_of h3.1
    have hpos := comp_pos ok h3.2.2
    clear he h3
    go_enter Tryd.func49, Tryd.ntmps49
    go_wp2_with fail
    refine (sets_ok s A cap l PA pcap c CA ccap H3.out.1 H3.out.2.1 H3.out.2.2 hclen _ (hs.ext E1) (hl.ext E1) (hcs.ext E1)).mono ?_
    rintro e w2 ⟨g, NA, ncap, AA, acap, EA, ec, OA, oc, LA, lc, ms, SA, sc, out, all, rfl, hB, hS, hrun, hall, E2⟩
    have his := setRun_is hrun
    have HA := Lib.hid (apart_of ok H3.out.2.1 hpos his hall)
    have Hw := Lib.hid (weak_eq ok his hall)
    have hol : out.length ≤ 1000 := by rw [his.len]; exact hclen
    have Hsm : Hid (∀ i, i < out.length → outAt out i < 65536) := Lib.hid (fun i hi => HA.out.small (by rw [← HA.out.len]; exact hi))
    clear hrun hall his
    go_wp2_with fail
    refine (weak_c g s A cap l PA pcap NA ncap AA acap EA ec OA oc LA lc ms out SA sc ok Hsm.out hol _ hB hS).mono ?_
    rintro e w3 ⟨rfl, E3⟩
    go_wp2_with fail
    go_ret2
    exact ⟨by unfold weakR; rw [He.out, if_pos rfl, ← Hw.out] <;> rfl, (E1.trans E2).trans E3⟩
  · have H0 := Lib.hid h0
    have e1 : (e0 != 0) = true := by simpa using h0
    have e2 : (e0 == 0) = false := by simpa using h0
    clear he h0
    go_enter Tryd.func49, Tryd.ntmps49
    go_wp2_with fail
    refine (sets_bad s A cap l PA pcap c CA ccap e0 He.out H0.out hclen _ (hs.ext E1) (hl.ext E1) (hcs.ext E1)).mono ?_
    rintro e w2 ⟨rfl, E2⟩
    go_wp2_with fail
    go_ret2
    exact ⟨by unfold weakR; rw [He.out, if_neg H0.out] <;> rfl, E1.trans E2⟩
end Go.Proofs.YtaaeapjnjjbglaaDoor

namespace Go.Proofs.YtaaeapjnjjbglaaDoor
open Go.RowKit

def muchB (n m k : Nat) : Bool := decide (600 < n) || (decide (20 < m) || decide (30 < k))
set_option maxHeartbeats 400000 in
theorem much_c (a b c : Int) (A B C : Option Addr) (n m k cn cm ck : Nat) (hn : n ≤ maxLen) (hm : m ≤ maxLen) (hk : k ≤ maxLen) (w : World) :
    Calls Tryd.prog 17 #[.agg #[.int .i64 a, .int .i64 b, .int .i64 c, .slice A n cn], .slice B m cm, .slice C k ck] w fun e w' => e = .returned (.bool (muchB n m k)) ∧ Ext w w' := by
  unfold maxLen at hn hm hk
  obtain ⟨W1, hW1, E1, B1, hz1⟩ := box_ w #[.int .i64 a, .int .i64 b, .int .i64 c, .slice A n cn] 24
  have b1 := B1.cell
  have Hm : Hid (muchB n m k = (decide ((600 : Int) < n) || (decide ((20 : Int) < m) || decide ((30 : Int) < k)))) := Lib.hid (by
    unfold muchB
    rw [show decide (600 < n) = decide ((600 : Int) < n) by simp; omega, show decide (20 < m) = decide ((20 : Int) < m) by simp; omega, show decide (30 < k) = decide ((30 : Int) < k) by simp; omega])
  cases h1 : decide ((600 : Int) < n)
  · cases h2 : decide ((20 : Int) < m)
    · cases h3 : decide ((30 : Int) < k)
      all_goals
        have Hb := Hm.out
        rw [h1, h2, h3] at Hb
        have Hb := Lib.hid Hb
        go_enter Tryd.func17, Tryd.ntmps17
        go_wp2_with fail
        go_ret
        exact ⟨by rw [Hb.out]; rfl, E1⟩
    · have Hb := Hm.out
      rw [h1, h2] at Hb
      have Hb := Lib.hid Hb
      go_enter Tryd.func17, Tryd.ntmps17
      go_wp2_with fail
      go_ret
      exact ⟨by rw [Hb.out]; rfl, E1⟩
  · have Hb := Hm.out
    rw [h1] at Hb
    have Hb := Lib.hid Hb
    go_enter Tryd.func17, Tryd.ntmps17
    go_wp2_with fail
    go_ret
    exact ⟨by rw [Hb.out]; rfl, E1⟩
end Go.Proofs.YtaaeapjnjjbglaaDoor

namespace Go.Proofs.YtaaeapjnjjbglaaDoor
open Go.RowKit

end Go.Proofs.YtaaeapjnjjbglaaDoor

namespace Go.Proofs.YtaaeapjnjjbglaaDoor
open Go.RowKit

def largeB (s : Shape) : Bool := decide (600 < s.cells.length) || (s.valid && decide (9 < fullN s.cells))
set_option maxRecDepth 100000 in
set_option maxHeartbeats 1600000 in
theorem large_c (s : Shape) (A : Option Addr) (cap : Nat) (w : World) (hs : Bytes w A cap s.cells) :
    Calls Tryd.prog 7 #[.agg #[.int .i64 s.W, .int .i64 s.D, .int .i64 s.H, .slice A s.cells.length cap]] w fun e w' => e = .returned (.bool (largeB s)) ∧ Ext w w' := by
  obtain ⟨W1, hW1, E1, B1, hz1⟩ := box_ w #[.int .i64 s.W, .int .i64 s.D, .int .i64 s.H, .slice A s.cells.length cap] 24
  have b1 := B1.cell
  have hlen := hs.len
  unfold maxLen at hlen
  obtain ⟨vv, hv⟩ : ∃ vv, s.valid = vv := ⟨_, rfl⟩
  obtain ⟨k, hk⟩ : ∃ k, fullN s.cells = k := ⟨_, rfl⟩
  have hkl : k ≤ s.cells.length := by rw [← hk]; exact fullN_le _
  have Hr : Hid (largeB s = (decide (600 < s.cells.length) || (vv && decide (9 < k)))) := Lib.hid (by unfold largeB; rw [hv, hk])
  have Hv := Lib.hid hv
  have Hk := Lib.hid hk
  by_cases hl : 600 < s.cells.length
  · have hr : largeB s = true := by rw [Hr.out]; simp [hl]
    have HR := Lib.hid hr
    clear hv hk hr
    go_enter Tryd.func7, Tryd.ntmps7
    go_wp2_with fail
    go_ret
    exact ⟨by rw [HR.out] <;> rfl, E1⟩
  · have hr : largeB s = (vv && decide (9 < k)) := by rw [Hr.out]; simp [hl]
    have HR := Lib.hid hr
    clear hv hk hr
    cases vv
    · go_enter Tryd.func7, Tryd.ntmps7
      go_wp2_with fail
      refine (validShape_c A cap s.W s.D s.H s.cells _ (hs.ext E1)).mono ?_
      rintro e w2 ⟨rfl, E2⟩
      rw [show Shape.valid ⟨s.W, s.D, s.H, s.cells⟩ = false from Hv.out]
      go_wp2_with fail
      go_ret
      exact ⟨by rw [HR.out] <;> simp <;> omega, E1.trans E2⟩
    · go_enter Tryd.func7, Tryd.ntmps7
      go_wp2_with fail
      refine (validShape_c A cap s.W s.D s.H s.cells _ (hs.ext E1)).mono ?_
      rintro e w2 ⟨rfl, E2⟩
      rw [show Shape.valid ⟨s.W, s.D, s.H, s.cells⟩ = true from Hv.out]
      have b2 := (B1.ext E2).cell
      clear b1
      go_wp2_with fail
      refine (rFull_c A cap s.W s.D s.H s.cells _ (hs.ext (E1.trans E2))).mono ?_
      rintro e w3 ⟨rfl, E3⟩
      rw [Hk.out]
      go_wp2_with fail
      go_ret
      refine ⟨?_, (E1.trans E2).trans E3⟩
      rw [HR.out]
      refine congrArg (fun b => Ending.returned (Value.bool b)) ?_
      show (decide (600 < (s.cells.length : Int)) || decide (9 < (k : Int))) = (true && decide (9 < k))
      rw [Bool.eq_iff_iff]
      simp only [Bool.or_eq_true, Bool.true_and, decide_eq_true_eq]
      omega
end Go.Proofs.YtaaeapjnjjbglaaDoor

namespace Go.Proofs.YtaaeapjnjjbglaaDoor
open Go.RowKit

/-- A row that has just been laid. -/
theorem blk_slice {w : World} {g : Nat} {t : TypeId} {cs : Array Value} (h : Blk w g t cs) {rows : List (List Value)} {n sz : Nat} (hf : rows.flatten = cs.toList) (hw : ∀ r ∈ rows, r.length = sz) (hn : rows.length = n) (hm : n ≤ maxLen) : SliceIs w (some ⟨g, 0, none⟩) n n sz rows := by
  refine ⟨hn, Nat.le_refl _, hm, hw, fun _ => ⟨g, 0, rfl, h.lt, fun i r hr j u hu => ?_⟩⟩
  have hj : j < sz := by
    rw [← hw r (List.mem_of_getElem? hr)]
    exact (List.getElem?_eq_some_iff.1 hu).1
  have := flat_get hw hr hj
  rw [hf, hu] at this
  rw [Nat.zero_add, h.cell, ← Array.getElem?_toList]
  exact this
set_option maxHeartbeats 800000 in
theorem at7_c (i x y z : Int) (t : Bool) (w : World) : Calls Tryd.prog 25 #[.int .i64 i, .int .i64 x, .int .i64 y, .int .i64 z, .bool t] w fun e w' => e = .returned (.agg #[.int .i64 i, .int .i64 x, .int .i64 y, .int .i64 z, .bool t]) ∧ Ext w w' := by
  go_enter Tryd.func25, Tryd.ntmps25
  go_wp2_with fail
  refine bodyPost_ret (by simp [results, Tryd.results25, go_sem]; try rfl) rfl ?_
  exact ⟨rfl, ext_alloc _ _⟩
set_option maxHeartbeats 800000 in
theorem two_c (a b : Int) (w : World) : Calls Tryd.prog 28 #[.int .i64 a, .int .i64 b] w fun e w' => ∃ g, e = .returned (.slice (some ⟨g, 0, none⟩) 2 2) ∧ Plates w' (some ⟨g, 0, none⟩) 2 [⟨1, 1, a, 0⟩, ⟨1, 2, b, 0⟩] ∧ Ext w w' := by
  have B := Blk.new w #[.int .i64 1, .int .i64 1, .int .i64 a, .int .u8 0, .int .i64 1, .int .i64 2, .int .i64 b, .int .u8 0] 39
  go_enter Tryd.func28, Tryd.ntmps28
  go_wp2_with fail
  go_ret
  exact ⟨_, rfl, blk_slice B rfl (by simp [Plate.cells]) rfl (by show 2 ≤ maxLen; decide), ext_alloc _ _⟩
set_option maxHeartbeats 800000 in
theorem four_c (w : World) : Calls Tryd.prog 27 #[] w fun e w' => ∃ g, e = .returned (.agg #[.int .i64 2, .int .i64 1, .int .i64 2, .slice (some ⟨g, 0, none⟩) 4 4]) ∧ Bytes w' (some ⟨g, 0, none⟩) 4 [3, 3, 3, 3] ∧ Ext w w' := by
  go_enter Tryd.func27, Tryd.ntmps27
  go_wp2_with fail
  refine bodyPost_ret (by simp [results, Tryd.results27, go_sem]; try rfl) rfl ?_
  refine ⟨_, rfl, ⟨blk_slice (t := 5) (cs := #[.int .u8 3, .int .u8 3, .int .u8 3, .int .u8 3]) ?_ rfl (by simp) rfl (by decide), ?_⟩, ?_⟩
  · have hz : (w.alloc (.cells #[.int .i64 2, .int .i64 1, .int .i64 2, .slice (some ⟨w.heap.size + 1, 0, none⟩) 4 4] 24)).heap.size = w.heap.size + 1 := by rw [World.size_alloc]
    have h := Blk.new (w.alloc (.cells #[.int .i64 2, .int .i64 1, .int .i64 2, .slice (some ⟨w.heap.size + 1, 0, none⟩) 4 4] 24)) #[.int .u8 3, .int .u8 3, .int .u8 3, .int .u8 3] 5
    rw [hz] at h
    exact h
  · intro c hc
    simp at hc
    subst hc
    exact ⟨by omega, by omega⟩
  · exact (ext_alloc _ _).trans (ext_alloc _ _)
end Go.Proofs.YtaaeapjnjjbglaaDoor

namespace Go.Proofs.YtaaeapjnjjbglaaDoor
open Go.RowKit

theorem laid_same (a b c d : Int) (t : Bool) (w : World) : (binOp .neq 64 (.agg #[.int .i64 a, .int .i64 b, .int .i64 c, .int .i64 d, .bool t]) (.agg #[.int .i64 a, .int .i64 b, .int .i64 c, .int .i64 d, .bool t])).run Tryd.prog w = .ok (.bool false) w := by
  simp [go_sem]

set_option maxRecDepth 100000 in
set_option maxHeartbeats 1600000 in
theorem sameLaid_c (A1 A2 : Option Addr) (n c1 c2 : Nat) (c : List Laid) (hcn : c.length = n) (w : World) (h1 : Laids w A1 c1 c) (h2 : Laids w A2 c2 c) :
    Calls Tryd.prog 15 #[.slice A1 n c1, .slice A2 n c2] w fun e w' => e = .returned (.bool true) ∧ Ext w w' := by
  have hn : n ≤ maxLen := by rw [← hcn]; exact Nat.le_trans h1.le h1.small
  unfold maxLen at hn
  go_enter Tryd.func15, Tryd.ntmps15
  go_wp2_with fail
  go_loopw [5] (fun i wr => ∃ k : Nat, k ≤ n ∧ i = .int .i64 k ∧ Ext w wr) (fun i _ => n - (intOf i).toNat)
  case atStart => exact ⟨0, by omega, rfl, Ext.refl _⟩
  case round =>
    obtain ⟨k, hk, rfl, E⟩ := hrel
    by_cases hlt : k < n
    · have hk2 : k < c.length := by omega
      have hg : (c.map Laid.cells)[k]? = some c[k].cells := by rw [List.getElem?_map, List.getElem?_eq_getElem hk2]; rfl
      obtain ⟨⟨a, x, y, z, t⟩, hx⟩ : ∃ x, c[k] = x := ⟨_, rfl⟩
      rw [hx] at hg
      clear hx
      obtain ⟨p, poff, rfl, hp, hpc⟩ := h1.cells (by omega)
      obtain ⟨q, qoff, rfl, hq, hqc⟩ := h2.cells (by omega)
      have p0 := E.cell (hpc k _ hg 0 _ rfl)
      have p1 := E.cell (hpc k _ hg 1 _ rfl)
      have p2 := E.cell (hpc k _ hg 2 _ rfl)
      have p3 := E.cell (hpc k _ hg 3 _ rfl)
      have p4 := E.cell (hpc k _ hg 4 _ rfl)
      have q0 := E.cell (hqc k _ hg 0 _ rfl)
      have q1 := E.cell (hqc k _ hg 1 _ rfl)
      have q2 := E.cell (hqc k _ hg 2 _ rfl)
      have q3 := E.cell (hqc k _ hg 3 _ rfl)
      have q4 := E.cell (hqc k _ hg 4 _ rfl)
      simp only [Nat.add_zero] at p0 q0 p1 p2 p3 p4 q1 q2 q3 q4
      have hpr : p < wr.heap.size := Nat.lt_of_lt_of_le hp E.size
      have hqr : q < wr.heap.size := Nat.lt_of_lt_of_le hq E.size
      have hsame := laid_same a x y z t
      clear hpc hqc hg hcn
      go_wp2_with fail
      refine wp_region_grow (by kernel_rfl) (by kernel_rfl) ?_
      repeat (go_big_quiet_step (fail))
      refine wpQuiet_nil ?_
      intro W3 hW3
      have E3 : Ext wr W3 := by
        obtain ⟨x, rfl⟩ := hW3
        exact (Ext.refl _).grow x
      clear hW3
      obtain ⟨hcW3, hfW3, hzW3⟩ := ext_facts E3
      go_wp2_with fail
      go_roundw
      case rel => exact ⟨k + 1, by omega, by go_num, E.trans E3⟩
      case measure => simp only [intOf]; omega
    · obtain rfl : k = n := by omega
      go_wp2_with fail
      go_ret
      exact ⟨rfl, E⟩
end Go.Proofs.YtaaeapjnjjbglaaDoor

namespace Go.Proofs.YtaaeapjnjjbglaaDoor
open Go.RowKit

section
variable {P : Program} {w : World} {ops : Array Oper} {o : Oper} {rest : List Oper} {a : Act} {Q : Exit → Act → World → Prop}
/-- append(s, x...) onto a row of the call's own, as one operation of a plain walk. -/
theorem wpList_append_any (hgd : o.guard = none) (s x : Operand) (t : TypeId) (ho : o.op = .call { callee := .builtin .append, args := #[s, x], argTypes := #[t, t] })
    (base : Nat) (e : TypeId) (i : TypeInfo) (z : Value) (size bytes : Nat) (ht : P.underlying t = some (.slice e)) (hi : P.info? e = some i) (hz : i.zero = some z)
    (hsize : i.size = size) (hby : i.bytes = bytes) (hzs : z.cells.size = size) (hsz : 0 < size)
    (v : Value) (n : Nat) (xs : List Value) (hs : a.eval s = v) (hown : w.ownsRow base e size v n xs)
    (A : Option Addr) (m c : Nat) (rows : List (List Value)) (hx : a.eval x = .slice A m c) (hsrc : SliceIs w A m c size rows) (hnil : A = none → c = 0) (h1 : ∀ u ∈ rows.flatten, u.oneCell' = true)
    (h63 : n + m ≤ maxLen) (hbytes : (n + m) * bytes ≤ 140737488355328) (hbase : base ≤ w.heap.size)
    (h : ∀ v' w', w'.ownsRow base e size v' (n + m) (xs ++ rows.flatten) → w.grownBy w' v.ownBlock → wpList P ops Q rest (a.put o.dst v') w') : wpList P ops Q (o :: rest) a w :=
  wpList_plain hgd fun _ hK => by
    have := step_append_any (P := P) (ops := ops) (o := o) (a := a) (Q := Q) (F := True) hgd s x t ho base e i z size bytes ht hi hz hsize hby hzs hsz v n xs hs hown A m c rows hx hsrc hnil h1 h63 hbytes hbase (fun v' w' h2 h3 => hK _ _ (h v' w' h2 h3))
    rwa [if_pos (by simp [Region.wanted, hgd])] at this
end
theorem own_setT {w : World} {base : Nat} {e : TypeId} {size : Nat} {v : Value} {n : Nat} {xs : List Value} (h : w.ownsRow base e size v n xs) {g : Nat} {t : TypeId} {cs : Array Value} (hb : Blk w g t cs) (ht : t ≠ e) (o : Nat) (u : Value) : (w.setCell ⟨g, o, none⟩ u).ownsRow base e size v n xs := by
  have hp : v.ownBlock ≠ some g := fun e' => by
    obtain ⟨cs', h'⟩ := own_typed h e'
    have e2 := (show w.heap[g]? = _ from hb).symm.trans h'
    cases e2
    exact ht rfl
  obtain ⟨h1, h2⟩ := h
  refine ⟨h1, ?_⟩
  rcases h2 with h2 | ⟨g', cap, cur, rfl, hg, hh, r⟩
  · exact Or.inl h2
  · exact Or.inr ⟨g', cap, cur, rfl, hg, (Below.heap_setCell w ⟨g, o, none⟩ u g' (fun e' => hp (by rw [e']; rfl))).trans hh, r⟩
theorem infoPlate3 : (Tryd.prog.info? 39).map (fun i => (i.zero, i.size, i.bytes)) = some (some (.agg #[.int .i64 0, .int .i64 0, .int .i64 0, .int .u8 0]), 4, 32) := by kernel_rfl
theorem infoByte3 : (Tryd.prog.info? 5).map (fun i => (i.zero, i.size, i.bytes)) = some (some (.int .u8 0), 1, 1) := by kernel_rfl
theorem empty_plate (w : World) : (Instr.buildSlice 25 0 #[]).run Tryd.prog w = .ok (.slice (some ⟨w.heap.size, 0, none⟩) 0 0) (w.alloc (.cells #[] 39)) := by
  obtain ⟨i, hi, hz, -, -⟩ := info_parts infoPlate3
  simp [Instr.buildSlice, run_underlying Tryd.underlying25, sizeOf, typeInfo, hi, newRow, Instr.fill]
  rw [show Array.range 0 = #[] from by simp [Array.range]]
  simp
theorem plates_one (l : List Plate) : ∀ u ∈ (l.map Plate.cells).flatten, u.oneCell' = true := fun u hu => by
  obtain ⟨r, hr, hu⟩ := List.mem_flatten.1 hu
  obtain ⟨x, -, rfl⟩ := List.mem_map.1 hr
  simp only [Plate.cells, List.mem_cons, List.not_mem_nil, or_false] at hu
  rcases hu with rfl | rfl | rfl | rfl <;> rfl
theorem bytes_one (cs : List Int) : ∀ u ∈ (cs.map fun c => [Value.int .u8 c]).flatten, u.oneCell' = true := fun u hu => by
  obtain ⟨r, hr, hu⟩ := List.mem_flatten.1 hu
  obtain ⟨x, -, rfl⟩ := List.mem_map.1 hr
  simp only [List.mem_cons, List.not_mem_nil, or_false] at hu
  rw [hu]
  rfl
theorem bytes_conv {w : World} {A : Option Addr} {cap : Nat} {cs : List Int} (h : Bytes w A cap cs) : (convert 22 9 (.slice A cs.length cap)).run Tryd.prog w = .ok (.string (strOfNums cs)) w := by
  rcases Nat.eq_zero_or_pos cs.length with h0 | h0
  · obtain rfl := List.eq_nil_of_length_eq_zero h0
    rw [run_convert_bytes_string w 22 9 5 A _ cap Tryd.underlying22 Tryd.underlying5 Tryd.underlying9]
    cases A with
    | none => simp [Conv.bytesToString, strOfNums, ByteArray.empty, ByteArray.emptyWithCapacity]; rfl
    | some a => simp [Conv.bytesToString, loadCells, loadCellsFrom, strOfNums, ByteArray.empty, ByteArray.emptyWithCapacity]; rfl
  · obtain ⟨b, off, c, rfl, -⟩ := h.at_ h0
    refine run_convert_bytes_arg w 22 5 Tryd.underlying22 Tryd.underlying5 b off cs.length cap cs rfl (fun i hi => ?_) _ Tryd.underlying9
    obtain ⟨b', off', c', hA, hc, -, -, hcell⟩ := h.at_ hi
    cases hA
    rw [hcell, List.getD_eq_getElem?_getD, hc]
    rfl
theorem plate_same (a b c d : Int) (w : World) : (binOp .neq 39 (.agg #[.int .i64 a, .int .i64 b, .int .i64 c, .int .u8 d]) (.agg #[.int .i64 a, .int .i64 b, .int .i64 c, .int .u8 d])).run Tryd.prog w = .ok (.bool false) w := by
  simp [go_sem]
set_option maxHeartbeats 800000 in
theorem sameB_c (a b c : Int) (A1 A2 : Option Addr) (c1 c2 : Nat) (cs : List Int) (w : World) (h1 : Bytes w A1 c1 cs) (h2 : Bytes w A2 c2 cs) :
    Calls Tryd.prog 14 #[.agg #[.int .i64 a, .int .i64 b, .int .i64 c, .slice A1 cs.length c1], .agg #[.int .i64 a, .int .i64 b, .int .i64 c, .slice A2 cs.length c2]] w fun e w' => e = .returned (.bool true) ∧ Ext w w' := by
  obtain ⟨W, hW, E, ba, bb, hz⟩ := boxes2 w #[.int .i64 a, .int .i64 b, .int .i64 c, .slice A1 cs.length c1] #[.int .i64 a, .int .i64 b, .int .i64 c, .slice A2 cs.length c2] 24 24
  have k1 := bytes_conv (h1.ext E)
  have k2 := bytes_conv (h2.ext E)
  go_enter Tryd.func14, Tryd.ntmps14
  go_wp2
  go_ret
  exact ⟨rfl, E⟩
/-- The own shape and plates stand. -/
theorem se_new {W2 W9 w10 : World} {U g4 : Nat} {PA' A10 : Option Addr} {pc' c10 : Nat} {s : Shape} {l : List Plate} {sv : Value} (own9 : W9.ownsRow U 39 4 (.slice PA' l.length pc') l.length (l.map Plate.cells).flatten) (B9 : Blk W9 g4 24 #[.int .i64 s.W, .int .i64 s.D, .int .i64 s.H, sv])
    (hU : W2.heap.size ≤ g4) (E9 : Ext W2 W9) (own10 : w10.ownsRow W9.heap.size 5 1 (.slice A10 (0 + s.cells.length) c10) (0 + s.cells.length) ([] ++ (s.cells.map fun c => [Value.int .u8 c]).flatten)) (E10 : Ext W9 w10) (hok : ∀ c ∈ s.cells, byteOk c) :
    ∃ w11, w10.setCell ⟨g4, 3, none⟩ (.slice A10 s.cells.length c10) = w11 ∧ Blk w10 g4 24 #[.int .i64 s.W, .int .i64 s.D, .int .i64 s.H, sv] ∧ Blk w11 g4 24 #[.int .i64 s.W, .int .i64 s.D, .int .i64 s.H, .slice A10 s.cells.length c10] ∧ Ext W2 w11 ∧ Bytes w11 A10 c10 s.cells ∧ Plates w11 PA' pc' l := by
  have B10 := B9.ext E10
  rw [Nat.zero_add, List.nil_append] at own10
  have o1 := own_setT own10 B10 (by decide) 3 (.slice A10 s.cells.length c10)
  have o2 := own_setT (own_ext own9 E10) B10 (by decide) 3 (.slice A10 s.cells.length c10)
  refine ⟨_, rfl, B10, B10.set_ 3 _, (E9.trans E10).setCell (p := ⟨g4, 3, none⟩) hU _, ⟨?_, hok⟩, ?_⟩
  · exact own_any (rows := s.cells.map fun c => [Value.int .u8 c]) (show 0 < 1 by decide) (fun r hr => by obtain ⟨x, _, rfl⟩ := List.mem_map.1 hr; rfl) (by rw [List.length_map]) o1
  · exact own_any (rows := l.map Plate.cells) (show 0 < 4 by decide) (fun r hr => by obtain ⟨x, _, rfl⟩ := List.mem_map.1 hr; rfl) (by rw [List.length_map]) o2
structure Se3 (W0 : World) (U : Nat) (PV : Value) (n : Nat) (rows : List (List Value)) (sa za : Array Value) (L : Nat → Bool) (us : Nat → Value) (w : World) : Prop where
  x : Ext W0 w
  g1 : L 1 = true → L 3 = false → w.ownsRow U 39 4 (us 1) 0 []
  g2 : L 3 = true → w.ownsRow U 39 4 (us 3) n rows.flatten
  g4 : L 4 = true → L 5 = false → Blk w (bk (us 4)) 24 za
  g5 : L 5 = true → Blk w (bk (us 4)) 24 sa
  g6 : L 4 = true → U ≤ bk (us 4)
  f0 : L 0 = true → us 0 = .agg sa
  f2 : L 2 = true → us 2 = PV
  f4 : L 4 = true → us 4 = .pointer (some ⟨bk (us 4), 0, none⟩)
  f6 : L 6 = true → us 6 = us 3
set_option maxRecDepth 100000 in
set_option maxHeartbeats 8000000 in
theorem searches_walk (s : Shape) (A : Option Addr) (cap : Nat) (l : List Plate) (PA : Option Addr) (pcap : Nat) (w : World) (hs : Bytes w A cap s.cells) (hl : Plates w PA pcap l) (hnA : A = none → cap = 0) (hnP : PA = none → pcap = 0) (hT : TzTab w) :
    Calls Tryd.prog 3 #[.agg #[.int .i64 s.W, .int .i64 s.D, .int .i64 s.H, .slice A s.cells.length cap], .slice PA l.length pcap] w fun e w' => e = .returned (.bool true) ∧ Ext w w' := by
  have hn2 := hl.len
  have hn3 := hs.len
  unfold maxLen at hn2 hn3
  obtain ⟨W1, hW1, E1, B1, hz1⟩ := box_ w #[.int .i64 s.W, .int .i64 s.D, .int .i64 s.H, .slice A s.cells.length cap] 24
  have b1 := B1.cell
  obtain ⟨lb, hlb⟩ : ∃ lb, largeB s = lb := ⟨_, rfl⟩
  have CL := large_c s A cap W1 (hs.ext E1)
  rw [hlb] at CL
  have hsl : lb = false → s.cells.length ≤ 600 := fun h => by
    rw [← hlb] at h
    unfold largeB at h
    simp only [Bool.or_eq_false_iff, decide_eq_false_iff_not] at h
    omega
  have Hsl := Lib.hid hsl
  have HE1 := Lib.hid E1
  have HB1 := Lib.hid B1
  clear hlb hz1 E1 B1 hsl
  go_enter Tryd.func3, Tryd.ntmps3
  go_wp2_with fail
  refine CL.mono ?_
  rintro e W2 ⟨rfl, E2⟩
  have HE := Lib.hid (HE1.out.trans E2)
  have HB := Lib.hid (HB1.out.ext E2)
  clear b1 CL hW1 E2
  cases lb
  · by_cases hll : 20 < l.length
    · have g0 : decide (20 < l.length) = true := decide_eq_true hll
      go_wp2_with fail
      go_ret
      exact ⟨rfl, HE.out⟩
    · have hs600 := Hsl.out rfl
      have g0 : decide (20 < l.length) = false := decide_eq_false hll
      have Hs := Lib.hid (hs.ext HE.out)
      have Hl := Lib.hid (hl.ext HE.out)
      have HT := Lib.hid (hT.ext HE.out)
      have Hnil := Lib.hid hnP
      have HnA := Lib.hid hnA
      clear hs hl hT hnA hnP
      go_upto_region 3 with (fail)
      obtain ⟨iL, hiL, zL0, zL1, zL2⟩ := info_parts infoPlate3
      refine wp_region_by (Se3 W2 W2.heap.size (.slice PA l.length pcap) l.length (l.map Plate.cells) #[.int .i64 s.W, .int .i64 s.D, .int .i64 s.H, .slice A s.cells.length cap] #[.int .i64 0, .int .i64 0, .int .i64 0, .slice none 0 0]) (by kernel_rfl) (by kernel_rfl) (by kernel_rfl) (fun us => ⟨(Ext.refl _).drew, (nofun), (nofun), (nofun), (nofun), (nofun), (nofun), (nofun), (nofun), (nofun)⟩) ⟨?_, ?_, ?_, ?_, ?_, ?_, ?_, trivial⟩ ?_
      · intro L us wx K a ha hp hd hun hI hK
        have HX := hI.x
        have bb := (HB.out.ext hI.x).cell
        clear hp HX
        replace hd := Lib.hid hd
        simp only [putAll, Act.put, List.setIfInBounds_toArray, List.set_cons_succ, List.set_cons_zero, Nat.reduceAdd] at ha
        subst ha
        simp only [Act.put, List.setIfInBounds_toArray, List.set_cons_succ, List.set_cons_zero] at hK
        go_simp
        refine hK _ _ ?_
        first
        | (refine ⟨hI.x, hI.g1, hI.g2, hI.g4, hI.g5, hI.g6, ?_, hI.f2, hI.f4, hI.f6⟩ <;> (first | exact fun _ => rfl | skip))
        | (refine ⟨?_, ?_, ?_, ?_, ?_, ?_, ?_, ?_, ?_, ?_⟩ <;> (first | exact hI.x | exact hI.g1 | exact hI.g2 | exact hI.g4 | exact hI.g5 | exact hI.g6 | exact hI.f0 | exact hI.f2 | exact hI.f4 | exact hI.f6 | exact fun _ => rfl | skip))
      · intro L us wx K a' ha hp hd hun hI hK
        have h3 : L 3 = false := Bool.eq_false_iff.2 fun hl => absurd (hd 3 1 hl (by kernel_rfl)) (by rw [hun]; decide)
        have h5 : L 5 = false := Bool.eq_false_iff.2 fun hl => absurd (hd 5 3 hl (by kernel_rfl)) (by rw [h3]; decide)
        have hUx := hI.x.size
        have er := empty_plate wx
        have EW : Ext wx (wx.alloc (.cells #[] 39)) := (Ext.refl wx).alloc _
        replace hd := Lib.hid hd
        simp only [putAll, Act.put, List.setIfInBounds_toArray, List.set_cons_succ, List.set_cons_zero, Nat.reduceAdd] at ha
        subst ha
        simp only [Act.put, List.setIfInBounds_toArray, List.set_cons_succ, List.set_cons_zero] at hK
        go_simp
        exact hK _ _ ⟨(hI.x.trans EW), (fun _ _ => World.ownsRow_made wx #[] 0 hUx (Nat.zero_le _) (by simp)), (fun h => absurd (show L 3 = true from h) (by rw [h3]; decide)), (fun h h2 => (hI.g4 h h2).ext EW), (fun h => absurd (show L 5 = true from h) (by rw [h5]; decide)), hI.g6, hI.f0, hI.f2, hI.f4, hI.f6⟩
      · intro L us wx K a ha hp hd hun hI hK
        have HX := hI.x
        clear hp HX
        replace hd := Lib.hid hd
        simp only [putAll, Act.put, List.setIfInBounds_toArray, List.set_cons_succ, List.set_cons_zero, Nat.reduceAdd] at ha
        subst ha
        simp only [Act.put, List.setIfInBounds_toArray, List.set_cons_succ, List.set_cons_zero] at hK
        go_simp
        refine hK _ _ ?_
        first
        | exact ⟨hI.x, hI.g1, hI.g2, hI.g4, hI.g5, hI.g6, hI.f0, hI.f2, hI.f4, hI.f6⟩
        | (refine ⟨?_, ?_, ?_, ?_, ?_, ?_, ?_, ?_, ?_, ?_⟩ <;> (first | exact hI.x | exact hI.g1 | exact hI.g2 | exact hI.g4 | exact hI.g5 | exact hI.g6 | exact hI.f0 | exact hI.f2 | exact hI.f4 | exact hI.f6 | exact fun _ => rfl | skip))
      · intro L us wx K a' ha hp hd hun hI hK
        have own := hI.g1 (hp 1 (by kernel_rfl)) hun
        have u2 := hI.f2 (hp 2 (by kernel_rfl))
        have h5 : L 5 = false := Bool.eq_false_iff.2 fun hl => absurd (hd 5 3 hl (by kernel_rfl)) (by rw [hun]; decide)
        have h6 : L 6 = false := Bool.eq_false_iff.2 fun hl => absurd (hd 6 3 hl (by kernel_rfl)) (by rw [hun]; decide)
        have hS := Hl.out.ext hI.x
        have hUx := hI.x.size
        obtain ⟨v0, hv0⟩ : ∃ v, us 1 = v := ⟨_, rfl⟩
        rw [hv0] at own
        replace hd := Lib.hid hd
        simp only [putAll, Act.put, List.setIfInBounds_toArray, List.set_cons_succ, List.set_cons_zero, Nat.reduceAdd, hv0, u2] at ha
        subst ha
        simp only [Act.put, List.setIfInBounds_toArray, List.set_cons_succ, List.set_cons_zero] at hK
        refine step_append_any rfl (.tmp 28) (.tmp 29) 25 rfl W2.heap.size 39 iL _ 4 32 Tryd.underlying25 hiL zL0 zL1 zL2 rfl (by decide) v0 0 [] rfl own PA l.length pcap (l.map Plate.cells) rfl hS Hnil.out (plates_one l) (by unfold maxLen; omega) (by omega) hUx ?_
        intro v2 w2 own2 hg2
        rw [Nat.zero_add, List.nil_append] at own2
        have hfar : ∀ k, v0.ownBlock = some k → W2.heap.size ≤ k := fun k hk => (own.lt k hk).1
        exact hK _ _ ⟨(hI.x.grown hg2 hfar), (fun _ h => nomatch (show true = false from h)), (fun _ => own2), (fun h h2 => blkGrown (hI.g4 h h2) own hg2 (by decide)), (fun h => absurd (show L 5 = true from h) (by rw [h5]; decide)), hI.g6, hI.f0, hI.f2, hI.f4, (fun h => absurd (show L 6 = true from h) (by rw [h6]; decide))⟩
      · intro L us wx K a' ha hp hd hun hI hK
        have h5 : L 5 = false := Bool.eq_false_iff.2 fun hl => absurd (hd 5 4 hl (by kernel_rfl)) (by rw [hun]; decide)
        have hUx := hI.x.size
        have EW : Ext wx (wx.alloc (.cells #[.int .i64 0, .int .i64 0, .int .i64 0, .slice none 0 0] 24)) := (Ext.refl wx).alloc _
        replace hd := Lib.hid hd
        simp only [putAll, Act.put, List.setIfInBounds_toArray, List.set_cons_succ, List.set_cons_zero, Nat.reduceAdd] at ha
        subst ha
        simp only [Act.put, List.setIfInBounds_toArray, List.set_cons_succ, List.set_cons_zero] at hK
        go_simp
        exact hK _ _ ⟨(hI.x.trans EW), (fun h h2 => own_ext (hI.g1 h h2) EW), (fun h => own_ext (hI.g2 h) EW), (fun _ _ => Blk.new _ _ _), (fun h => absurd (show L 5 = true from h) (by rw [h5]; decide)), (fun _ => hUx), hI.f0, hI.f2, (fun _ => rfl), hI.f6⟩
      · intro L us wx K a' ha hp hd hun hI hK
        have h3 := hp 3 (by kernel_rfl)
        have h4 := hp 4 (by kernel_rfl)
        have u0 := hI.f0 (hp 0 (by kernel_rfl))
        have u4 := hI.f4 h4
        have b4 := hI.g4 h4 hun
        have own := hI.g2 h3
        have hU4 := hI.g6 h4
        obtain ⟨g4, hg4⟩ : ∃ g, bk (us 4) = g := ⟨_, rfl⟩
        rw [hg4] at u4 b4 hU4
        have c4 := b4.cell
        have fr4 := b4.frozen
        have l4 := b4.lt
        have B5 := (((b4.set_ 0 (.int .i64 s.W)).set_ 1 (.int .i64 s.D)).set_ 2 (.int .i64 s.H)).set_ 3 (.slice A s.cells.length cap)
        have O5 := own_setT (own_setT (own_setT (own_setT own b4 (by decide) 0 (.int .i64 s.W)) (b4.set_ 0 _) (by decide) 1 (.int .i64 s.D)) ((b4.set_ 0 _).set_ 1 _) (by decide) 2 (.int .i64 s.H)) (((b4.set_ 0 _).set_ 1 _).set_ 2 _) (by decide) 3 (.slice A s.cells.length cap)
        have HB5 := Lib.hid B5
        have HO5 := Lib.hid O5
        clear B5 O5 own b4
        replace hd := Lib.hid hd
        simp only [putAll, Act.put, List.setIfInBounds_toArray, List.set_cons_succ, List.set_cons_zero, Nat.reduceAdd, u0, u4] at ha
        subst ha
        simp only [Act.put] at hK
        have U4 := Lib.hid hg4
        clear u4 hg4
        go_simp
        exact hK undef _ ⟨((((hI.x.setCell (p := ⟨g4, 0, none⟩) hU4 _).setCell (p := ⟨g4, 1, none⟩) hU4 _).setCell (p := ⟨g4, 2, none⟩) hU4 _).setCell (p := ⟨g4, 3, none⟩) hU4 _), (fun _ h => absurd (show L 3 = false from h) (by rw [h3]; decide)), (fun _ => HO5.out), (fun _ h => nomatch (show true = false from h)), (fun _ => by show Blk _ (bk (us 4)) _ _; rw [U4.out]; exact HB5.out), hI.g6, hI.f0, hI.f2, hI.f4, hI.f6⟩
      · intro L us wx K a ha hp hd hun hI hK
        have HX := hI.x
        clear hp HX
        replace hd := Lib.hid hd
        simp only [putAll, Act.put, List.setIfInBounds_toArray, List.set_cons_succ, List.set_cons_zero, Nat.reduceAdd] at ha
        subst ha
        simp only [Act.put, List.setIfInBounds_toArray, List.set_cons_succ, List.set_cons_zero] at hK
        go_simp
        refine hK _ _ ?_
        first
        | (refine ⟨hI.x, hI.g1, hI.g2, hI.g4, hI.g5, hI.g6, hI.f0, ?_, hI.f4, hI.f6⟩ <;> (first | exact fun _ => rfl | skip))
        | (refine ⟨?_, ?_, ?_, ?_, ?_, ?_, ?_, ?_, ?_, ?_⟩ <;> (first | exact hI.x | exact hI.g1 | exact hI.g2 | exact hI.g4 | exact hI.g5 | exact hI.g6 | exact hI.f0 | exact hI.f2 | exact hI.f4 | exact hI.f6 | exact fun _ => rfl | skip))
      intro L us W9 hall hI
      have u4 := hI.f4 (hall 4 (by simp))
      have u6 := hI.f6 (hall 6 (by simp))
      have own9 := hI.g2 (hall 3 (by simp))
      have B9 := hI.g5 (hall 5 (by simp))
      have hU4 := hI.g6 (hall 4 (by simp))
      have HX9 := Lib.hid hI.x
      obtain ⟨g4, hg4⟩ : ∃ g, bk (us 4) = g := ⟨_, rfl⟩
      rw [hg4] at u4 B9 hU4
      obtain ⟨PA', pc', u3⟩ := ownForm own9
      rw [u3] at u6 own9
      simp only [putAll, Act.put, List.setIfInBounds_toArray, List.set_cons_succ, List.set_cons_zero, Nat.reduceAdd, u3, u4, u6]
      obtain ⟨x0, hx0⟩ : ∃ x, us 0 = x := ⟨_, rfl⟩
      obtain ⟨x1, hx1⟩ : ∃ x, us 1 = x := ⟨_, rfl⟩
      obtain ⟨x2, hx2⟩ : ∃ x, us 2 = x := ⟨_, rfl⟩
      rw [hx0, hx1, hx2]
      have Hown9 := Lib.hid own9
      have HB9 := Lib.hid B9
      have HU4 := Lib.hid hU4
      have b2 := (HB.out.ext HX9.out).cell
      have l2 := (HB.out.ext HX9.out).lt
      have hsB := Lib.hid (Hs.out.ext HX9.out)
      obtain ⟨iB, hiB, zB0, zB1, zB2⟩ := info_parts infoByte3
      have m1 : 0 + s.cells.length ≤ maxLen := by unfold maxLen; omega
      have m2 : (0 + s.cells.length) * 1 ≤ 140737488355328 := by omega
      clear u3 u4 u6 own9 B9 hU4 hg4 hx0 hx1 hx2 hI hall
      go_wp2_with (at_builtin; refine wpList_append_any rfl (.tmp 31) (.tmp 33) 22 rfl W9.heap.size 5 iB _ 1 1 Tryd.underlying22 hiB zB0 zB1 zB2 rfl (by decide) _ 0 [] rfl (World.ownsRow_made W9 #[] 0 (Nat.le_refl _) (by unfold maxLen; omega) rfl) A s.cells.length cap (s.cells.map fun c => [Value.int .u8 c]) rfl (SliceIs.ext hsB.out.1 ((Ext.refl W9).alloc _)) HnA.out (bytes_one s.cells) m1 m2 (by simp) ?_; intro v' w10 own10 hg10; obtain ⟨A10, c10, rfl⟩ := ownForm own10; obtain ⟨w11, hw11, B10, B11, EW11, hb11, hp11⟩ := se_new Hown9.out HB9.out HU4.out HX9.out own10 (((Ext.refl W9).alloc _).grown hg10 (fun r e => by cases e; exact Nat.le_refl _)) hsB.out.2; have c4 := B10.cell; have f4 := B10.frozen; have l4 := B10.lt; have b5 := B11.cell; have b2 := (HB.out.ext EW11).cell)
      have HW := Lib.hid EW11
      have HBo := Lib.hid B11
      have Hb := Lib.hid hb11
      have Hp := Lib.hid hp11
      have HE0 := Lib.hid (Ext.refl w11)
      obtain ⟨L, hL⟩ : ∃ L, composeL s l = L := ⟨_, rfl⟩
      obtain ⟨eE, heE⟩ : ∃ e, composeE s l = e := ⟨_, rfl⟩
      obtain ⟨kI, hkI⟩ : ∃ e, countI s l = e := ⟨_, rfl⟩
      obtain ⟨aE, haE⟩ : ∃ e, askErr s l = e := ⟨_, rfl⟩
      obtain ⟨lI, hlI⟩ : ∃ e, leastI s l = e := ⟨_, rfl⟩
      obtain ⟨lE, hlE⟩ : ∃ e, leastE s l = e := ⟨_, rfl⟩
      have C1 := Lib.hid (fun (W : World) (E : Ext w11 W) => compose_c s A10 c10 l PA' pc' W (Hb.out.ext E) (Hp.out.ext E) ((HT.out.ext HW.out).ext E))
      have C2 := Lib.hid (fun (W : World) (E : Ext w11 W) => rCompose_c s A cap l PA pcap W ((Hs.out.ext HW.out).ext E) ((Hl.out.ext HW.out).ext E))
      have C3 := Lib.hid (fun (W : World) (E : Ext w11 W) => count_c s A10 c10 l PA' pc' W (Hb.out.ext E) (Hp.out.ext E) ((HT.out.ext HW.out).ext E))
      have C4 := Lib.hid (fun (W : World) (E : Ext w11 W) => rCount_c s A cap l PA pcap W ((Hs.out.ext HW.out).ext E) ((Hl.out.ext HW.out).ext E))
      have C5 := Lib.hid (fun (W : World) (E : Ext w11 W) => least_c s A10 c10 l PA' pc' W (Hb.out.ext E) (Hp.out.ext E))
      have C6 := Lib.hid (fun (W : World) (E : Ext w11 W) => rLeast_c s A cap l PA pcap W ((Hs.out.ext HW.out).ext E) ((Hl.out.ext HW.out).ext E))
      rw [hL, heE] at C1 C2
      rw [hkI, haE] at C3 C4
      rw [hlI, hlE] at C5 C6
      clear hw11 B10 B11 EW11 hb11 hp11 c4 f4 l4 own10 hg10 hL heE hkI haE hlI hlE l2
      refine (C1.out _ HE0.out).mono ?_
      rintro e V1 ⟨LA, lc, rfl, hL1, hLn, E6⟩
      have HL1 := Lib.hid hL1
      have HLn := Lib.hid hLn
      have HE1' := Lib.hid (HE0.out.trans E6)
      clear E6 b2 b5 hL1 hLn HE1
      have b3 := (HBo.out.ext HE1'.out).cell
      have b4 := ((HB.out.ext HW.out).ext HE1'.out).cell
      go_wp2_with fail
      refine (C2.out _ HE1'.out).mono ?_
      rintro e V2 ⟨LB, lb, rfl, hL2, -, E6⟩
      have HL2 := Lib.hid hL2
      have HL12 := Lib.hid (HL1.out.ext E6)
      have HE2' := Lib.hid (HE1'.out.trans E6)
      clear E6 b3 b4 hL2
      have b5 := (HBo.out.ext HE2'.out).cell
      have b6 := ((HB.out.ext HW.out).ext HE2'.out).cell
      go_wp2_with fail
      refine (C3.out _ HE2'.out).mono ?_
      rintro e V3 ⟨rfl, E6⟩
      have HL13 := Lib.hid (HL12.out.ext E6)
      have HL23 := Lib.hid (HL2.out.ext E6)
      have HE3' := Lib.hid (HE2'.out.trans E6)
      clear E6 b5 b6
      have b7 := (HBo.out.ext HE3'.out).cell
      have b8 := ((HB.out.ext HW.out).ext HE3'.out).cell
      go_wp2_with fail
      refine (C4.out _ HE3'.out).mono ?_
      rintro e V4 ⟨rfl, E6⟩
      have HL14 := Lib.hid (HL13.out.ext E6)
      have HL24 := Lib.hid (HL23.out.ext E6)
      have HE4' := Lib.hid (HE3'.out.trans E6)
      clear E6 b7 b8
      have b9 := (HBo.out.ext HE4'.out).cell
      have b10 := ((HB.out.ext HW.out).ext HE4'.out).cell
      go_wp2_with fail
      refine (C5.out _ HE4'.out).mono ?_
      rintro e V5 ⟨rfl, E6⟩
      have HL15 := Lib.hid (HL14.out.ext E6)
      have HL25 := Lib.hid (HL24.out.ext E6)
      have HE5' := Lib.hid (HE4'.out.trans E6)
      clear E6 b9 b10
      have b11 := (HBo.out.ext HE5'.out).cell
      have b12 := ((HB.out.ext HW.out).ext HE5'.out).cell
      go_wp2_with fail
      refine (C6.out _ HE5'.out).mono ?_
      rintro e V6 ⟨rfl, E6⟩
      have HL16 := Lib.hid (HL15.out.ext E6)
      have HL26 := Lib.hid (HL25.out.ext E6)
      have HE6' := Lib.hid (HE5'.out.trans E6)
      clear E6 b11 b12
      have b13 := (HBo.out.ext HE6'.out).cell
      have b14 := ((HB.out.ext HW.out).ext HE6'.out).cell
      go_wp2_with fail
      refine (sameB_c s.W s.D s.H A10 A c10 cap s.cells V6 (Hb.out.ext HE6'.out) ((Hs.out.ext HW.out).ext HE6'.out)).mono ?_
      rintro e V7 ⟨rfl, E7⟩
      have HL17 := Lib.hid (HL16.out.ext E7)
      have HL27 := Lib.hid (HL26.out.ext E7)
      have HE7' := Lib.hid (HE6'.out.trans E7)
      clear E7 b13 b14
      go_wp2_with fail
      go_loopw [85] (fun i wr => ∃ k : Nat, k ≤ l.length ∧ i = .int .i64 k ∧ Ext V7 wr) (fun i _ => l.length - (intOf i).toNat)
      case atStart => exact ⟨0, by omega, rfl, Ext.refl _⟩
      case round =>
        obtain ⟨k, hk, rfl, E⟩ := hrel
        by_cases hlt : k < l.length
        · obtain ⟨b, off, p, hPA, hp, hb, p0, p1, p2, p3⟩ := (((Hl.out.ext HW.out).ext HE7'.out).ext E).at_ hlt
          obtain ⟨b', off', p', hPA', hp', hb', q0, q1, q2, q3⟩ := ((Hp.out.ext HE7'.out).ext E).at_ hlt
          obtain rfl : p' = p := Option.some.inj (hp'.symm.trans hp)
          obtain ⟨pw, pd, pn, pc⟩ := p'
          subst hPA hPA'
          have hsame := plate_same pw pd pn pc
          have HE := Lib.hid E
          simp only at p0 p1 p2 p3 q0 q1 q2 q3
          clear hp hp' E
          go_wp2_with fail
          refine wp_region_grow (by kernel_rfl) (by kernel_rfl) ?_
          repeat (go_big_quiet_step (fail))
          refine wpQuiet_nil ?_
          intro W3 hW3
          have E3 : Ext wr W3 := by
            obtain ⟨x, rfl⟩ := hW3
            exact (Ext.refl _).grow x
          clear hW3
          obtain ⟨hcW3, hfW3, hzW3⟩ := ext_facts E3
          have HE3 := Lib.hid E3
          clear hcW3 hfW3 hzW3 p0 p1 p2 p3 q0 q1 q2 q3 E3
          go_wp2_with fail
          go_roundw
          case rel => exact ⟨k + 1, by omega, by go_num, HE.out.trans HE3.out⟩
          case measure => simp only [intOf]; omega
        · obtain rfl : k = l.length := by omega
          go_wp2_with fail
          refine (sameLaid_c LA LB L.length lc lb L rfl wr (HL17.out.ext E) (HL27.out.ext E)).mono ?_
          rintro e V8 ⟨rfl, E8⟩
          go_wp2_with fail
          go_ret
          exact ⟨by simp, ((((HE.out.trans HW.out).trans HE7'.out).trans E).trans E8)⟩
  · go_wp2_with fail
    go_ret
    exact ⟨rfl, HE.out⟩
end Go.Proofs.YtaaeapjnjjbglaaDoor

namespace Go.Proofs.YtaaeapjnjjbglaaDoor
open Go.RowKit Go.ChangeShapes Go.WideShapes Go.ChangeAt Go.Deep

theorem Tryd.own : ownKnob Tryd.prog.godebug = none := by kernel_rfl
theorem Tryd.laidOut : laidOutB Tryd.prog = true := by kernel_rfl

theorem list_of {α : Type} (p : Nat → α → Prop) (n : Nat) (h : ∀ i, i < n → ∃ x, p i x) : ∃ l : List α, l.length = n ∧ ∀ i x, l[i]? = some x → p i x := by
  induction n with
  | zero => exact ⟨[], rfl, fun i x hx => by simp at hx⟩
  | succ n ih =>
    obtain ⟨l, hl, hp⟩ := ih (fun i hi => h i (by omega))
    obtain ⟨x, hx⟩ := h n (by omega)
    refine ⟨l ++ [x], by simp [hl], fun i y hy => ?_⟩
    rcases Nat.lt_or_ge i n with hi | hi
    · rw [List.getElem?_append_left (by omega)] at hy
      exact hp i y hy
    · rw [List.getElem?_append_right (by omega), hl] at hy
      obtain rfl : i = n := by
        rcases Nat.eq_or_lt_of_le hi with h' | h'
        · exact h'.symm
        · rw [List.getElem?_eq_none (by simp; omega)] at hy; cases hy
      simp at hy
      subst hy
      exact hx

section
variable {H : Type} {enc : TypeId × Value → H} {P : Program} {w : World} {base : Nat} {spare : Nat → Bool} {held : Bool}

theorem rows_of_trod {t e : TypeId} {fuel sz : Nat} {A : Option Addr} {n cap : Nat} {x : DataW H × List MemPlace} (ht : P.underlying t = some (.slice e)) (hC : P.cellsOf e = sz) (hsz : 0 < sz)
    (h : DataW.trod enc P w base spare held fuel t [.slice A n cap] = some x) :
    ∃ rows : List (List Value), SliceIs w A n cap sz rows ∧ ∀ r ∈ rows, ∃ (m : Nat) (y : DataW H × List MemPlace), DataW.trod enc P w base spare held m e r = some y := by
  rcases open_slice ht h with ⟨h0, _⟩ | ⟨a, len, cap', m, fl, D, Pl, hcs, _, hl, hm, hmm, _, hi⟩
  · simp only [List.cons.injEq, Value.slice.injEq, and_true] at h0
    obtain ⟨rfl, rfl, rfl⟩ := h0
    exact ⟨[], ⟨rfl, Nat.le_refl _, by unfold maxLen; omega, by simp, fun h => by omega⟩, by simp⟩
  · simp only [List.cons.injEq, Value.slice.injEq, and_true] at hcs
    obtain ⟨rfl, rfl, rfl⟩ := hcs
    rw [hC] at hi
    have hnm : n ≤ m := by rw [hmm]; split <;> omega
    obtain ⟨rows, hlen, hrow⟩ := list_of (fun i r => w.cells? base (a.add (i * sz)) sz = some r ∧ DataW.trod enc P w base spare held fl e r = some (D i, Pl i)) n (fun i hin => hi i (by omega))
    refine ⟨rows, ⟨hlen, hl, hm, ?_, fun hn => ?_⟩, ?_⟩
    · intro r hr
      obtain ⟨i, hir⟩ := List.getElem?_of_mem hr
      exact (World.cells?_some (hrow i r hir).1).2.1
    · have h0 := hi 0 (by omega)
      obtain ⟨cs0, hc0, _⟩ := h0
      obtain ⟨_, hl0, hat0⟩ := World.cells?_some hc0
      have hcell0 := hat0 0 hsz
      have hsome : (w.cell? a).isSome = true := by
        have : (a.add (0 * sz)).add 0 = a := by simp [Addr.add]
        rw [this] at hcell0
        rw [hcell0, List.getElem?_eq_getElem (by omega)]
        rfl
      obtain ⟨b, off, spot⟩ := a
      have hspot : spot = none := by
        cases spot with
        | none => rfl
        | some q =>
          exfalso
          unfold World.cell? at hsome
          simp only at hsome
          split at hsome <;> simp at hsome
      subst hspot
      obtain ⟨u, hu⟩ := Option.isSome_iff_exists.1 hsome
      refine ⟨b, off, rfl, World.block_lt_of_cell? w _ hu, fun i r hr j u hu => ?_⟩
      obtain ⟨_, hlr, hat⟩ := World.cells?_some (hrow i r hr).1
      have hj : j < sz := by
        rcases Nat.lt_or_ge j r.length with h' | h'
        · omega
        · rw [List.getElem?_eq_none h'] at hu; cases hu
      have hadd : ((⟨b, off, none⟩ : Addr).add (i * sz)).add j = ⟨b, off + i * sz + j, none⟩ := by
        unfold Addr.add
        by_cases h1 : i * sz = 0 <;> by_cases h2 : j = 0 <;> simp [h1, h2]
      rw [← hadd, hat j hj]
      exact hu
    · intro r hr
      obtain ⟨i, hir⟩ := List.getElem?_of_mem hr
      exact ⟨_, _, (hrow i r hir).2⟩

/-- All arguments read behind the call as they did, where the world has only grown. -/
theorem trodAll_ext {ts : List TypeId} (hl : laidOutB P = true) {W W' : World} (hb : Ext W W') :
    ∀ {vs : List Value} {ds : List (DataW H)} {ps : List MemPlace}, (∀ t ∈ ts, P.readableRec t = true ∧ t < P.types.size) → DataW.TrodAll enc P W 0 (fun _ => true) true ts vs ds ps → (∀ x ∈ ps, x.block < W.heap.size) →
      DataW.TrodAll enc P W' 0 (fun b => decide (b < W.heap.size)) true ts vs ds ps := by
  induction ts with
  | nil =>
    intro vs ds ps _ h _
    obtain ⟨rfl, rfl, rfl⟩ := trodAll_nil h
    exact trodAll_mk0
  | cons t ts ih =>
    intro vs ds ps hr h hlt
    obtain ⟨v, vs', d, ds', p, q, rfl, rfl, rfl, hd, hrest⟩ := trodAll_cons h
    exact ⟨p, q, Below.trod hl (hr t (by simp)).1 (hr t (by simp)).2 hd hb (fun x hx => hlt x (by simp [hx])), ih (fun t' ht' => hr t' (by simp [ht'])) hrest (fun x hx => hlt x (by simp [hx])), rfl⟩
end
end Go.Proofs.YtaaeapjnjjbglaaDoor

namespace Go.Proofs.YtaaeapjnjjbglaaDoor
open Go.RowKit Go.ChangeShapes Go.WideShapes Go.ChangeAt Go.Deep Go.Joins

theorem cells_u8 : Tryd.prog.cellsOf 5 = 1 := by kernel_rfl
theorem cells_int : Tryd.prog.cellsOf 3 = 1 := by kernel_rfl
theorem cells_bool : Tryd.prog.cellsOf 4 = 1 := by kernel_rfl
theorem cells_cell : Tryd.prog.cellsOf 56 = 3 := by kernel_rfl
theorem cells_plate : Tryd.prog.cellsOf 39 = 4 := by kernel_rfl
theorem cells_laid : Tryd.prog.cellsOf 64 = 5 := by kernel_rfl
theorem cells_shape : Tryd.prog.cellsOf 24 = 4 := by kernel_rfl

theorem rows_map {α : Type} (f : α → List Value) {rows : List (List Value)} {xs : List α} (hl : xs.length = rows.length) (h : ∀ (i : Nat) (x : α), xs[i]? = some x → rows[i]? = some (f x)) : rows = xs.map f := by
  apply List.ext_getElem?
  intro i
  rw [List.getElem?_map]
  rcases Nat.lt_or_ge i rows.length with hi | hi
  · have : xs[i]? = some xs[i] := List.getElem?_eq_getElem (by omega)
    rw [this, h i _ this]
    rfl
  · rw [List.getElem?_eq_none hi, List.getElem?_eq_none (by omega)]
    rfl

section
variable {H : Type} {enc : TypeId × Value → H} {w : World} {base : Nat} {spare : Nat → Bool} {held : Bool}

set_option maxRecDepth 100000 in
theorem bytes_of_trod {fuel n cap : Nat} {A : Option Addr} {x : DataW H × List MemPlace}
    (h : DataW.trod enc Tryd.prog w base spare held fuel 22 [.slice A n cap] = some x) : ∃ cs : List Int, cs.length = n ∧ Bytes w A cap cs := by
  obtain ⟨rows, hS, hr⟩ := rows_of_trod Tryd.underlying22 cells_u8 (by omega) h
  obtain ⟨cs, hl, hp⟩ := list_of (fun i (c : Int) => rows[i]? = some [.int .u8 c] ∧ byteOk c) n (fun i hi => by
    have hi' : i < rows.length := by rw [hS.len]; exact hi
    have hget : rows[i]? = some rows[i] := List.getElem?_eq_getElem hi'
    obtain ⟨m, y, hy⟩ := hr _ (List.mem_of_getElem? hget)
    have hlen := hS.wide _ (List.mem_of_getElem? hget)
    generalize rows[i] = r at hget hy hlen
    match r, hlen with
    | [c0], _ =>
      obtain ⟨a, e0, _, wa⟩ := DataW.trod_int Tryd.underlying5 hy
      simp at e0
      subst e0
      exact ⟨a, hget, bounds_u8 wa⟩)
  refine ⟨cs, hl, ?_, fun c hm => ?_⟩
  · have := rows_map (fun c => [.int .u8 c]) (hl.trans hS.len.symm) fun i x hx => (hp i x hx).1
    rw [← this, hl]
    exact hS
  · obtain ⟨i, hi⟩ := List.getElem?_of_mem hm
    exact (hp i c hi).2

set_option maxRecDepth 100000 in
theorem plates_of_trod {fuel n cap : Nat} {A : Option Addr} {x : DataW H × List MemPlace}
    (h : DataW.trod enc Tryd.prog w base spare held fuel 25 [.slice A n cap] = some x) : ∃ l : List Plate, l.length = n ∧ Plates w A cap l := by
  obtain ⟨rows, hS, hr⟩ := rows_of_trod Tryd.underlying25 cells_plate (by omega) h
  obtain ⟨l, hl, hp⟩ := list_of (fun i (p : Plate) => rows[i]? = some p.cells) n (fun i hi => by
    have hi' : i < rows.length := by rw [hS.len]; exact hi
    have hget : rows[i]? = some rows[i] := List.getElem?_eq_getElem hi'
    obtain ⟨m, y, hy⟩ := hr _ (List.mem_of_getElem? hget)
    obtain ⟨xs, m', _, _, hlen, hxl, hf⟩ := DataW.trod_struct Tryd.underlying39 hy
    rw [cells_plate] at hlen
    generalize rows[i] = r at hget hy hlen hf
    match r, hlen with
    | [c0, c1, c2, c3], _ =>
      have f0 := hf 0 _ rfl
      have f1 := hf 1 _ rfl
      have f2 := hf 2 _ rfl
      have f3 := hf 3 _ rfl
      match xs, hxl with
      | [y0, y1, y2, y3], _ =>
        obtain ⟨a, e0, _, wa⟩ := DataW.trod_int Tryd.underlying3 f0
        obtain ⟨b, e1, _, wb⟩ := DataW.trod_int Tryd.underlying3 f1
        obtain ⟨c, e2, _, wc⟩ := DataW.trod_int Tryd.underlying3 f2
        obtain ⟨d, e3, _, wd⟩ := DataW.trod_int Tryd.underlying5 f3
        change List.take (Tryd.prog.cellsOf 3) [c0, c1, c2, c3] = _ at e0
        change List.take (Tryd.prog.cellsOf 3) [c1, c2, c3] = _ at e1
        change List.take (Tryd.prog.cellsOf 3) [c2, c3] = _ at e2
        change List.take (Tryd.prog.cellsOf 5) [c3] = _ at e3
        rw [cells_int] at e0 e1 e2
        rw [cells_u8] at e3
        simp at e0 e1 e2 e3
        subst e0 e1 e2 e3
        exact ⟨⟨a, b, c, d⟩, hget⟩)
  refine ⟨l, hl, ?_⟩
  have := rows_map Plate.cells (hl.trans hS.len.symm) hp
  unfold Plates
  rw [← this, hl]
  exact hS

set_option maxRecDepth 100000 in
theorem laids_of_trod {fuel n cap : Nat} {A : Option Addr} {x : DataW H × List MemPlace}
    (h : DataW.trod enc Tryd.prog w base spare held fuel 27 [.slice A n cap] = some x) : ∃ l : List Laid, l.length = n ∧ Laids w A cap l := by
  obtain ⟨rows, hS, hr⟩ := rows_of_trod Tryd.underlying27 cells_laid (by omega) h
  obtain ⟨l, hl, hp⟩ := list_of (fun i (p : Laid) => rows[i]? = some p.cells) n (fun i hi => by
    have hi' : i < rows.length := by rw [hS.len]; exact hi
    have hget : rows[i]? = some rows[i] := List.getElem?_eq_getElem hi'
    obtain ⟨m, y, hy⟩ := hr _ (List.mem_of_getElem? hget)
    obtain ⟨xs, m', _, _, hlen, hxl, hf⟩ := DataW.trod_struct Tryd.underlying64 hy
    rw [cells_laid] at hlen
    generalize rows[i] = r at hget hy hlen hf
    match r, hlen with
    | [c0, c1, c2, c3, c4], _ =>
      have f0 := hf 0 _ rfl
      have f1 := hf 1 _ rfl
      have f2 := hf 2 _ rfl
      match xs, hxl with
      | [y0, y1, y2], _ =>
        obtain ⟨a, e0, _, wa⟩ := DataW.trod_int Tryd.underlying3 f0
        obtain ⟨b, e3, _⟩ := DataW.trod_bool Tryd.underlying4 f2
        change List.take (Tryd.prog.cellsOf 3) [c0, c1, c2, c3, c4] = _ at e0
        change DataW.trod enc _ _ _ _ _ _ _ (List.take (Tryd.prog.cellsOf 56) [c1, c2, c3, c4]) = _ at f1
        change List.take (Tryd.prog.cellsOf 4) [c4] = _ at e3
        rw [cells_int] at e0
        rw [cells_cell] at f1
        rw [cells_bool] at e3
        simp at e0 e3
        subst e0 e3
        obtain ⟨zs, m'', _, _, _, hzl, hg⟩ := DataW.trod_struct Tryd.underlying56 f1
        have g0 := hg 0 _ rfl
        have g1 := hg 1 _ rfl
        have g2 := hg 2 _ rfl
        match zs, hzl with
        | [z0, z1, z2], _ =>
          obtain ⟨x, h1, _, _⟩ := DataW.trod_int Tryd.underlying3 g0
          obtain ⟨y, h2, _, _⟩ := DataW.trod_int Tryd.underlying3 g1
          obtain ⟨z, h3, _, _⟩ := DataW.trod_int Tryd.underlying3 g2
          change List.take (Tryd.prog.cellsOf 3) [c1, c2, c3] = _ at h1
          change List.take (Tryd.prog.cellsOf 3) [c2, c3] = _ at h2
          change List.take (Tryd.prog.cellsOf 3) [c3] = _ at h3
          rw [cells_int] at h1 h2 h3
          simp at h1 h2 h3
          subst h1 h2 h3
          exact ⟨⟨a, x, y, z, b⟩, hget⟩)
  refine ⟨l, hl, ?_⟩
  have := rows_map Laid.cells (hl.trans hS.len.symm) hp
  unfold Laids
  rw [← this, hl]
  exact hS
end

end Go.Proofs.YtaaeapjnjjbglaaDoor

namespace Go.Proofs.YtaaeapjnjjbglaaDoor
open Go.RowKit Go.ChangeShapes Go.WideShapes Go.ChangeAt

theorem gTab : Tryd.prog.globalNamed "math/bits.deBruijn32tab" = some 0 := by kernel_rfl
theorem gTabType : (Tryd.prog.globals[0]?).map (·.type) = some 168 := by kernel_rfl
theorem cellsTab : Tryd.prog.cellsOf 168 = 32 := by kernel_rfl
theorem cellsTabE : Tryd.prog.cellsOf 5 = 1 := by kernel_rfl
def tabZ : List Int := Lib.deBruijn32tab.map fun n : Nat => (n : Int)
/-- What every law of the seat lists. -/
def laidTab : List (String × DataW Unit) := [("math/bits.deBruijn32tab", Rows.laid_math_bits_deBruijn32tab)]
theorem laidTab_eq : laidTab = [("math/bits.deBruijn32tab", Lib.tabData .u8 tabZ)] := rfl
theorem tz_of_laid {W : World} (h : laidMetH Tryd.prog laidTab W) : TzTab W := by
  rw [MakeChecks.laidMetH_plain _ _ _ (by kernel_rfl), laidTab_eq] at h
  have hT := Lib.tabIs_of_head gTab gTabType Tryd.underlying168 Tryd.underlying5 cellsTabE cellsTab h
  intro j hj
  have := hT.cell gTab j (by simpa [tabZ] using hj)
  rw [this]
  congr 2
  unfold tabZ
  rw [List.getD_eq_getElem?_getD, List.getD_eq_getElem?_getD, List.getElem?_map, List.getElem?_eq_getElem hj]
  rfl

/-- A world in which the table lies as its initialiser lays it. -/
noncomputable def laidWorld (os : Os) : World :=
  { World.holding Tryd.prog os ⟨#[], #[], []⟩ with heap := (World.holding Tryd.prog os ⟨#[], #[], []⟩).heap.modify 0 fun
      | .cells _ t frozen => .cells (tabZ.map fun z => Value.int .u8 z).toArray t frozen
      | o => o }
theorem laidWorld_met (os : Os) (args : Array Value) : laidMetH Tryd.prog laidTab ((laidWorld os).forCall (fun _ _ => 0) ⟨#[], args, []⟩).memory := by
  rw [MakeChecks.laidMetH_plain _ _ _ (by kernel_rfl)]
  exact laidMet_of_run' 8 (by kernel_rfl) (by kernel_rfl)
end Go.Proofs.YtaaeapjnjjbglaaDoor
