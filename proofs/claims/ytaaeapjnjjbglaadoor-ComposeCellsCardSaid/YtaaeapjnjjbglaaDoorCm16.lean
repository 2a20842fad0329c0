/- Count of the reference. Compose: the best composition that hangs together. Compose of the reference. Least: plain. Least: the answers, and the program's way to them (the last ones first of the sorted areas); plain. Least of the reference, walked. A contract of the shelf, laid at this program in plain declarations (written by program): sortInts. slices.Backward of numbers: the iterator; slices.Sort of numbers. A drawn region by an invariant that may know the slots ahead of it. -/
import Derived.Test.YtaaeapjnjjbglaaDoorCm15
import Derived.Shelf.Lays
import Derived.Test.YtaaeapjnjjbglaaDoorProg
import Derived.RangeFuncNested
import Derived.RangeFuncBound
import Derived.RangeFuncCalls
import Derived.RangeFuncLeaves
import Derived.Shelf.Abstract
import Derived.Shelf.RegionOpen
import Derived.OwnWalkIn
import Derived.TacticsInMore
import Derived.LoopNIn
import Derived.LoopIn
import Derived.Shelf.Sort.Plain
import Derived.Shelf.Slices.In.SortNone
import Derived.Sort.OwnSortedInts

namespace Go.Proofs.YtaaeapjnjjbglaaDoor
open Go.RowKit

theorem search_true (s : Shape) (A : Option Addr) (cap : Nat) (l : List Plate) (PA : Option Addr) (pcap : Nat) (ok : s.Ok) (okl : platesB l = true) : ∀ m, RS s A cap l PA pcap true m
  | 0 => by
    intro c all cov CA cc n best wk BA bn bc w hP hm
    have := lowZ_le ok hP.is
    omega
  | m + 1 => rs_true s A cap l PA pcap ok okl m (search_true s A cap l PA pcap ok okl m)
theorem field_found (x y z : Value) (W : World) : (Instr.field 95 (.agg #[x, y, z]) 0).run Tryd.prog W = .ok x W := by
  kernel_rfl
theorem asked_ask (s : Shape) (l : List Plate) : askedErr s l = askErr s l := rfl
set_option maxRecDepth 100000 in
set_option maxHeartbeats 4000000 in
theorem rCount_c (s : Shape) (A : Option Addr) (cap : Nat) (l : List Plate) (PA : Option Addr) (pcap : Nat) (w : World) (hs : Bytes w A cap s.cells) (hl : Plates w PA pcap l) :
    Calls Tryd.prog 11 #[.agg #[.int .i64 s.W, .int .i64 s.D, .int .i64 s.H, .slice A s.cells.length cap], .slice PA l.length pcap] w fun e w' => e = .returned (.tuple #[.int .i64 (countI s l), .int .i64 (askErr s l)]) ∧ Ext w w' := by
  obtain ⟨W1, hW1, E1, B1, hz1⟩ := box_ w #[.int .i64 s.W, .int .i64 s.D, .int .i64 s.H, .slice A s.cells.length cap] 24
  have b1 := B1.cell
  have P1 := asked_c s A cap l PA pcap W1 (hs.ext E1) (hl.ext E1)
  rw [asked_ask] at P1
  obtain ⟨r, hr⟩ : ∃ r, askErr s l = r := ⟨_, rfl⟩
  rw [hr] at P1
  have HE1 := Lib.hid E1
  have HB1 := Lib.hid B1
  by_cases h0 : r = 0
  · subst h0
    have hv : s.valid = true ∧ platesB l = true := by
      unfold askErr platesErr at hr
      split at hr
      · split at hr
        · exact ⟨by assumption, by assumption⟩
        · omega
      · omega
    have ok := Shape.ok_of hv.1
    have HS := Lib.hid (fun (W : World) (E : Ext w W) => search_true s A cap l PA pcap ok hv.2 (fullN s.cells + 1) [] [] 0 none 0 0 none 0 none 0 0 W (Part.nil s l) (by omega) (fun _ => rfl) (hs.ext E) (hl.ext E) ⟨rfl, Nat.le_refl _, Nat.zero_le _, fun r hr => absurd hr (by simp), fun h => absurd h (by simp)⟩ (fun _ => rfl) ⟨rfl, rfl, rfl, rfl⟩)
    have hc : countI s l = (rGrow s l true (fullN s.cells + 1) (0, none) [] [] 0).1 := by
      rw [rGrow_count]
      unfold countI
      rw [if_pos hr]
    have Hc := Lib.hid hc
    have Hr := Lib.hid hr
    clear hz1 B1 E1 hs hl hr hc
    go_enter Tryd.func11, Tryd.ntmps11
    go_wp2_with fail
    refine P1.mono ?_
    rintro e W2 ⟨rfl, E2⟩
    have HE2 := Lib.hid (HE1.out.trans E2)
    have b2 := (HB1.out.ext E2).cell
    clear b1 hW1 P1 E2
    go_wp2_with fail
    refine (HS.out _ HE2.out).mono ?_
    rintro e W3 ⟨wk, A3, bn3, bc3, rfl, F3, S3, E3⟩
    have hfd := field_found (.int .i64 (rGrow s l true (fullN s.cells + 1) (0, none) [] [] 0).1) (.int .i64 wk) (.slice A3 bn3 bc3) W3
    replace E3 := Lib.hid E3
    clear F3 S3
    go_wp2_with fail
    refine bodyPost_ret (v := .tuple #[.int .i64 (rGrow s l true (fullN s.cells + 1) (0, none) [] [] 0).1, .int .i64 0]) (by simp [results, Tryd.results11, go_sem]) rfl ⟨by rw [Hc.out, Hr.out], HE2.out.trans E3.out⟩
  · have hc : countI s l = 0 := by
      unfold countI
      rw [if_neg (by rw [hr]; exact h0)]
    have Hc := Lib.hid hc
    have Hr := Lib.hid hr
    have h1 : (r != 0) = true := by simpa using h0
    clear hz1 B1 E1 hs hl hr hc h0
    go_enter Tryd.func11, Tryd.ntmps11
    go_wp2_with fail
    refine P1.mono ?_
    rintro e W2 ⟨rfl, E2⟩
    go_wp2_with fail
    refine bodyPost_ret (v := .tuple #[.int .i64 0, .int .i64 r]) (by simp [results, Tryd.results11, go_sem]) rfl ⟨by rw [Hc.out, Hr.out], HE1.out.trans E2⟩
end Go.Proofs.YtaaeapjnjjbglaaDoor

namespace Go.Proofs.YtaaeapjnjjbglaaDoor
open Go.RowKit

theorem best_client (s : Shape) (l : List Plate) (nb mb g : Nat) (A : Option Addr) (cap : Nat) (PA : Option Addr) (pcap : Nat) (NA : Option Addr) (ncap : Nat) (AA : Option Addr) (acap : Nat) (EA : Option Addr) (ec : Nat) (OA : Option Addr) (oc : Nat) (LA : Option Addr) (lc : Nat) (ms : List Nat) (ok : s.Ok) (okl : platesB l = true) (wT : World)
    (hB : Board wT g s A cap l PA pcap NA ncap AA acap EA ec OA oc LA lc ms) (hT : TzTab wT) (hN : Blk wT nb 78 #[.pointer (some ⟨g, 0, none⟩)]) :
    Client s l (BestJ mb) wT 32 #[.pointer (some ⟨mb, 0, none⟩)] 34 #[.pointer (some ⟨nb, 0, none⟩), .pointer (some ⟨mb, 0, none⟩)] longB (seeB s l) := by
  refine ⟨fun st Fp w w' h hk => h.keep hk, fun st Fp w n hn _ h => bestLong_c mb st Fp n hn w h, fun st Fp w c out CA cc SA sc hc hlen hr E h hlt hC hS => ?_⟩
  have hset := setRun_is hr
  have hpos := comp_pos ok (hset.comp ok rfl)
  exact bestSee_c nb mb g s A cap l PA pcap NA ncap AA acap EA ec OA oc LA lc ms st Fp c out CA cc SA sc ok (apart_of ok okl hpos hset rfl) hc w (hB.ext E) (hT.ext E) (hN.ext E) h hlt hC hS

theorem laids_nil (w : World) : Laids w none 0 [] := ⟨rfl, Nat.le_refl _, Nat.zero_le _, fun r hr => absurd hr (by simp), fun h => absurd h (by simp)⟩
/-- What Compose answers. -/
noncomputable def composeE (s : Shape) (l : List Plate) : Int := if askErr s l = 0 then (match bestB s l with | none => 6 | some _ => 0) else askErr s l
noncomputable def composeL (s : Shape) (l : List Plate) : List Laid := if askErr s l = 0 then (match bestB s l with | none => [] | some b => b.1) else []

set_option maxRecDepth 100000 in
set_option maxHeartbeats 4000000 in
theorem compose_c (s : Shape) (A : Option Addr) (cap : Nat) (l : List Plate) (PA : Option Addr) (pcap : Nat) (w : World) (hs : Bytes w A cap s.cells) (hl : Plates w PA pcap l) (hT : TzTab w) :
    Calls Tryd.prog 8 #[.agg #[.int .i64 s.W, .int .i64 s.D, .int .i64 s.H, .slice A s.cells.length cap], .slice PA l.length pcap] w fun e w' =>
      ∃ CA cc, e = .returned (.tuple #[.slice CA (composeL s l).length cc, .int .i64 (composeE s l)]) ∧ Laids w' CA cc (composeL s l) ∧ (composeL s l).length ≤ 100 ∧ Ext w w' := by
  obtain ⟨W1, hW1, E1, B1, hz1⟩ := box_ w #[.int .i64 s.W, .int .i64 s.D, .int .i64 s.H, .slice A s.cells.length cap] 24
  have b1 := B1.cell
  obtain ⟨e0, he⟩ : ∃ e0, askErr s l = e0 := ⟨_, rfl⟩
  by_cases h0 : e0 = 0
  · subst h0
    have hv : s.valid = true ∧ platesB l = true := by
      unfold askErr platesErr at he
      split at he
      · split at he
        · exact ⟨by assumption, by assumption⟩
        · omega
      · omega
    have He := Lib.hid he
    have Hv := Lib.hid hv
    have ok := Shape.ok_of hv.1
    clear he hv
    go_enter Tryd.func8, Tryd.ntmps8
    go_wp2_with fail
    refine (look_ok s l A cap PA pcap Hv.out.1 Hv.out.2 _ (hs.ext E1) (hl.ext E1)).mono ?_
    rintro e w2 ⟨g, NA, ncap, AA, acap, EA, ec, OA, oc, LA, lc, ms, rfl, hB, E2⟩
    have B3 := Blk.new w2 #[.pointer (some ⟨g, 0, none⟩)] 78
    have E3 := ext_alloc w2 (.cells #[.pointer (some ⟨g, 0, none⟩)] 78)
    obtain ⟨nb, hnb⟩ : ∃ nb, w2.heap.size = nb := ⟨_, rfl⟩
    have Hnb := Lib.hid hnb
    go_wp2_with fail
    have hE4 := ext_alloc (w2.alloc (.cells #[.pointer (some ⟨g, 0, none⟩)] 78)) (.cells #[.pointer none] 81)
    have B4 := Blk.new (w2.alloc (.cells #[.pointer (some ⟨g, 0, none⟩)] 78)) #[.pointer none] 81
    have hz3 : (w2.alloc (.cells #[.pointer (some ⟨g, 0, none⟩)] 78)).heap.size = nb + 1 := by rw [World.size_alloc, Hnb.out]
    have hz4 : ((w2.alloc (.cells #[.pointer (some ⟨g, 0, none⟩)] 78)).alloc (.cells #[.pointer none] 81)).heap.size = nb + 2 := by rw [World.size_alloc, hz3]
    rw [hz3] at B4
    rw [Hnb.out] at B3
    have cl := best_client s l nb (nb + 1) g A cap PA pcap NA ncap AA acap EA ec OA oc LA lc ms ok Hv.out.2 _ (hB.ext E3) (hT.ext ((E1.trans E2).trans E3)) B3
    refine (searchBest_c nb (nb + 1) g s A cap l PA pcap NA ncap AA acap EA ec OA oc LA lc ms cl ok Hv.out.2 (hB.ext E3) (hT.ext ((E1.trans E2).trans E3)) _ none (fun r => r = nb + 1) hE4 ⟨B4, fun r => Iff.rfl⟩ (fun r hr => by rw [hr, hz3, hz4]; omega)).mono ?_
    rintro e w5 ⟨⟨v5, rfl⟩, Fp5, hj5, f1, f2, o5⟩
    rw [growS_eq (fun st k c out h hk => longB_see st k c out h hk)] at hj5
    have E5 : Ext w w5 := ((E1.trans E2).trans E3).trans (Only.below hE4 o5 (fun r hr => by rw [hr, hz3]; exact Nat.le_refl _))
    obtain ⟨bb, hbb⟩ : ∃ bb, bestB s l = bb := ⟨_, rfl⟩
    have hj5' : BestJ (nb + 1) bb Fp5 w5 := by rw [← hbb]; exact hj5
    have HE5 := Lib.hid E5
    clear hj5 cl
    cases bb with
    | none =>
      have Hr : Hid (composeE s l = 6 ∧ composeL s l = []) := Lib.hid ⟨by unfold composeE; rw [He.out, hbb, if_pos rfl], by unfold composeL; rw [He.out, hbb, if_pos rfl]⟩
      have b5 := hj5'.1.cell
      clear hj5' hbb B3 B4 hz3 hz4
      go_wp2_with fail
      go_ret2
      refine ⟨none, 0, by rw [Hr.out.1, Hr.out.2] <;> rfl, ?_, by rw [Hr.out.2]; simp, HE5.out⟩
      rw [Hr.out.2]
      exact laids_nil _
    | some b =>
      have Hr : Hid (composeE s l = 0 ∧ composeL s l = b.1) := Lib.hid ⟨by unfold composeE; rw [He.out, hbb, if_pos rfl], by unfold composeL; rw [He.out, hbb, if_pos rfl]⟩
      obtain ⟨M, D, bcap, h1, h2, h3, h4, h5, h6, h7⟩ := hj5'
      have b5 := h1.cell
      have m5 := h2.cell
      obtain ⟨k, hk⟩ : ∃ k, b.1.length = k := ⟨_, rfl⟩
      have Hk := Lib.hid hk
      rw [hk] at m5
      have h3' := Lib.hid h3
      clear h1 h2 h3 hbb B3 B4 hz3 hz4 hk
      go_wp2_with fail
      go_ret2
      refine ⟨some ⟨D, 0, none⟩, bcap, by rw [Hr.out.1, Hr.out.2, Hk.out] <;> rfl, ?_, by rw [Hr.out.2]; exact h6, HE5.out⟩
      rw [Hr.out.2]
      rw [Hk.out] at h3'
      have h := own_any (rows := b.1.map Laid.cells) (by decide) ?_ (by rw [List.length_map, Hk.out]) h3'.out
      · rw [← Hk.out] at h
        exact h
      · intro r hr
        obtain ⟨x, _, rfl⟩ := List.mem_map.1 hr
        rfl
  · have Hr : Hid (composeE s l = e0 ∧ composeL s l = []) := Lib.hid ⟨by unfold composeE; rw [he, if_neg h0], by unfold composeL; rw [he, if_neg h0]⟩
    have e1 : (e0 != 0) = true := by simpa using h0
    have e2 : (e0 == 0) = false := by simpa using h0
    have He := Lib.hid he
    have H0 := Lib.hid h0
    clear he h0
    go_enter Tryd.func8, Tryd.ntmps8
    go_wp2_with fail
    refine (look_bad s l A cap PA pcap e0 He.out H0.out _ (hs.ext E1) (hl.ext E1)).mono ?_
    rintro e w2 ⟨rfl, E2⟩
    go_wp2_with fail
    go_ret2
    refine ⟨none, 0, by rw [Hr.out.1, Hr.out.2] <;> rfl, ?_, by rw [Hr.out.2]; simp, (E1.trans E2).trans (ext_alloc _ _)⟩
    rw [Hr.out.2]
    exact laids_nil _
end Go.Proofs.YtaaeapjnjjbglaaDoor

namespace Go.Proofs.YtaaeapjnjjbglaaDoor
open Go.RowKit

set_option maxRecDepth 100000 in
set_option maxHeartbeats 4000000 in
theorem rCompose_c (s : Shape) (A : Option Addr) (cap : Nat) (l : List Plate) (PA : Option Addr) (pcap : Nat) (w : World) (hs : Bytes w A cap s.cells) (hl : Plates w PA pcap l) :
    Calls Tryd.prog 9 #[.agg #[.int .i64 s.W, .int .i64 s.D, .int .i64 s.H, .slice A s.cells.length cap], .slice PA l.length pcap] w fun e w' =>
      ∃ CA cc, e = .returned (.tuple #[.slice CA (composeL s l).length cc, .int .i64 (composeE s l)]) ∧ Laids w' CA cc (composeL s l) ∧ (composeL s l).length ≤ 100 ∧ Ext w w' := by
  obtain ⟨W1, hW1, E1, B1, hz1⟩ := box_ w #[.int .i64 s.W, .int .i64 s.D, .int .i64 s.H, .slice A s.cells.length cap] 24
  have b1 := B1.cell
  have P1 := asked_c s A cap l PA pcap W1 (hs.ext E1) (hl.ext E1)
  rw [asked_ask] at P1
  obtain ⟨r, hr⟩ : ∃ r, askErr s l = r := ⟨_, rfl⟩
  rw [hr] at P1
  have HE1 := Lib.hid E1
  have HB1 := Lib.hid B1
  by_cases h0 : r = 0
  · subst h0
    have hv : s.valid = true ∧ platesB l = true := by
      unfold askErr platesErr at hr
      split at hr
      · split at hr
        · exact ⟨by assumption, by assumption⟩
        · omega
      · omega
    have ok := Shape.ok_of hv.1
    have HS := Lib.hid (fun (W : World) (E : Ext w W) => search_false s A cap l PA pcap ok hv.2 (fullN s.cells + 1) [] [] 0 none 0 0 none 0 none 0 0 W (Part.nil s l) (by omega) nofun (hs.ext E) (hl.ext E) (laids_nil _) (fun _ => rfl) ⟨rfl, rfl, rfl, rfl⟩)
    have Hr := Lib.hid hr
    have hall := rGrow_all s l
    obtain ⟨st, hst⟩ : ∃ st, rGrow s l false (fullN s.cells + 1) (0, none) [] [] 0 = st := ⟨_, rfl⟩
    rw [hst] at HS hall
    have Hall := Lib.hid hall
    clear hz1 B1 E1 hs hl hr hall hst
    go_enter Tryd.func9, Tryd.ntmps9
    go_wp2_with fail
    refine P1.mono ?_
    rintro e W2 ⟨rfl, E2⟩
    have HE2 := Lib.hid (HE1.out.trans E2)
    have b2 := (HB1.out.ext E2).cell
    clear b1 hW1 P1 E2
    go_wp2_with fail
    refine (HS.out _ HE2.out).mono ?_
    rintro e W3 ⟨wk, A3, bn3, bc3, rfl, F3, S3, E3⟩
    have HE3 := Lib.hid (HE2.out.trans E3)
    obtain ⟨W4, hW4, E4, B4, hz4⟩ := box_ W3 #[.int .i64 0, .int .i64 0, .slice none 0 0] 95
    obtain ⟨T, hT⟩ : ∃ T, W3.heap.size = T := ⟨_, rfl⟩
    rw [hT] at B4
    have b4 := B4.cell
    have f4 := B4.frozen
    have l4 := B4.lt
    have BX := ((B4.set_ 0 (.int .i64 st.1)).set_ 1 (.int .i64 wk)).set_ 2 (.slice A3 bn3 bc3)
    obtain ⟨V, hV⟩ : ∃ V, ((W4.setCell ⟨T, 0, none⟩ (.int .i64 st.1)).setCell ⟨T, 1, none⟩ (.int .i64 wk)).setCell ⟨T, 2, none⟩ (.slice A3 bn3 bc3) = V := ⟨_, rfl⟩
    have EV : Ext W3 V := by
      rw [← hV]
      exact ((E4.setCell (p := ⟨T, 0, none⟩) (Nat.le_of_eq hT) _).setCell (p := ⟨T, 1, none⟩) (Nat.le_of_eq hT) _).setCell (p := ⟨T, 2, none⟩) (Nat.le_of_eq hT) _
    rw [hV] at BX
    have bx := BX.cell
    have HEV := Lib.hid (HE3.out.trans EV)
    have F4 := F3.ext EV
    obtain ⟨n0, best⟩ := st
    have hbb : bestB s l = best := Hall.out.symm
    have HF := Lib.hid F4
    clear F3 F4 S3 E3 E4 B4 hz4 EV BX b2
    cases best with
    | none =>
      have Hc : Hid (composeE s l = 6 ∧ composeL s l = []) := Lib.hid ⟨by unfold composeE; rw [Hr.out, hbb, if_pos rfl], by unfold composeL; rw [Hr.out, hbb, if_pos rfl]⟩
      obtain ⟨hA3, hb3, hc3, -⟩ := HF.out
      subst hA3 hb3 hc3
      have heq := eq_nil_none
      clear hbb
      go_wp2_with fail
      go_ret2
      refine ⟨none, 0, by rw [Hc.out.1, Hc.out.2] <;> rfl, ?_, by rw [Hc.out.2]; simp, HEV.out⟩
      rw [Hc.out.2]
      exact laids_nil _
    | some b =>
      have Hc : Hid (composeE s l = 0 ∧ composeL s l = b.1) := Lib.hid ⟨by unfold composeE; rw [Hr.out, hbb, if_pos rfl], by unfold composeL; rw [Hr.out, hbb, if_pos rfl]⟩
      obtain ⟨⟨ba, hA3, -⟩, hb3, -, hL, hlen, -⟩ := HF.out
      subst hA3
      have heq := eq_nil_some ba
      have HL := Lib.hid hL
      have Hb3 := Lib.hid hb3
      have Hlen := Lib.hid hlen
      clear hbb hL hb3 hlen
      go_wp2_with fail
      go_ret2
      refine ⟨some ba, bc3, by rw [Hc.out.1, Hc.out.2, ← Hb3.out] <;> rfl, ?_, by rw [Hc.out.2]; exact Hlen.out, HEV.out⟩
      rw [Hc.out.2]
      exact HL.out
  · have Hc : Hid (composeE s l = r ∧ composeL s l = []) := Lib.hid ⟨by unfold composeE; rw [hr, if_neg h0], by unfold composeL; rw [hr, if_neg h0]⟩
    have h1 : (r != 0) = true := by simpa using h0
    clear hz1 B1 E1 hs hl hr h0
    go_enter Tryd.func9, Tryd.ntmps9
    go_wp2_with fail
    refine P1.mono ?_
    rintro e W2 ⟨rfl, E2⟩
    go_wp2_with fail
    go_ret2
    refine ⟨none, 0, by rw [Hc.out.1, Hc.out.2] <;> rfl, ?_, by rw [Hc.out.2]; simp, HE1.out.trans E2⟩
    rw [Hc.out.2]
    exact laids_nil _
end Go.Proofs.YtaaeapjnjjbglaaDoor

namespace Go.Proofs.YtaaeapjnjjbglaaDoor
open Go.RowKit

def areaI (p : Plate) : Int := p.W * p.D
def areasL (l : List Plate) : List Int := l.flatMap fun p => List.replicate p.N.toNat (areaI p)
/-- Taking areas in order until nothing is left. -/
def takeN : List Int → Int → Nat → Option Nat
  | [], _, _ => none
  | a :: qs, left, n => if left - a ≤ 0 then some (n + 1) else takeN qs (left - a) (n + 1)
def descL (l : List Plate) : List Int := (areasL l).mergeSort (fun a b => decide (b ≤ a))
def leastO (s : Shape) (l : List Plate) : Option Nat := takeN (descL l) (fullN s.cells) 0
theorem sum_nonneg : ∀ {qs : List Int}, (∀ a ∈ qs, 0 ≤ a) → 0 ≤ qs.sum
  | [], _ => by simp
  | b :: bs, h => by
    have := h b (by simp)
    have := sum_nonneg (qs := bs) fun c hc => h c (by simp [hc])
    rw [List.sum_cons]
    omega
theorem takeN_none : ∀ {qs : List Int} {left : Int} {n : Nat}, (∀ a ∈ qs, 0 ≤ a) → 0 < left → (takeN qs left n = none ↔ qs.sum < left)
  | [], left, n, _, h => by simp [takeN, h]
  | a :: qs, left, n, ha, h => by
    have h0 := ha a (by simp)
    have hs : 0 ≤ qs.sum := sum_nonneg fun b hb => ha b (by simp [hb])
    unfold takeN
    rw [List.sum_cons]
    split
    · constructor
      · intro h; cases h
      · intro h; omega
    · rw [takeN_none (fun b hb => ha b (by simp [hb])) (by omega)]
      omega
/-- As many qs are needed of the greatest ones. -/
theorem takeN_some : ∀ {qs : List Int} {left : Int} {n m : Nat}, 0 < left → takeN qs left n = some m → n < m ∧ m - n ≤ qs.length ∧ ∀ k, k < m - n → (qs.take k).sum < left
  | [], left, n, m, _, h => by simp [takeN] at h
  | a :: qs, left, n, m, h0, h => by
    unfold takeN at h
    split at h
    · cases h
      refine ⟨by omega, by simp, fun k hk => ?_⟩
      obtain rfl : k = 0 := by omega
      simpa using h0
    · obtain ⟨h1, h2, h3⟩ := takeN_some (by omega) h
      refine ⟨by omega, by simp; omega, fun k hk => ?_⟩
      cases k with
      | zero => simpa using h0
      | succ k =>
        have := h3 k (by omega)
        rw [List.take_succ_cons, List.sum_cons]
        omega
theorem sum_perm {a b : List Int} (h : a.Perm b) : a.sum = b.sum := by
  induction h with
  | nil => rfl
  | cons x _ ih => rw [List.sum_cons, List.sum_cons, ih]
  | swap x y l => simp only [List.sum_cons]; omega
  | trans _ _ h1 h2 => rw [h1, h2]
/-- k of the elements come to at most the k first ones of the sorted list. -/
theorem take_most : ∀ {qs b r : List Int}, qs.Pairwise (fun x y => y ≤ x) → qs.Perm (b ++ r) → b.sum ≤ (qs.take b.length).sum
  | [], b, r, _, h => by
    have := h.length_eq
    have hb : b = [] := List.eq_nil_of_length_eq_zero (by simp at this; omega)
    subst hb
    simp
  | a :: qs, b, r, hs, h => by
    obtain ⟨h1, h2⟩ := List.pairwise_cons.1 hs
    have hm : a ∈ b ++ r := h.mem_iff.1 (by simp)
    rw [List.mem_append] at hm
    by_cases hb : a ∈ b
    · have p1 := List.perm_cons_erase hb
      have p2 : qs.Perm (b.erase a ++ r) := List.Perm.cons_inv (h.trans (p1.append_right r))
      have ih := take_most h2 p2
      have hl : b.length = (b.erase a).length + 1 := by have := p1.length_eq; simpa using this
      rw [sum_perm p1, hl, List.take_succ_cons, List.sum_cons, List.sum_cons]
      omega
    · have hr : a ∈ r := hm.resolve_left hb
      have p1 := List.perm_cons_erase hr
      have p2 : qs.Perm (b ++ r.erase a) := List.Perm.cons_inv (h.trans ((p1.append_left b).trans List.perm_middle))
      have ih := take_most h2 p2
      have hlen := p2.length_eq
      rw [List.length_append] at hlen
      cases hk : b.length with
      | zero =>
        have hb : b = [] := List.eq_nil_of_length_eq_zero hk
        subst hb
        simp
      | succ k =>
        rw [hk] at ih
        have hlt : k < qs.length := by omega
        rw [List.take_succ_cons, List.sum_cons]
        have e : qs.take (k + 1) = qs.take k ++ [qs[k]] := by
          rw [List.take_add_one, List.getElem?_eq_getElem hlt]
          rfl
        rw [e, List.sum_append, List.sum_singleton] at ih
        have := h1 qs[k] (List.getElem_mem hlt)
        omega
theorem desc_perm (l : List Plate) : (descL l).Perm (areasL l) := List.mergeSort_perm _ _
theorem desc_sorted (l : List Plate) : (descL l).Pairwise (fun x y => y ≤ x) := by
  have := List.pairwise_mergeSort (le := fun a b : Int => decide (b ≤ a)) (fun a b c h1 h2 => by simp at h1 h2 ⊢; omega) (fun a b => by simp; omega) (areasL l)
  exact this.imp (fun h => by simpa using h)
theorem areas_pos {l : List Plate} (okl : platesB l = true) : ∀ a ∈ areasL l, 0 ≤ a := fun a ha => by
  unfold areasL at ha
  obtain ⟨p, hp, ha⟩ := List.mem_flatMap.1 ha
  obtain ⟨k, hk⟩ := List.getElem?_of_mem hp
  have okp := plate_ok okl hk
  have h1 := okp.w
  have h2 := okp.d
  rw [List.eq_of_mem_replicate ha]
  exact Int.mul_nonneg (by omega) (by omega)
/-- No part of the plates that comes to qs much has fewer of them. -/
theorem least_le {s : Shape} {l : List Plate} {b r : List Int} (hf : 0 < fullN s.cells) (hp : (areasL l).Perm (b ++ r)) (hb : (fullN s.cells : Int) ≤ b.sum) {n : Nat} (h : leastO s l = some n) : n ≤ b.length := by
  obtain ⟨h1, h2, h3⟩ := takeN_some (by omega) h
  rcases Nat.lt_or_ge b.length n with h' | h'
  · have := h3 b.length (by omega)
    have := take_most (desc_sorted l) ((desc_perm l).trans hp)
    omega
  · exact h'
theorem least_none {s : Shape} {l : List Plate} (okl : platesB l = true) (hf : 0 < fullN s.cells) : leastO s l = none ↔ (areasL l).sum < fullN s.cells := by
  unfold leastO
  rw [takeN_none (fun a ha => areas_pos okl a ((desc_perm l).mem_iff.1 ha)) (by omega), sum_perm (desc_perm l)]
theorem sub_perm {α : Type} [DecidableEq α] : ∀ {b qs : List α}, (∀ a, b.count a ≤ qs.count a) → ∃ r, qs.Perm (b ++ r)
  | [], qs, _ => ⟨qs, List.Perm.refl _⟩
  | x :: b, qs, h => by
    have hx : x ∈ qs := by
      have := h x
      rw [List.count_cons_self] at this
      exact List.count_pos_iff.1 (by omega)
    have p := List.perm_cons_erase hx
    obtain ⟨r, hr⟩ := sub_perm (b := b) (qs := qs.erase x) (fun a => by
      have := h a
      rw [List.count_cons, p.count_eq, List.count_cons] at this
      omega)
    exact ⟨r, p.trans (hr.cons x)⟩
/-! the reference's order -/
/-- The plates with one area, in order. -/
def ofArea (l : List Plate) (a : Int) : List Int := l.flatMap fun p => if areaI p = a then List.replicate p.N.toNat a else []
def downL (l : List Plate) (n : Nat) : List Int := (List.range n).flatMap fun (i : Nat) => ofArea l (64 - (i : Int))
theorem count_area (l : List Plate) (a v : Int) : (ofArea l a).count v = if a = v then (areasL l).count v else 0 := by
  induction l with
  | nil => simp [ofArea, areasL]
  | cons p l ih =>
    have e1 : ofArea (p :: l) a = (if areaI p = a then List.replicate p.N.toNat a else []) ++ ofArea l a := rfl
    have e2 : areasL (p :: l) = List.replicate p.N.toNat (areaI p) ++ areasL l := rfl
    rw [e1, e2, List.count_append, List.count_append, ih]
    by_cases hv : a = v
    · subst hv
      rw [if_pos rfl, if_pos rfl]
      by_cases hp : areaI p = a
      · rw [if_pos hp, hp]
      · rw [if_neg hp, List.count_replicate, if_neg (by simpa using hp)]
        rfl
    · rw [if_neg hv, if_neg hv]
      by_cases hp : areaI p = a
      · rw [if_pos hp, List.count_replicate, if_neg (by simpa using hv)]
      · rw [if_neg hp]
        rfl
theorem count_down (l : List Plate) (v : Int) : ∀ n : Nat, (downL l n).count v = if 64 - (n : Int) < v ∧ v ≤ 64 then (areasL l).count v else 0
  | 0 => by
    rw [if_neg (by omega)]
    rfl
  | n + 1 => by
    have e : downL l (n + 1) = downL l n ++ ofArea l (64 - (n : Int)) := by
      unfold downL
      rw [List.range_succ, List.flatMap_append]
      simp
    rw [e, List.count_append, count_down l v n, count_area]
    by_cases h1 : 64 - (n : Int) = v
    · rw [if_neg (by omega), if_pos h1, if_pos (by omega), Nat.zero_add]
    · rw [if_neg h1, Nat.add_zero]
      by_cases h2 : 64 - (n : Int) < v ∧ v ≤ 64
      · rw [if_pos h2, if_pos (by omega)]
      · rw [if_neg h2, if_neg (by omega)]
theorem area_in {l : List Plate} (okl : platesB l = true) : ∀ a ∈ areasL l, 1 ≤ a ∧ a ≤ 64 := fun a ha => by
  unfold areasL at ha
  obtain ⟨p, hp, ha⟩ := List.mem_flatMap.1 ha
  obtain ⟨k, hk⟩ := List.getElem?_of_mem hp
  have okp := plate_ok okl hk
  have h1 := okp.w
  have h2 := okp.d
  rw [List.eq_of_mem_replicate ha]
  unfold areaI
  have h3 : 0 < p.W * p.D := Int.mul_pos (by omega) (by omega)
  have h4 : p.W * p.D ≤ 8 * p.D := Int.mul_le_mul_of_nonneg_right (by omega) (by omega)
  omega
theorem sorted_same : ∀ {a b : List Int}, a.Pairwise (fun x y => y ≤ x) → b.Pairwise (fun x y => y ≤ x) → a.Perm b → a = b
  | [], b, _, _, h => (List.nil_perm.1 h).symm
  | x :: a, [], _, _, h => by have := h.length_eq; simp at this
  | x :: a, y :: b, ha, hb, h => by
    obtain ⟨a1, a2⟩ := List.pairwise_cons.1 ha
    obtain ⟨b1, b2⟩ := List.pairwise_cons.1 hb
    have e : x = y := by
      have h1 : x ∈ y :: b := h.mem_iff.1 (by simp)
      have h2 : y ∈ x :: a := h.mem_iff.2 (by simp)
      rw [List.mem_cons] at h1 h2
      rcases h1 with h1 | h1
      · exact h1
      · rcases h2 with h2 | h2
        · exact h2.symm
        · have := a1 y h2
          have := b1 x h1
          omega
    subst e
    rw [sorted_same a2 b2 (List.Perm.cons_inv h)]
theorem down_sorted (l : List Plate) : ∀ n : Nat, (downL l n).Pairwise (fun x y => y ≤ x) := fun n => by
  unfold downL
  rw [List.pairwise_flatMap]
  have hv : ∀ (a x : Int), x ∈ ofArea l a → x = a := fun a x hx => by
    unfold ofArea at hx
    obtain ⟨p, -, hx⟩ := List.mem_flatMap.1 hx
    split at hx
    · exact List.eq_of_mem_replicate hx
    · cases hx
  constructor
  · intro i _
    rw [List.pairwise_iff_forall_sublist]
    intro x y hs
    have h1 := hv _ x (hs.subset (by simp))
    have h2 := hv _ y (hs.subset (by simp))
    omega
  · refine List.pairwise_lt_range.imp ?_
    intro i j hij x hx y hy
    rw [hv _ _ hx, hv _ _ hy]
    omega
/-- The reference's order is the sorted one. -/
theorem down_desc {l : List Plate} (okl : platesB l = true) : downL l 64 = descL l := by
  refine sorted_same (down_sorted l 64) (desc_sorted l) (List.Perm.trans ?_ (desc_perm l).symm)
  rw [List.perm_iff_count]
  intro v
  rw [count_down]
  split
  · rfl
  · rename_i h
    exact (List.count_eq_zero.2 fun hv => h (by have := area_in okl v hv; omega)).symm
/-- One more area. -/
def stepN (st : Int × Nat) (a : Int) : Int × Nat := if 0 < st.1 then (st.1 - a, st.2 + 1) else st
theorem stepN_done : ∀ (qs : List Int) {x : Int} {m : Nat}, x ≤ 0 → qs.foldl stepN (x, m) = (x, m)
  | [], _, _, _ => rfl
  | a :: qs, x, m, h => by
    rw [List.foldl_cons, show stepN (x, m) a = (x, m) from if_neg (by simp only; omega)]
    exact stepN_done qs h
theorem takeN_fold : ∀ {qs : List Int} {left : Int} {n : Nat}, 0 < left → takeN qs left n = if 0 < (qs.foldl stepN (left, n)).1 then none else some (qs.foldl stepN (left, n)).2
  | [], left, n, h => by
    show none = if 0 < left then none else some n
    rw [if_pos h]
  | a :: qs, left, n, h => by
    unfold takeN
    rw [List.foldl_cons, show stepN (left, n) a = (left - a, n + 1) from if_pos h]
    split
    · rename_i h2
      rw [stepN_done qs h2, if_neg (by simp only; omega)]
    · exact takeN_fold (by omega)
theorem leastO_fold {s : Shape} {l : List Plate} (okl : platesB l = true) (hf : 0 < fullN s.cells) : leastO s l = if 0 < ((downL l 64).foldl stepN ((fullN s.cells : Int), 0)).1 then none else some ((downL l 64).foldl stepN ((fullN s.cells : Int), 0)).2 := by
  rw [down_desc okl]
  exact takeN_fold (by omega)
/-! the reference's loops -/
def stI (l : List Plate) (F : Int) (i : Nat) : Int × Nat := (downL l i).foldl stepN (F, 0)
def stJ (l : List Plate) (F : Int) (i j : Nat) : Int × Nat := (ofArea (l.take j) (64 - (i : Int))).foldl stepN (stI l F i)
def stK (l : List Plate) (F : Int) (i j k : Nat) : Int × Nat := (List.replicate k (64 - (i : Int))).foldl stepN (stJ l F i j)
theorem stI_zero (l : List Plate) (F : Int) : stI l F 0 = (F, 0) := rfl
theorem stJ_zero (l : List Plate) (F : Int) (i : Nat) : stJ l F i 0 = stI l F i := rfl
theorem stK_zero (l : List Plate) (F : Int) (i j : Nat) : stK l F i j 0 = stJ l F i j := rfl
theorem stJ_all (l : List Plate) (F : Int) (i : Nat) : stJ l F i l.length = stI l F (i + 1) := by
  unfold stJ stI
  rw [List.take_length]
  have e : downL l (i + 1) = downL l i ++ ofArea l (64 - (i : Int)) := by
    unfold downL
    rw [List.range_succ, List.flatMap_append]
    simp
  rw [e, List.foldl_append]
theorem stK_succ (l : List Plate) (F : Int) (i j k : Nat) : stK l F i j (k + 1) = stepN (stK l F i j k) (64 - (i : Int)) := by
  unfold stK
  rw [List.replicate_succ', List.foldl_append]
  rfl
theorem stK_next {l : List Plate} {F : Int} {i j k : Nat} (h : 0 < (stK l F i j k).1) : stK l F i j (k + 1) = ((stK l F i j k).1 - (64 - (i : Int)), (stK l F i j k).2 + 1) := by
  rw [stK_succ]
  exact if_pos h
theorem stK_done {l : List Plate} {F : Int} {i j k : Nat} (h : (stK l F i j k).1 ≤ 0) : ∀ d, stK l F i j (k + d) = stK l F i j k
  | 0 => rfl
  | d + 1 => by
    rw [← Nat.add_assoc, stK_succ, stK_done h d]
    exact if_neg (by omega)
theorem stJ_same {l : List Plate} {F : Int} {i j : Nat} {p : Plate} (hp : l[j]? = some p) (h : areaI p ≠ 64 - (i : Int)) : stJ l F i (j + 1) = stJ l F i j := by
  unfold stJ
  have e : ofArea (l.take (j + 1)) (64 - (i : Int)) = ofArea (l.take j) (64 - (i : Int)) := by
    unfold ofArea
    rw [List.take_add_one, hp, List.flatMap_append]
    simp [h]
  rw [e]
theorem stJ_more {l : List Plate} {F : Int} {i j : Nat} {p : Plate} (hp : l[j]? = some p) (h : areaI p = 64 - (i : Int)) : stJ l F i (j + 1) = stK l F i j p.N.toNat := by
  unfold stK stJ
  have e : ofArea (l.take (j + 1)) (64 - (i : Int)) = ofArea (l.take j) (64 - (i : Int)) ++ List.replicate p.N.toNat (64 - (i : Int)) := by
    unfold ofArea
    rw [List.take_add_one, hp, List.flatMap_append]
    simp [h]
  rw [e, List.foldl_append]
theorem stepN_in {F : Int} {qs : List Int} (h0 : ∀ a ∈ qs, 1 ≤ a ∧ a ≤ 64) : ∀ {st : Int × Nat}, -64 < st.1 → st.1 ≤ F → (st.2 : Int) + st.1 ≤ F → -64 < (qs.foldl stepN st).1 ∧ (qs.foldl stepN st).1 ≤ F ∧ ((qs.foldl stepN st).2 : Int) + (qs.foldl stepN st).1 ≤ F := by
  induction qs with
  | nil => intro st h1 h2 h3; exact ⟨h1, h2, h3⟩
  | cons a qs ih =>
    intro st h1 h2 h3
    have ha := h0 a (by simp)
    rw [List.foldl_cons]
    refine ih (fun b hb => h0 b (by simp [hb])) ?_ ?_ ?_ <;> (unfold stepN; split <;> (first | omega | (simp only; omega) | (simp only; push_cast; omega)))
/-- What is left, and how many are taken, stay small. -/
theorem stK_in {l : List Plate} {F : Int} {i j k : Nat} (hF : 0 ≤ F) (hi : i < 64) : -64 < (stK l F i j k).1 ∧ (stK l F i j k).1 ≤ F ∧ ((stK l F i j k).2 : Int) + (stK l F i j k).1 ≤ F := by
  have hv : ∀ (q : List Plate) (a x : Int), x ∈ ofArea q a → x = a := fun q a x hx => by
    unfold ofArea at hx
    obtain ⟨p, -, hx⟩ := List.mem_flatMap.1 hx
    split at hx
    · exact List.eq_of_mem_replicate hx
    · cases hx
  have h1 : -64 < (stI l F i).1 ∧ (stI l F i).1 ≤ F ∧ ((stI l F i).2 : Int) + (stI l F i).1 ≤ F := by
    refine stepN_in (fun a ha => ?_) (by simp only; omega) (Int.le_refl _) (by simp)
    unfold downL at ha
    obtain ⟨q, hq, ha⟩ := List.mem_flatMap.1 ha
    have := List.mem_range.1 hq
    rw [hv _ _ _ ha]
    omega
  have h2 := stepN_in (F := F) (qs := ofArea (l.take j) (64 - (i : Int))) (fun a ha => by rw [hv _ _ _ ha]; omega) h1.1 h1.2.1 h1.2.2
  exact stepN_in (F := F) (qs := List.replicate k (64 - (i : Int))) (fun a ha => by rw [List.eq_of_mem_replicate ha]; omega) h2.1 h2.2.1 h2.2.2
end Go.Proofs.YtaaeapjnjjbglaaDoor

namespace Go.Proofs.YtaaeapjnjjbglaaDoor
open Go.RowKit

def leastI (s : Shape) (l : List Plate) : Int := if askErr s l = 0 then (match leastO s l with | some n => (n : Int) | none => 0) else 0
def leastE (s : Shape) (l : List Plate) : Int := if askErr s l = 0 then (match leastO s l with | some _ => 0 | none => 6) else askErr s l
theorem least_ask {s : Shape} {l : List Plate} (h : ¬ askErr s l = 0) : leastI s l = 0 ∧ leastE s l = askErr s l := by
  unfold leastI leastE
  rw [if_neg h, if_neg h]
  exact ⟨rfl, rfl⟩
theorem least_got {s : Shape} {l : List Plate} {n : Nat} (h : askErr s l = 0) (h2 : leastO s l = some n) : leastI s l = n ∧ leastE s l = 0 := by
  unfold leastI leastE
  rw [if_pos h, if_pos h, h2]
  exact ⟨rfl, rfl⟩
theorem least_not {s : Shape} {l : List Plate} (h : askErr s l = 0) (h2 : leastO s l = none) : leastI s l = 0 ∧ leastE s l = 6 := by
  unfold leastI leastE
  rw [if_pos h, if_pos h, h2]
  exact ⟨rfl, rfl⟩
theorem least_run {s : Shape} {l : List Plate} (okl : platesB l = true) (hf : 0 < fullN s.cells) (h : askErr s l = 0) {x : Int} {n : Nat} (hx : stI l (fullN s.cells : Int) 64 = (x, n)) : (0 < x → leastI s l = 0 ∧ leastE s l = 6) ∧ (x ≤ 0 → leastI s l = n ∧ leastE s l = 0) := by
  have e := leastO_fold okl hf
  have e2 : (downL l 64).foldl stepN ((fullN s.cells : Int), 0) = (x, n) := hx
  rw [e2] at e
  exact ⟨fun h0 => least_not h (by rw [e, if_pos h0]), fun h0 => least_got h (by rw [e, if_neg (by omega)])⟩
/-! ### the program: from the end of the sorted areas -/
def ascL (l : List Plate) : List Int := (areasL l).mergeSort (fun a b => decide (a ≤ b))
theorem asc_perm (l : List Plate) : (ascL l).Perm (areasL l) := List.mergeSort_perm _ _
theorem asc_sorted (l : List Plate) : (ascL l).Pairwise (fun x y => x ≤ y) := by
  have := List.pairwise_mergeSort (le := fun a b : Int => decide (a ≤ b)) (fun a b c h k => by simp at *; omega) (fun a b => by simp; omega) (areasL l)
  exact this.imp (fun h => by simpa using h)
theorem asc_rev (l : List Plate) : (ascL l).reverse = descL l := by
  refine sorted_same ?_ (desc_sorted l) ?_
  · rw [List.pairwise_reverse]
    exact asc_sorted l
  · exact (List.reverse_perm _).trans ((asc_perm l).trans (desc_perm l).symm)
theorem asc_len (l : List Plate) : (ascL l).length = (areasL l).length := (asc_perm l).length_eq
/-- What is left behind k areas. -/
def leftK (F : Int) (ds : List Int) (k : Nat) : Int := F - (ds.take k).sum
theorem leftK_zero (F : Int) (ds : List Int) : leftK F ds 0 = F := by simp [leftK]
theorem leftK_succ {F : Int} {ds : List Int} {k : Nat} {a : Int} (h : ds[k]? = some a) : leftK F ds (k + 1) = leftK F ds k - a := by
  unfold leftK
  rw [List.take_add_one, h, Option.toList_some, List.sum_append, List.sum_cons, List.sum_nil]
  omega
theorem takeN_go : ∀ {ds : List Int} {F : Int} {n k : Nat}, (∀ j, j < k → 0 < leftK F ds (j + 1)) → k < ds.length → leftK F ds (k + 1) ≤ 0 → takeN ds F n = some (n + k + 1)
  | [], F, n, k, _, h, _ => by simp at h
  | a :: ds, F, n, k, h, hk, h0 => by
    unfold takeN
    cases k with
    | zero =>
      rw [if_pos (by have := leftK_succ (F := F) (ds := a :: ds) (k := 0) (a := a) rfl; rw [leftK_zero] at this; omega)]
    | succ k =>
      have e : ∀ j, leftK F (a :: ds) (j + 1) = leftK (F - a) ds j := fun j => by
        unfold leftK
        rw [List.take_succ_cons, List.sum_cons]
        omega
      have h1 := h 0 (by omega)
      rw [e, leftK_zero] at h1
      rw [if_neg (by omega), takeN_go (k := k) (fun j hj => by have := h (j + 1) (by omega); rw [e] at this; exact this) (by simpa using hk) (by rw [e] at h0; exact h0)]
      exact congrArg some (by omega)
theorem takeN_not : ∀ {ds : List Int} {F : Int} {n : Nat}, (∀ j, j < ds.length → 0 < leftK F ds (j + 1)) → takeN ds F n = none
  | [], _, _, _ => rfl
  | a :: ds, F, n, h => by
    have e : ∀ j, leftK F (a :: ds) (j + 1) = leftK (F - a) ds j := fun j => by
      unfold leftK
      rw [List.take_succ_cons, List.sum_cons]
      omega
    unfold takeN
    have h1 := h 0 (by simp)
    rw [e, leftK_zero] at h1
    rw [if_neg (by omega), takeN_not fun j hj => by have := h (j + 1) (by simpa using hj); rw [e] at this; exact this]
/-- The areas in the order in which the program makes them. -/
theorem areas_succ {l : List Plate} {k : Nat} {p : Plate} (h : l[k]? = some p) : areasL (l.take (k + 1)) = areasL (l.take k) ++ List.replicate p.N.toNat (areaI p) := by
  unfold areasL
  rw [List.take_add_one, h, Option.toList_some, List.flatMap_append]
  simp
theorem areas_len {l : List Plate} (okl : platesB l = true) : ∀ k, (areasL (l.take k)).length ≤ 99 * k
  | 0 => by simp [areasL]
  | k + 1 => by
    have := areas_len okl k
    rcases Nat.lt_or_ge k l.length with h | h
    · have hp := List.getElem?_eq_getElem h
      have hn := (plate_ok okl hp).n
      rw [areas_succ hp, List.length_append, List.length_replicate]
      omega
    · have e1 : l.take (k + 1) = l.take k := by rw [List.take_of_length_le h, List.take_of_length_le (by omega)]
      rw [e1]
      omega
end Go.Proofs.YtaaeapjnjjbglaaDoor

namespace Go.Proofs.YtaaeapjnjjbglaaDoor
open Go.RowKit

theorem plate_at_ {w : World} {A : Option Addr} {cap : Nat} {l : List Plate} (h : Plates w A cap l) {k : Nat} (hk : k < l.length) : ∃ b off p, A = some ⟨b, off, none⟩ ∧ l[k]? = some p ∧ b < w.heap.size ∧
    w.cell? ⟨b, off + k * 4, none⟩ = some (.int .i64 p.W) ∧ w.cell? ⟨b, off + k * 4 + 1, none⟩ = some (.int .i64 p.D) ∧ w.cell? ⟨b, off + k * 4 + 2, none⟩ = some (.int .i64 p.N) := by
  obtain ⟨b, off, rfl, hb, hc⟩ := SliceIs.cells h (by omega)
  have hn : l[k]? = some l[k] := List.getElem?_eq_getElem hk
  have hg : (l.map Plate.cells)[k]? = some l[k].cells := by rw [List.getElem?_map, hn]; rfl
  exact ⟨b, off, l[k], rfl, hn, hb, hc k _ hg 0 _ rfl, hc k _ hg 1 _ rfl, hc k _ hg 2 _ rfl⟩
/-- What the inner loop comes to. -/
theorem stK_end {l : List Plate} {F : Int} {i j k : Nat} {p : Plate} (hp : l[j]? = some p) (hn : 0 ≤ p.N) (hk : (k : Int) ≤ p.N) (h : (k : Int) = p.N ∨ (stK l F i j k).1 ≤ 0) (hm : areaI p = 64 - (i : Int)) : stJ l F i (j + 1) = stK l F i j k := by
  rw [stJ_more hp hm]
  rcases h with h | h
  · rw [← h, Int.toNat_natCast]
  · obtain ⟨d, hd⟩ : ∃ d : Nat, p.N.toNat = k + d := ⟨p.N.toNat - k, by omega⟩
    rw [hd]
    exact stK_done h d
set_option maxRecDepth 100000 in
set_option maxHeartbeats 4000000 in
theorem rLeast_c (s : Shape) (A : Option Addr) (cap : Nat) (l : List Plate) (PA : Option Addr) (pcap : Nat) (w : World) (hs : Bytes w A cap s.cells) (hl : Plates w PA pcap l) :
    Calls Tryd.prog 13 #[.agg #[.int .i64 s.W, .int .i64 s.D, .int .i64 s.H, .slice A s.cells.length cap], .slice PA l.length pcap] w fun e w' => e = .returned (.tuple #[.int .i64 (leastI s l), .int .i64 (leastE s l)]) ∧ Ext w w' := by
  obtain ⟨W1, hW1, E1, B1, hz1⟩ := box_ w #[.int .i64 s.W, .int .i64 s.D, .int .i64 s.H, .slice A s.cells.length cap] 24
  have b1 := B1.cell
  have P1 := asked_c s A cap l PA pcap W1 (hs.ext E1) (hl.ext E1)
  rw [show askedErr s l = askErr s l from rfl] at P1
  obtain ⟨r, hr⟩ : ∃ r, askErr s l = r := ⟨_, rfl⟩
  rw [hr] at P1
  have HE1 := Lib.hid E1
  have HB1 := Lib.hid B1
  by_cases h0 : r = 0
  · subst h0
    have hv : s.valid = true ∧ platesB l = true := by
      unfold askErr platesErr at hr
      split at hr
      · split at hr
        · exact ⟨by assumption, by assumption⟩
        · omega
      · omega
    have ok := Shape.ok_of hv.1
    have okl := hv.2
    obtain ⟨F, hF⟩ : ∃ F : Int, (fullN s.cells : Int) = F := ⟨_, rfl⟩
    have hfull := ok.full
    have hF1 : 1 ≤ F ∧ F ≤ 16 := by omega
    have HC := Lib.hid (fun (W : World) (EW : Ext w W) => rFull_c A cap s.W s.D s.H s.cells W (hs.ext EW))
    rw [hF] at HC
    have Hend := Lib.hid (fun x n (hx : stI l F 64 = (x, n)) => least_run okl hfull.1 hr (by rw [hF, hx]))
    have Hl := Lib.hid hl
    have hn8 := (plates_len okl).2
    have Hokl := Lib.hid okl
    clear hz1 B1 E1 hs hl hr hF hfull hv ok okl
    go_enter Tryd.func13, Tryd.ntmps13
    go_wp2_with fail
    refine P1.mono ?_
    rintro e W2 ⟨rfl, E2⟩
    have HE2 := Lib.hid (HE1.out.trans E2)
    have b2 := (HB1.out.ext E2).cell
    clear b1 hW1 P1 E2
    go_wp2_with fail
    refine (HC.out _ HE2.out).mono ?_
    rintro e W3 ⟨rfl, E3⟩
    have HE3 := Lib.hid (HE2.out.trans E3)
    clear b2 E3
    go_wp2_with fail
    go_loopw [7, 8, 9] (fun n x a wr => ∃ i : Nat, i ≤ 64 ∧ a = .int .i64 (64 - (i : Int)) ∧ n = .int .i64 ((stI l F i).2 : Int) ∧ x = .int .i64 (stI l F i).1 ∧ Ext w wr) (fun _ _ a _ => (intOf a).toNat)
    case atStart => exact ⟨0, by omega, rfl, rfl, rfl, HE3.out⟩
    case round =>
      obtain ⟨i, hi, rfl, rfl, rfl, EI⟩ := hrel
      by_cases hlt : i < 64
      · obtain ⟨a, ha⟩ : ∃ a : Int, 64 - (i : Int) = a := ⟨_, rfl⟩
        rw [ha]
        have h1 : 1 ≤ a := by omega
        have ha64 : a ≤ 64 := by omega
        have Ha := Lib.hid ha
        clear ha
        go_wp2_with fail
        go_loopw [7, 8, 10] (fun n x q wr => ∃ j : Nat, j ≤ l.length ∧ q = .int .i64 j ∧ n = .int .i64 ((stJ l F i j).2 : Int) ∧ x = .int .i64 (stJ l F i j).1 ∧ Ext w wr) (fun _ _ q _ => l.length - (intOf q).toNat)
        case atStart => exact ⟨0, by omega, rfl, rfl, rfl, EI⟩
        case round =>
          obtain ⟨j, hj, rfl, rfl, rfl, EJ⟩ := hrel
          clear EI
          by_cases hjl : j < l.length
          · obtain ⟨pb, po, p, hPA, hp, hpb, -⟩ := plate_at_ Hl.out hjl
            have pok := plate_ok Hokl.out hp
            have hn := pok.n
            have hw1 := pok.w
            have hd1 := pok.d
            have Hp := Lib.hid hp
            clear hp pok
            subst hPA
            have hj1 : (j : Int) < l.length := by omega
            have hm1 : p.W * p.D ≤ 8 * 8 := Int.mul_le_mul (by omega) (by omega) (by omega) (by omega)
            have hm0 : 0 ≤ p.W * p.D := Int.mul_nonneg (by omega) (by omega)
            obtain ⟨q, hq⟩ : ∃ q, p.W * p.D = q := ⟨_, rfl⟩
            rw [hq] at hm1 hm0
            have hqa : areaI p = q := hq
            have Hqa := Lib.hid hqa
            have Hq := Lib.hid hq
            clear hq hqa
            go_wp2_with fail
            go_loopw [7, 8, 11] (fun n x z wr => ∃ k : Nat, (k : Int) ≤ p.N ∧ z = .int .i64 k ∧ (k = 0 ∨ q = a) ∧ n = .int .i64 ((stK l F i j k).2 : Int) ∧ x = .int .i64 (stK l F i j k).1 ∧ Ext w wr) (fun _ _ z _ => 100 - (intOf z).toNat)
            case atStart => exact ⟨0, by omega, rfl, Or.inl rfl, rfl, rfl, EJ⟩
            case round =>
              obtain ⟨k, hk, rfl, hka, rfl, rfl, EK⟩ := hrel
              clear EJ
              obtain ⟨b', o', p', hA, hp', -, c0, c1, c2⟩ := plate_at_ (Hl.out.ext EK) hjl
              cases hA
              obtain rfl : p' = p := Option.some.inj (hp'.symm.trans Hp.out)
              obtain ⟨i1, i2, i3⟩ := stK_in (l := l) (F := F) (i := i) (j := j) (k := k) (by omega) hlt
              obtain ⟨⟨x, y⟩, hst⟩ : ∃ z, stK l F i j k = z := ⟨_, rfl⟩
              rw [hst] at i1 i2 i3 ⊢
              simp only at i1 i2 i3 ⊢
              have Hst := Lib.hid hst
              have Hka := Lib.hid hka
              obtain ⟨pw, hpw⟩ : ∃ v, p'.W = v := ⟨_, rfl⟩
              obtain ⟨pd, hpd⟩ : ∃ v, p'.D = v := ⟨_, rfl⟩
              obtain ⟨pn, hpn⟩ : ∃ v, p'.N = v := ⟨_, rfl⟩
              have hq := Hq.out
              have Hpn := Lib.hid hpn
              rw [hpw, hpd] at hq
              rw [hpw] at c0 hw1
              rw [hpd] at c1 hd1 hw1
              rw [hpn] at c2 hk hn
              have wq : IntKind.i64.wrap q = q := IntWalk.i64_in _ (by omega)
              clear hst hka hp' hpw hpd hpn
              by_cases hkn : (k : Int) < pn
              · have g1 : decide ((k : Int) < pn) = true := decide_eq_true hkn
                by_cases hx : 0 < x
                · have g2 : decide (0 < x) = true := decide_eq_true hx
                  by_cases hqa : q = a
                  · have g3 : (q == a) = true := by simpa using hqa
                    have hnext := stK_next (l := l) (F := F) (i := i) (j := j) (k := k) (by rw [Hst.out]; exact hx)
                    rw [Hst.out] at hnext
                    have Hn := Lib.hid hnext
                    have HEK := Lib.hid EK
                    have Hqa2 := Lib.hid hqa
                    clear hnext hqa
                    go_upto_region 12 with (fail)
                    refine wp_region_grow (by kernel_rfl) (by kernel_rfl) ?_
                    repeat (go_big_quiet_step (fail))
                    refine wpQuiet_nil ?_
                    intro W9 hW9
                    have E9 : Ext wr W9 := by
                      obtain ⟨x, rfl⟩ := hW9
                      exact (Ext.refl _).grow x
                    clear hW9
                    obtain ⟨hcW9, hfW9, hzW9⟩ := ext_facts E9
                    clear hcW9 hfW9 hzW9 c0 c1 c2
                    go_wp2_with fail
                    go_roundw
                    case rel => exact ⟨k + 1, by rw [Hpn.out]; omega, by go_num, Or.inr Hqa2.out, by rw [Hn.out]; go_num, by rw [Hn.out, Ha.out], HEK.out.trans E9⟩
                    case measure => simp only [intOf]; omega
                  · have g3 : (q == a) = false := by simpa using hqa
                    have hend : stJ l F i (j + 1) = (x, y) := by
                      rcases Hka.out with rfl | h
                      · rw [stJ_same Hp.out (by rw [Hqa.out, Ha.out]; exact hqa), ← stK_zero, Hst.out]
                      · exact absurd h hqa
                    have Hend2 := Lib.hid hend
                    have HEK := Lib.hid EK
                    clear hend hqa
                    go_upto_region 12 with (fail)
                    refine wp_region_grow (by kernel_rfl) (by kernel_rfl) ?_
                    repeat (go_big_quiet_step (fail))
                    refine wpQuiet_nil ?_
                    intro W9 hW9
                    have E9 : Ext wr W9 := by
                      obtain ⟨x, rfl⟩ := hW9
                      exact (Ext.refl _).grow x
                    clear hW9
                    obtain ⟨hcW9, hfW9, hzW9⟩ := ext_facts E9
                    clear hcW9 hfW9 hzW9 c0 c1 c2
                    go_wp2_with fail
                    go_roundw
                    case rel => exact ⟨j + 1, by omega, by go_num, by rw [Hend2.out], by rw [Hend2.out], HEK.out.trans E9⟩
                    case measure => simp only [intOf]; omega
                · have g2 : decide (0 < x) = false := decide_eq_false hx
                  have hend : stJ l F i (j + 1) = (x, y) := by
                    by_cases hqa : q = a
                    · rw [stK_end (k := k) Hp.out (by rw [Hpn.out]; omega) (by rw [Hpn.out]; omega) (Or.inr (by rw [Hst.out]; simp only; omega)) (by rw [Hqa.out, Ha.out]; exact hqa), Hst.out]
                    · rcases Hka.out with rfl | h
                      · rw [stJ_same Hp.out (by rw [Hqa.out, Ha.out]; exact hqa), ← stK_zero, Hst.out]
                      · exact absurd h hqa
                  have Hend2 := Lib.hid hend
                  have HEK := Lib.hid EK
                  clear hend
                  go_upto_region 12 with (fail)
                  refine wp_region_grow (by kernel_rfl) (by kernel_rfl) ?_
                  repeat (go_big_quiet_step (fail))
                  refine wpQuiet_nil ?_
                  intro W9 hW9
                  have E9 : Ext wr W9 := by
                    obtain ⟨x, rfl⟩ := hW9
                    exact (Ext.refl _).grow x
                  clear hW9
                  obtain ⟨hcW9, hfW9, hzW9⟩ := ext_facts E9
                  clear hcW9 hfW9 hzW9 c0 c1 c2
                  go_wp2_with fail
                  go_roundw
                  case rel => exact ⟨j + 1, by omega, by go_num, by rw [Hend2.out], by rw [Hend2.out], HEK.out.trans E9⟩
                  case measure => simp only [intOf]; omega
              · have g1 : decide ((k : Int) < pn) = false := decide_eq_false hkn
                have hend : stJ l F i (j + 1) = (x, y) := by
                  by_cases hqa : q = a
                  · rw [stK_end (k := k) Hp.out (by rw [Hpn.out]; omega) (by rw [Hpn.out]; omega) (Or.inl (by rw [Hpn.out]; omega)) (by rw [Hqa.out, Ha.out]; exact hqa), Hst.out]
                  · rcases Hka.out with rfl | h
                    · rw [stJ_same Hp.out (by rw [Hqa.out, Ha.out]; exact hqa), ← stK_zero, Hst.out]
                    · exact absurd h hqa
                have Hend2 := Lib.hid hend
                have HEK := Lib.hid EK
                clear hend
                go_upto_region 12 with (fail)
                refine wp_region_grow (by kernel_rfl) (by kernel_rfl) ?_
                repeat (go_big_quiet_step (fail))
                refine wpQuiet_nil ?_
                intro W9 hW9
                have E9 : Ext wr W9 := by
                  obtain ⟨x, rfl⟩ := hW9
                  exact (Ext.refl _).grow x
                clear hW9
                obtain ⟨hcW9, hfW9, hzW9⟩ := ext_facts E9
                clear hcW9 hfW9 hzW9 c0 c1 c2
                go_wp2_with fail
                go_roundw
                case rel => exact ⟨j + 1, by omega, by go_num, by rw [Hend2.out], by rw [Hend2.out], HEK.out.trans E9⟩
                case measure => simp only [intOf]; omega
          · obtain rfl : j = l.length := by omega
            have HEJ := Lib.hid EJ
            clear EJ
            go_wp2_with fail
            go_roundw
            case rel => exact ⟨i + 1, by omega, by have := Ha.out; congr 1; omega, by rw [← stJ_all], by rw [← stJ_all], HEJ.out⟩
            case measure => simp only [intOf]; omega
      · obtain rfl : i = 64 := by omega
        obtain ⟨⟨x, y⟩, hst⟩ : ∃ z, stI l F 64 = z := ⟨_, rfl⟩
        obtain ⟨e1, e2⟩ := Hend.out x y hst
        rw [hst]
        simp only
        by_cases hx : 0 < x
        · obtain ⟨v1, v2⟩ := e1 hx
          replace v1 := Lib.hid v1
          replace v2 := Lib.hid v2
          clear e1 e2 hst
          go_wp2_with fail
          go_ret2
          exact ⟨by rw [v1.out, v2.out]; rfl, EI⟩
        · obtain ⟨v1, v2⟩ := e2 (by omega)
          replace v1 := Lib.hid v1
          replace v2 := Lib.hid v2
          clear e1 e2 hst
          go_wp2_with fail
          go_ret2
          exact ⟨by rw [v1.out, v2.out]; rfl, EI⟩
  · obtain ⟨v1, v2⟩ := least_ask (s := s) (l := l) (by rw [hr]; exact h0)
    have Hv1 := Lib.hid v1
    have Hv2 := Lib.hid (v2.trans hr)
    have h1 : (r != 0) = true := by simpa using h0
    clear hz1 B1 E1 hs hl hr h0 v1 v2
    go_enter Tryd.func13, Tryd.ntmps13
    go_wp2_with fail
    refine P1.mono ?_
    rintro e W2 ⟨rfl, E2⟩
    go_wp2_with fail
    refine bodyPost_ret (v := .tuple #[.int .i64 0, .int .i64 r]) (by simp [results, Tryd.results13, go_sem]) rfl ⟨by rw [Hv1.out, Hv2.out], HE1.out.trans E2⟩
end Go.Proofs.YtaaeapjnjjbglaaDoor


namespace Go.Proofs.YtaaeapjnjjbglaaDoor
open Go.Shelf

def sortInts_ren : Go.Shelf.Ren := ⟨fun | 189 => 46 | 125 => 80 | 257 => 79 | 128 => 119 | 129 => 120 | 294 => 110 | 295 => 111 | 296 => 112 | 297 => 113 | 298 => 114 | 299 => 115 | 216 => 116 | 300 => 117 | 301 => 118 | 328 => 130 | 329 => 131 | 330 => 132 | 331 => 133 | 332 => 134 | 215 => 122 | 343 => 149 | n => n, fun | 28 => 97 | 3 => 3 | 46 => 146 | 0 => 0 | 51 => 130 | 53 => 182 | 4 => 4 | 183 => 187 | 182 => 186 | 131 => 128 | 5 => 5 | 9 => 9 | 218 => 204 | 222 => 208 | 228 => 215 | 229 => 35 | n => n, fun | n => n⟩
theorem sortInts : Lays.n189 Tryd.prog sortInts_ren := {
  mixed := by kernel_rfl,
  f125 := Tryd.func80.trans (congrArg some (by kernel_rfl)),
  f128 := Tryd.func119.trans (congrArg some (by kernel_rfl)),
  f129 := Tryd.func120.trans (congrArg some (by kernel_rfl)),
  f189 := Tryd.func46.trans (congrArg some (by kernel_rfl)),
  f215 := Tryd.func122.trans (congrArg some (by kernel_rfl)),
  f216 := Tryd.func116.trans (congrArg some (by kernel_rfl)),
  f257 := Tryd.func79.trans (congrArg some (by kernel_rfl)),
  f294 := Tryd.func110.trans (congrArg some (by kernel_rfl)),
  f295 := Tryd.func111.trans (congrArg some (by kernel_rfl)),
  f296 := Tryd.func112.trans (congrArg some (by kernel_rfl)),
  f297 := Tryd.func113.trans (congrArg some (by kernel_rfl)),
  f298 := Tryd.func114.trans (congrArg some (by kernel_rfl)),
  f299 := Tryd.func115.trans (congrArg some (by kernel_rfl)),
  f300 := Tryd.func117.trans (congrArg some (by kernel_rfl)),
  f301 := Tryd.func118.trans (congrArg some (by kernel_rfl)),
  f328 := Tryd.func130.trans (congrArg some (by kernel_rfl)),
  f329 := Tryd.func131.trans (congrArg some (by kernel_rfl)),
  f330 := Tryd.func132.trans (congrArg some (by kernel_rfl)),
  f331 := Tryd.func133.trans (congrArg some (by kernel_rfl)),
  f332 := Tryd.func134.trans (congrArg some (by kernel_rfl)),
  f343 := Tryd.func149.trans (congrArg some (by kernel_rfl)),
  t0 := Tryd.underlying0,
  a0 := Tryd.isAgg0,
  z0 := Tryd.sizeOf0,
  v0 := Tryd.zeroValue0,
  t3 := Tryd.underlying3,
  a3 := Tryd.isAgg3,
  z3 := Tryd.sizeOf3,
  v3 := Tryd.zeroValue3,
  t4 := Tryd.underlying4,
  a4 := Tryd.isAgg4,
  z4 := Tryd.sizeOf4,
  v4 := Tryd.zeroValue4,
  t5 := Tryd.underlying5,
  a5 := Tryd.isAgg5,
  z5 := Tryd.sizeOf5,
  v5 := Tryd.zeroValue5,
  t9 := Tryd.underlying9,
  a9 := Tryd.isAgg9,
  z9 := Tryd.sizeOf9,
  v9 := Tryd.zeroValue9,
  t28 := Tryd.underlying97,
  a28 := Tryd.isAgg97,
  z28 := Tryd.sizeOf97,
  v28 := Tryd.zeroValue97,
  t46 := Tryd.underlying146,
  a46 := Tryd.isAgg146,
  z46 := Tryd.sizeOf146,
  v46 := Tryd.zeroValue146,
  t51 := Tryd.underlying130,
  a51 := Tryd.isAgg130,
  z51 := Tryd.sizeOf130,
  v51 := Tryd.zeroValue130,
  t53 := Tryd.underlying182,
  a53 := Tryd.isAgg182,
  z53 := Tryd.sizeOf182,
  v53 := Tryd.zeroValue182,
  t131 := Tryd.underlying128,
  a131 := Tryd.isAgg128,
  z131 := Tryd.sizeOf128,
  v131 := Tryd.zeroValue128,
  t182 := Tryd.underlying186,
  a182 := Tryd.isAgg186,
  z182 := Tryd.sizeOf186,
  v182 := Tryd.zeroValue186,
  t183 := Tryd.underlying187,
  a183 := Tryd.isAgg187,
  z183 := Tryd.sizeOf187,
  v183 := Tryd.zeroValue187,
  t218 := Tryd.underlying204,
  a218 := Tryd.isAgg204,
  z218 := Tryd.sizeOf204,
  v218 := Tryd.zeroValue204,
  t222 := Tryd.underlying208,
  a222 := Tryd.isAgg208,
  z222 := Tryd.sizeOf208,
  v222 := Tryd.zeroValue208,
  t228 := Tryd.underlying215,
  a228 := Tryd.isAgg215,
  z228 := Tryd.sizeOf215,
  v228 := Tryd.zeroValue215,
  t229 := Tryd.underlying35,
  a229 := Tryd.isAgg35,
  z229 := Tryd.sizeOf35,
  v229 := Tryd.zeroValue35 }
end Go.Proofs.YtaaeapjnjjbglaaDoor

namespace Go.Proofs.YtaaeapjnjjbglaaDoor
open Go.RowKit Go.Shelf
attribute [local go_sem] Oper.semAt_some

def Nums (w : World) (A : Option Addr) (cap : Nat) (zs : List Int) : Prop := SliceIs w A zs.length cap 1 (zs.map fun z => [.int .i64 z])
theorem nums_at {w : World} {A : Option Addr} {cap : Nat} {zs : List Int} (h : Nums w A cap zs) {k : Nat} (hk : k < zs.length) :
    ∃ b off z, A = some ⟨b, off, none⟩ ∧ zs[k]? = some z ∧ w.cell? ⟨b, off + k, none⟩ = some (.int .i64 z) := by
  obtain ⟨b, off, rfl, -, hc⟩ := SliceIs.cells h (by omega)
  have hn : zs[k]? = some zs[k] := List.getElem?_eq_getElem hk
  have hc0 := hc k [.int .i64 zs[k]] (by rw [List.getElem?_map, hn]; rfl) 0 _ rfl
  simp only [Nat.mul_one, Nat.add_zero] at hc0
  exact ⟨b, off, _, rfl, hn, hc0⟩
/-- The last ones first. -/
def idxs (n : Nat) : List Nat := (List.range n).reverse
theorem idxs_len (n : Nat) : (idxs n).length = n := by simp [idxs]
theorem idxs_get {n k : Nat} (h : k < n) : (idxs n)[k]? = some (n - 1 - k) := by
  unfold idxs
  rw [List.getElem?_reverse (by simpa using h), List.length_range, List.getElem?_range (by omega)]
theorem idxs_take {n k : Nat} (h : k < n) : (idxs n).take (n - (k + 1)) ++ [k] = (idxs n).take (n - k) := by
  have e : n - k = (n - (k + 1)) + 1 := by omega
  rw [e, List.take_add_one, idxs_get (by omega)]
  simp only [Option.toList_some]
  congr 2
  omega
abbrev encB (zs : List Int) (i : Nat) : Array Value := #[.int .i64 (i : Int), .int .i64 (zs.getD i 0)]
/-- What a round keeps: the iterator's box and the row. -/
def KpB (SB : Nat) (A : Option Addr) (W W' : World) : Prop := W'.heap[SB]? = W.heap[SB]? ∧ (W.heap.size ≤ W'.heap.size) ∧ ∀ a, A = some a → W'.heap[a.block]? = W.heap[a.block]?
theorem cell_heap {W W' : World} {b : Nat} (h : W'.heap[b]? = W.heap[b]?) (i : Nat) : W'.cell? ⟨b, i, none⟩ = W.cell? ⟨b, i, none⟩ := by
  unfold World.cell?
  simp only [h]
theorem nums_kept {W W' : World} {SB cap : Nat} {A : Option Addr} {zs : List Int} (h : Nums W A cap zs) (k : KpB SB A W W') : Nums W' A cap zs := by
  obtain ⟨h1, h2, h3, h4, h5⟩ := h
  refine ⟨h1, h2, h3, h4, fun hn => ?_⟩
  obtain ⟨b, off, hA, hb, hc⟩ := h5 hn
  refine ⟨b, off, hA, Nat.lt_of_lt_of_le hb k.2.1, fun i r hr j u hu => ?_⟩
  rw [cell_heap (k.2.2 _ hA)]
  exact hc i r hr j u hu
set_option maxRecDepth 100000 in
set_option maxHeartbeats 2000000 in
theorem back1_stops (n : Nat) (hn : 1 ≤ n) (SB : Nat) (A : Option Addr) (cap : Nat) (zs : List Int) (hz : zs.length ≤ 100000) (w : World) (hB : Blk w SB 97 #[.slice A zs.length cap]) (hZ : Nums w A cap zs) :
    SeqStopsK Fence.wide n Tryd.prog 81 #[.pointer (some ⟨SB, 0, none⟩)] (encB zs) (KpB SB A) (fun ys => ys = idxs zs.length) (fun pre => pre <+: idxs zs.length) zs.length w := by
  intro l J Jx W hW _ _ hY h0
  have hB1 : Blk W SB 97 #[.slice A zs.length cap] := hB.ext hW
  have hZ1 : Nums W A cap zs := SliceIs.ext hZ hW
  have b1 := hB1.cell
  have HB1 := Lib.hid hB1
  have HZ1 := Lib.hid hZ1
  have HY := Lib.hid hY
  clear hB hZ hW hB1 hZ1 hY
  refine callsIn_of_wp Tryd.func81 rfl trivial ?_ rfl
  simp only [Tryd.ntmps81, List.size_toArray, List.length_cons, List.length_nil, Nat.reduceAdd, Nat.reduceSub, Array.replicate_succ, Array.replicate_zero, List.push_toArray, List.append_toArray, List.nil_append, List.cons_append]
  gi_wp2
  clear b1
  gi_loopw [3] (fun i wr => ∃ k : Nat, k ≤ zs.length ∧ i = .int .i64 ((k : Int) - 1) ∧ J ((idxs zs.length).take (zs.length - k)) wr ∧ Blk wr SB 97 #[.slice A zs.length cap] ∧ Nums wr A cap zs) (fun i _ => (intOf i + 1).toNat)
  case atStart => exact ⟨zs.length, Nat.le_refl _, rfl, by rw [Nat.sub_self]; exact h0, HB1.out, HZ1.out⟩
  case round =>
    obtain ⟨k, hk, rfl, hJs, hB, hZ⟩ := hrel
    have HJ := Lib.hid hJs
    have HB := Lib.hid hB
    have HZ := Lib.hid hZ
    cases k with
    | zero =>
      clear hJs hB hZ
      gi_wp2
      go_end0
      have hJ := HJ.out
      rw [Nat.sub_zero, List.take_of_length_le (by rw [idxs_len]; exact Nat.le_refl _)] at hJ
      exact ⟨⟨_, rfl⟩, .inl ⟨_, rfl, hJ⟩⟩
    | succ k =>
      obtain ⟨b, off, z, hA, hz, hc⟩ := nums_at hZ (show k < zs.length by omega)
      have b1 := hB.cell
      obtain ⟨fn, tmps, assign, body, hy, hR⟩ := HY.out _ k wr hJs (by rw [List.length_take, idxs_len]; omega)
      dsimp only [encB] at hy
      rw [List.getD_eq_getElem?_getD, hz, Option.getD_some] at hy
      have e : ((k + 1 : Nat) : Int) - 1 = k := by omega
      rw [e]
      have hkl : (k : Int) < zs.length := by omega
      clear hJs hB hZ hz e
      subst hA
      gi_wp2
      refine hR.mono ?_
      rintro e W3 (⟨rfl, hJ3, hk3⟩ | ⟨rfl, hJx3⟩)
      · have HJ3 := Lib.hid hJ3
        have HK3 := Lib.hid hk3
        clear hJ3 hk3 hR hy
        gi_wp2
        go_roundw
        case rel => exact ⟨k, by omega, rfl, by have := HJ3.out; rw [idxs_take (by omega)] at this; exact this, HK3.out.1.trans HB.out, nums_kept HZ.out HK3.out⟩
        case measure => rw [intOf, intOf]; omega
      · have HJ3 := Lib.hid hJx3
        clear hJx3 hR hy
        gi_wp2
        refine bodyPost_ret (results_none rfl _ _ _) rfl ?_
        have hJ := HJ3.out
        rw [idxs_take (by omega)] at hJ
        exact ⟨⟨_, rfl⟩, .inr ⟨_, List.take_prefix _ _, hJ⟩⟩
theorem back_c (A : Option Addr) (n cap : Nat) (w : World) :
    Calls Tryd.prog 48 #[.slice A n cap] w fun e w' =>
      e = .returned (.func (.func 81) #[] #[.pointer (some ⟨w.heap.size, 0, none⟩)]) ∧ Ext w w' ∧ Blk w' w.heap.size 97 #[.slice A n cap] ∧ w'.heap.size = w.heap.size + 1 := by
  obtain ⟨W1, hW1, E1, B1, hz1⟩ := box_ w #[.slice A n cap] 97
  have Hz := Lib.hid hz1
  clear hz1
  go_enter Tryd.func48, Tryd.ntmps48
  go_wp2_with fail
  go_ret
  exact ⟨rfl, E1, B1, Hz.out⟩
/-- The row sorted, in place. -/
def SortPost (base : Nat) (A : Option Addr) (cap : Nat) (zs : List Int) (w : World) (e : Ending) (w' : World) : Prop :=
  e = .returned (.tuple #[]) ∧ w'.ownsRow base 3 1 (.slice A zs.length cap) zs.length ((zs.mergeSort fun x y => decide (x ≤ y)).map iv) ∧ w.grownBy w' (Value.slice A zs.length cap).ownBlock
theorem sortI_c (base : Nat) (A : Option Addr) (cap : Nat) (zs : List Int) (hz : zs.length ≤ 100000) (w : World) (own : w.ownsRow base 3 1 (.slice A zs.length cap) zs.length (zs.map iv)) :
    Calls Tryd.prog 46 #[.slice A zs.length cap] w (SortPost base A cap zs w) := by
  by_cases h0 : 0 < zs.length
  · obtain ⟨g, cap', hv⟩ := own_form own h0
    cases hv
    rcases own.2 with ⟨h1, -⟩ | ⟨g', cap', cur, hv, hg, hh, hn, hc, hs, ht⟩
    · cases h1
    · cases hv
      have hcur : cur.toList.take zs.length = zs.map (Value.int .i64) := by rw [Nat.mul_one] at ht; exact ht
      refine (Any.slices_Sort_int sortInts g 0 cap zs w (holds_of_blockI hh hcur) ((Array.getElem?_eq_some_iff.1 hh).1) (by omega)).mono ?_
      rintro e w' ⟨rfl, n, os, rfl⟩
      exact ⟨rfl, ownsRow_sortedI (ts := zs.mergeSort fun x y => decide (x ≤ y)) (List.length_mergeSort _) hg hh hn hc hs, grownBy_sortedI _⟩
  · obtain rfl : zs = [] := List.eq_nil_of_length_eq_zero (by omega)
    refine (Any.slices_Sort_int_none sortInts A cap w).mono ?_
    rintro e w' ⟨rfl, rfl⟩
    refine ⟨rfl, ?_, World.grownBy.refl _ _⟩
    rw [show ([] : List Int).mergeSort (fun x y => decide (x ≤ y)) = [] from by simp]
    exact own
end Go.Proofs.YtaaeapjnjjbglaaDoor

namespace Go.Proofs.YtaaeapjnjjbglaaDoor
open Go.RowKit

/-- As wp_region_by; the invariant may know what the slots hold ahead of the region. -/
theorem wp_region_by0 {P : Program} {l : List Oper} {a0 : Act} {Q : Exit → Act → World → Prop} {id : Nat} {w : World} (I : (Nat → Bool) → (Nat → Value) → World → Prop) (hm : P.follows .mixedOrders = true) (hn : decide (dsts l).Nodup = true) (hf : Region.forthB l = true)
    (h0 : I (fun _ => false) (fun k => ((l[k]?).bind (·.dst)).elim undef fun d => a0.tmps.getD d undef) w.drew) (hs : EachOp P l I a0 Q l 0) (he : ∀ L us w, (∀ k, k < l.length → L k = true) → I L us w → Q .normal (putAll us l 0 a0) w) : (Code.region id l.toArray true).wp P Q a0 w := by
  refine wp_region_any hm ?_
  have ea : putAll (fun k => ((l[k]?).bind (·.dst)).elim undef fun d => a0.tmps.getD d undef) l 0 a0 = a0 := putAll_self l 0 a0 _ fun j o hj d hd => by
    simp [hj, hd]
  have eL : (fun k => (Array.replicate l.toArray.size false).getD k false) = fun _ => false := by
    funext k
    rw [Array.getD_eq_getD_getElem?, Array.getElem?_replicate]
    split <;> rfl
  have := any_by (of_decide_eq_true hn) hf hs he l.toArray.size (Array.replicate l.toArray.size false) (fun k => ((l[k]?).bind (·.dst)).elim undef fun d => a0.tmps.getD d undef) w.drew (by simp) (fun h k hk => by simp at h; simp [h] at hk) (fun k hk _ => ⟨l.length - 1, by simp; omega⟩)
    (by unfold fewer; refine Nat.le_trans List.countP_le_length ?_; simp) (fun i k hi => by rw [eL] at hi; cases hi) (by rw [eL]; exact h0)
  rw [ea] at this
  exact this
end Go.Proofs.YtaaeapjnjjbglaaDoor
