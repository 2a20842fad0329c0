/- The reference's search of compositions, walked: the case of looking for the best one. -/
import Derived.Test.YtaaeapjnjjbglaaDoorCm14

namespace Go.Proofs.YtaaeapjnjjbglaaDoor
open Go.RowKit

theorem rSee_none {s : Shape} {l : List Plate} {n : Int} {c : List Laid} {all : List Nat} : rSee s l false (n, none) c all = (wrap64 (n + 1), if hangB s l c = true then some (c, weakN s all) else none) := rfl
theorem rSee_some {s : Shape} {l : List Plate} {n : Int} {b : List Laid × Nat} {c : List Laid} {all : List Nat} : rSee s l false (n, some b) c all = (wrap64 (n + 1), if hangB s l c = true then (if better s c all b = true then some (c, weakN s all) else some b) else some b) := rfl
theorem eq_nil_none (W : World) : (binOp .eql 27 (.slice none 0 0) (.slice none 0 0)).run Tryd.prog W = .ok (.bool true) W := by kernel_rfl
theorem eq_nil_some (a : Addr) (n c : Nat) (W : World) : (binOp .eql 27 (.slice (some a) n c) (.slice none 0 0)).run Tryd.prog W = .ok (.bool false) W := by kernel_rfl
/-- Behind the new row for the best one. -/
theorem end_new {w W8 w9 : World} {S8 S10 g cp wn : Nat} {n1 wk0 : Int} {sl0 : Value} {c : List Laid} {xs : List Value} (own : w9.ownsRow W8.heap.size 64 5 (.slice (some ⟨g, 0, none⟩) (0 + c.length) cp) (0 + c.length) ([] ++ xs)) (hxs : (c.map Laid.cells).flatten = xs)
    (E : Ext w W8) (E9 : Ext W8 w9) (B8 : Blk W8 S8 95 #[.int .i64 n1, .int .i64 wk0, sl0]) (B10 : Blk W8 S10 95 #[.int .i64 0, .int .i64 0, .slice none 0 0]) (h21 : S8 < S10) (hS : w.heap.size ≤ S8) :
    ∃ V10, (w9.setCell ⟨S8, 2, none⟩ (.slice (some ⟨g, 0, none⟩) c.length cp)).setCell ⟨S8, 1, none⟩ (.int .i64 (wn : Int)) = V10 ∧ Blk w9 S8 95 #[.int .i64 n1, .int .i64 wk0, sl0] ∧
      Blk V10 S8 95 #[.int .i64 n1, .int .i64 (wn : Int), .slice (some ⟨g, 0, none⟩) c.length cp] ∧ Blk V10 S10 95 #[.int .i64 0, .int .i64 0, .slice none 0 0] ∧ Ext w V10 ∧ S10 < g ∧ g < V10.heap.size ∧ Laids V10 (some ⟨g, 0, none⟩) cp c := by
  have hlt := own.lt g rfl
  rw [Nat.zero_add, List.nil_append, ← hxs] at own
  have hL : Laids w9 (some ⟨g, 0, none⟩) cp c := own_any (by decide) (fun r hr => by
    obtain ⟨x, _, rfl⟩ := List.mem_map.1 hr
    rfl) (by rw [List.length_map]) own
  have hb8 := B8.lt
  have hb10 := B10.lt
  have hg : ∀ a : Addr, (some ⟨g, 0, none⟩ : Option Addr) = some a → a.block ≠ S8 := fun a ha => by
    cases ha
    show g ≠ S8
    omega
  refine ⟨_, rfl, B8.ext E9, ((B8.ext E9).set_ 2 _).set_ 1 _, ((B10.ext E9).far (p := ⟨S8, 2, none⟩) (by simp only; omega) _).far (p := ⟨S8, 1, none⟩) (by simp only; omega) _, ((E.trans E9).setCell (p := ⟨S8, 2, none⟩) hS _).setCell (p := ⟨S8, 1, none⟩) hS _, by omega, ?_, ?_⟩
  · simpa [World.setCell] using hlt.2
  · exact SliceIs.far (SliceIs.far hL (p := ⟨S8, 2, none⟩) hg _) (p := ⟨S8, 1, none⟩) hg _
set_option maxRecDepth 100000 in
set_option maxHeartbeats 8000000 in
theorem rs_none_end (s : Shape) (A : Option Addr) (cap : Nat) (l : List Plate) (PA : Option Addr) (pcap : Nat) (ok : s.Ok) (okl : platesB l = true) (m : Nat) (c : List Laid) (all : List Nat) (cov : Nat) (CA : Option Addr) (cc : Nat) (n : Int) (w : World) (hP : Part s l c all cov) (hs : Bytes w A cap s.cells) (hl : Plates w PA pcap l) (hc : Laids w CA cc c) (hfull : fullN s.cells ≤ lowZ cov) :
    Calls Tryd.prog 42 #[.agg #[.int .i64 s.W, .int .i64 s.D, .int .i64 s.H, .slice A s.cells.length cap], .slice PA l.length pcap, .slice CA c.length cc, .agg #[.int .i64 n, .int .i64 0, .slice none 0 0], .bool false] w (RPost none (rGrow s l false (m + 1) (n, none) c all cov) w) := by
  obtain ⟨W1, hW1, E1, B1, hz1⟩ := box_ w #[.int .i64 s.W, .int .i64 s.D, .int .i64 s.H, .slice A s.cells.length cap] 24
  obtain ⟨W2, hW2, E2, B2, hz2⟩ := box_ W1 #[.int .i64 n, .int .i64 0, .slice none 0 0] 95
  obtain ⟨W3, hW3, E3, B3, hz3⟩ := box_ W2 #[.int .i64 0, .int .i64 0, .slice none 0 0] 95
  have b1 := ((B1.ext E2).ext E3).cell
  have b2 := (B2.ext E3).cell
  have b3 := B3.cell
  have E := (E1.trans E2).trans E3
  have HB1 := Lib.hid ((B1.ext E2).ext E3)
  have HB2 := Lib.hid (B2.ext E3)
  have HB3 := Lib.hid B3
  have HE := Lib.hid E
  have HE1 := Lib.hid E1
  have HB2' := Lib.hid B2.lt
  have HB1' := Lib.hid B1.lt
  obtain ⟨hl1, hl2⟩ := part_len ok hP
  obtain ⟨f1, f2, f3⟩ := firstN_free ok hP.is
  have hfn : firstN s cov = s.cells.length := by unfold firstN; rw [if_pos hfull]
  have P1 := firstNone_c s A cap l PA pcap c CA cc ok okl (part_ok ok hP) (by omega) (firstN s cov) hfn f1 f2 W3 (hs.ext E) (hl.ext E) (hc.ext E)
  have hr := rGrow_end (l := l) (cnt := false) (f := m) (st := (n, none)) (all := all) (c := c) rfl hfull
  rw [rSee_none] at hr
  have hall := full_of_low ok hP.is hfull
  have hpos := comp_pos ok (hP.is.comp ok hall)
  have hw := weak_eq ok hP.is hall
  have hwl := weakN_le s ok all
  obtain ⟨hg, hhg⟩ : ∃ hg, hangB s l c = hg := ⟨_, rfl⟩
  obtain ⟨wn, hwn⟩ : ∃ wn, weakN s all = wn := ⟨_, rfl⟩
  have HC1 := Lib.hid (fun (W : World) (EW : Ext w W) => together_c s A cap l PA pcap c CA cc ok okl (part_ok ok hP) hpos (by omega) W (hl.ext EW) (hc.ext EW))
  have HC2 := Lib.hid (fun (W : World) (EW : Ext w W) => weakness_c s A cap l PA pcap c CA cc ok okl (part_ok ok hP) (by omega) W (hs.ext EW) (hl.ext EW) (hc.ext EW))
  rw [hhg] at HC1
  rw [← hw, hwn] at HC2
  rw [hhg, hwn] at hr
  rw [hwn] at hwl
  have Hr := Lib.hid hr
  have Hwl := Lib.hid hwl
  have Hpos := Lib.hid hpos
  have Hc := Lib.hid hc
  have Hlen := Lib.hid (show c.length ≤ 16 from hl2)
  have Hwn := Lib.hid hwn
  skip
  clear hz1 hz2 hz3 B1 B2 B3 E1 E2 E3 E f1 f2 f3 hfn hfull hP hs hl hc hl1 hl2 hr hall hpos hw hwl hhg hwn
  go_enter Tryd.func42, Tryd.ntmps42
  go_wp2_with fail
  refine P1.mono ?_
  rintro e W4 ⟨rfl, E4⟩
  have HE4 := Lib.hid (HE.out.trans E4)
  have HB14 := Lib.hid (HB1.out.ext E4)
  have HB24 := Lib.hid (HB2.out.ext E4)
  have HB34 := Lib.hid (HB3.out.ext E4)
  have h21 := HB2'.out
  clear b1 b2 b3 hW1 hW2 hW3 P1 E4
  obtain ⟨S5, hS5⟩ : ∃ S, w.heap.size = S := ⟨_, rfl⟩
  obtain ⟨S8, hS8⟩ : ∃ S, W1.heap.size = S := ⟨_, rfl⟩
  obtain ⟨S10, hS10⟩ : ∃ S, W2.heap.size = S := ⟨_, rfl⟩
  rw [hS5] at HB14 ⊢
  rw [hS8] at HB24 h21 ⊢
  rw [hS10] at HB34 h21 ⊢
  have hwS : S5 < S8 := by have := HB1'.out; omega
  have hw8 : w.heap.size ≤ S8 := by omega
  have HS5 := Lib.hid hS5
  obtain ⟨W5, hW5, E5, B5, hz5⟩ := box_ W4 #[.int .i64 0, .int .i64 0, .int .i64 0] 56
  obtain ⟨T, hT⟩ : ∃ T, W4.heap.size = T := ⟨_, rfl⟩
  rw [hT] at B5
  have b5 := B5.cell
  have f5 := B5.frozen
  have l5 := B5.lt
  have HT := Lib.hid hT
  obtain ⟨V5, hV5⟩ : ∃ V, ((W5.setCell ⟨T, 0, none⟩ (.int .i64 0)).setCell ⟨T, 1, none⟩ (.int .i64 0)).setCell ⟨T, 2, none⟩ (.int .i64 0) = V := ⟨_, rfl⟩
  have EV : Ext W4 V5 := by
    rw [← hV5]
    exact ((E5.setCell (p := ⟨T, 0, none⟩) (Nat.le_of_eq hT) _).setCell (p := ⟨T, 1, none⟩) (Nat.le_of_eq hT) _).setCell (p := ⟨T, 2, none⟩) (Nat.le_of_eq hT) _
  have B1V := HB14.out.ext EV
  have B2V := HB24.out.ext EV
  have B3V := HB34.out.ext EV
  have b2 := B2V.cell
  have f2 := B2V.frozen
  have l2 := B2V.lt
  obtain ⟨V6, hV6⟩ : ∃ V, V5.setCell ⟨S8, 0, none⟩ (.int .i64 (wrap64 (n + 1))) = V := ⟨_, rfl⟩
  have B16 := B1V.far (p := ⟨S8, 0, none⟩) (by simp only; omega) (.int .i64 (wrap64 (n + 1)))
  have B26 := B2V.set_ 0 (.int .i64 (wrap64 (n + 1)))
  have B36 := B3V.far (p := ⟨S8, 0, none⟩) (by simp only; omega) (.int .i64 (wrap64 (n + 1)))
  have E6 := (HE4.out.trans EV).setCell (p := ⟨S8, 0, none⟩) hw8 (.int .i64 (wrap64 (n + 1)))
  rw [hV6] at B16 B26 B36 E6
  have b16 := B16.cell
  have b26 := B26.cell
  have HB16 := Lib.hid B16
  have HB26 := Lib.hid B26
  have HB36 := Lib.hid B36
  have HE6 := Lib.hid E6
  have Hw := Lib.hid hw8
  have H21 := Lib.hid h21
  clear B16 B26 B36 E6 B1V B2V B3V EV E5 B5 hz5 hwS hw8 h21 hS5 hS8 hS10
  go_wp2_with fail
  refine (HC1.out _ HE6.out).mono ?_
  rintro e W7 ⟨rfl, E7⟩
  have HE7 := Lib.hid (HE6.out.trans E7)
  have B27 := HB26.out.ext E7
  have B37 := HB36.out.ext E7
  have HB17 := Lib.hid (HB16.out.ext E7)
  have HB27 := Lib.hid B27
  have HB37 := Lib.hid B37
  have h21 := H21.out
  clear E7 hT b5 f5 l5 hW5 hV5 b2 f2 l2 hV6 b16 b26
  cases hg with
  | false =>
    have b27 := B27.cell
    have b37 := B37.cell
    have f37 := B37.frozen
    have l37 := B37.lt
    have BX := ((B37.set_ 0 (.int .i64 (wrap64 (n + 1)))).set_ 1 (.int .i64 0)).set_ 2 (.slice none 0 0)
    have bx0 := Lib.hid (BX.cell 0)
    have bx1 := Lib.hid (BX.cell 1)
    have bx2 := Lib.hid (BX.cell 2)
    clear BX
    clear B27 B37 h21
    go_wp2_with fail
    refine bodyPost_ret (by simp [results, Tryd.results42, go_sem, bx0.out, bx1.out, bx2.out]; try rfl) rfl ?_
    have q10 : w.heap.size ≤ S10 := by have := Hw.out; have := H21.out; omega
    rw [Hr.out]
    exact ⟨_, _, _, _, rfl, ((((fun {W} (_ : Ext w W) => (show FoundAt W none 0 none 0 0 from ⟨rfl, rfl, rfl, rfl⟩)) HE7.out).far (p := ⟨S10, 0, none⟩) nofun _).far (p := ⟨S10, 1, none⟩) nofun _).far (p := ⟨S10, 2, none⟩) nofun _, nofun, ((HE7.out.setCell q10 _).setCell q10 _).setCell q10 _⟩
  | true =>
    have b17 := HB17.out.cell
    clear B27 B37
    go_wp2_with fail
    refine (HC2.out _ HE7.out).mono ?_
    rintro e W8 ⟨rfl, E8⟩
    have HE8 := Lib.hid (HE7.out.trans E8)
    have HB28 := Lib.hid (HB27.out.ext E8)
    have HB38 := Lib.hid (HB37.out.ext E8)
    have b28 := HB28.out.cell
    clear E8 b17
    have heq := eq_nil_none
    obtain ⟨iL, hiL, zL0, zL1, zL2⟩ := info_parts infoLaid21
    obtain ⟨xs, hxs⟩ : ∃ xs, (c.map Laid.cells).flatten = xs := ⟨_, rfl⟩
    have hcp := Hpos.out
    have hcl := Hlen.out
    have Hone := Lib.hid (show ∀ u ∈ xs, u.oneCell' = true by rw [← hxs]; exact lds21 c)
    have Hfl := Lib.hid (show xs.length = c.length * 5 by
      rw [← hxs]
      have := flat_len (rows := c.map Laid.cells) (sz := 5) (by
        intro r hr
        obtain ⟨x, _, rfl⟩ := List.mem_map.1 hr
        rfl)
      rw [this, List.length_map])
    obtain ⟨cb, coff, hca, hcells⟩ := SliceIs.flat (Hc.out.ext HE8.out) (by simpa using hcp) (by decide)
    rw [hxs] at hcells
    have HC3 := Lib.hid hcells
    have Hxs := Lib.hid hxs
    have m1 : 0 + c.length ≤ maxLen := by unfold maxLen; omega
    have m2 : (0 + c.length) * 40 ≤ 140737488355328 := by omega
    subst hca
    clear hxs hcells
    go_wp2_with (at_builtin; refine wpList_append_own _ rfl (.tmp 84) (.tmp 85) 27 rfl W8.heap.size 64 iL _ 5 40 Tryd.underlying27 hiL zL0 zL1 zL2 rfl (by decide) _ 0 [] rfl (World.ownsRow_made W8 #[] 0 (Nat.le_refl _) (by unfold maxLen; omega) rfl) ⟨cb, coff, none⟩ c.length cc xs rfl Hfl.out (fun j u hu => (ext_alloc _ _).cell (HC3.out j u hu)) Hone.out m1 m2 (by simp) ?_; intro v' w9 own9 hg9 h9; obtain ⟨g9, cp9, rfl⟩ := own_form own9 (by omega); obtain ⟨V10, hV10, B89, B8V, B10V, EV10, hg1, hg2, hLV⟩ := end_new (wn := wn) own9 Hxs.out HE8.out (((Ext.refl W8).alloc _).grown hg9 (fun r e => by cases e; exact Nat.le_refl _)) HB28.out HB38.out H21.out Hw.out; have c8 := B89.cell; have d8 := B89.frozen; have e8 := B89.lt; have c8V := B8V.cell; have c10V := B10V.cell; have d10V := B10V.frozen; have e10V := B10V.lt)
    have BX := ((B10V.set_ 0 (.int .i64 (wrap64 (n + 1)))).set_ 1 (.int .i64 (wn : Int))).set_ 2 (.slice (some ⟨g9, 0, none⟩) c.length cp9)
    have bx0 := Lib.hid (BX.cell 0)
    have bx1 := Lib.hid (BX.cell 1)
    have bx2 := Lib.hid (BX.cell 2)
    clear BX
    refine bodyPost_ret (by simp [results, Tryd.results42, go_sem, bx0.out, bx1.out, bx2.out]; try rfl) rfl ?_
    have q10 : w.heap.size ≤ S10 := by have := Hw.out; have := H21.out; omega
    rw [Hr.out, if_pos trivial]
    skip
    have hgf : ∀ a : Addr, (some ⟨g9, 0, none⟩ : Option Addr) = some a → a.block ≠ S10 := fun a ha => by
      cases ha
      show g9 ≠ S10
      omega
    refine ⟨_, _, _, _, rfl, (((show FoundAt V10 (some (c, wn)) (wn : Int) (some ⟨g9, 0, none⟩) c.length cp9 from ⟨⟨_, rfl, hg2⟩, rfl, rfl, hLV, by simp only; omega, Hwl.out⟩).far (p := ⟨S10, 0, none⟩) hgf _).far (p := ⟨S10, 1, none⟩) hgf _).far (p := ⟨S10, 2, none⟩) hgf _, fun a ha => Or.inr ?_, ((EV10.setCell (p := ⟨S10, 0, none⟩) q10 _).setCell (p := ⟨S10, 1, none⟩) q10 _).setCell (p := ⟨S10, 2, none⟩) q10 _⟩
    cases ha
    show w.heap.size ≤ g9
    omega
set_option maxRecDepth 100000 in
set_option maxHeartbeats 8000000 in
theorem rs_none (s : Shape) (A : Option Addr) (cap : Nat) (l : List Plate) (PA : Option Addr) (pcap : Nat) (ok : s.Ok) (okl : platesB l = true) (m : Nat) (ih : RS s A cap l PA pcap false m) (c : List Laid) (all : List Nat) (cov : Nat) (CA : Option Addr) (cc : Nat) (n : Int) (w : World) (hP : Part s l c all cov) (hm : fullN s.cells + 1 ≤ m + 1 + lowZ cov) (hs : Bytes w A cap s.cells) (hl : Plates w PA pcap l) (hc : Laids w CA cc c) (hnil : CA = none → cc = 0) :
    Calls Tryd.prog 42 #[.agg #[.int .i64 s.W, .int .i64 s.D, .int .i64 s.H, .slice A s.cells.length cap], .slice PA l.length pcap, .slice CA c.length cc, .agg #[.int .i64 n, .int .i64 0, .slice none 0 0], .bool false] w (RPost none (rGrow s l false (m + 1) (n, none) c all cov) w) := by
  by_cases hfull : fullN s.cells ≤ lowZ cov
  · exact rs_none_end s A cap l PA pcap ok okl m c all cov CA cc n w hP hs hl hc hfull
  have hb := hm
  obtain ⟨W1, hW1, E1, B1, hz1⟩ := box_ w #[.int .i64 s.W, .int .i64 s.D, .int .i64 s.H, .slice A s.cells.length cap] 24
  obtain ⟨W2, hW2, E2, B2, hz2⟩ := box_ W1 #[.int .i64 n, .int .i64 0, .slice none 0 0] 95
  obtain ⟨W3, hW3, E3, B3, hz3⟩ := box_ W2 #[.int .i64 0, .int .i64 0, .slice none 0 0] 95
  have b1 := ((B1.ext E2).ext E3).cell
  have b2 := (B2.ext E3).cell
  have b3 := B3.cell
  have E := (E1.trans E2).trans E3
  have HB1 := Lib.hid ((B1.ext E2).ext E3)
  have HB2 := Lib.hid (B2.ext E3)
  have HB3 := Lib.hid B3
  have HE := Lib.hid E
  have HE1 := Lib.hid E1
  have HB2' := Lib.hid B2.lt
  have HB1' := Lib.hid B1.lt
  obtain ⟨hl1, hl2⟩ := part_len ok hP
  obtain ⟨f1, f2, f3⟩ := firstN_free ok hP.is
  · have hlt : lowZ cov < fullN s.cells := by omega
    have hfn : firstN s cov = placeN s (lowZ cov) := by unfold firstN; rw [if_neg hfull]
    obtain ⟨p1, -, -, -⟩ := place_num ok hlt
    have P1 := firstAt_c s A cap l PA pcap c CA cc ok okl (part_ok ok hP) (by omega) (firstN s cov) (by rw [hfn]; exact p1) f1 f2 W3 (hs.ext E) (hl.ext E) (hc.ext E)
    have Hr := Lib.hid (rGrow_go (l := l) (cnt := false) (f := m) (st := (n, none)) (all := all) (c := c) rfl hlt)
    rw [hfn] at P1
    obtain ⟨cx, hcx⟩ : ∃ x, ((placeN s (lowZ cov) : Nat) : Int) % s.W = x := ⟨_, rfl⟩
    obtain ⟨cy, hcy⟩ : ∃ x, ((placeN s (lowZ cov) : Nat) : Int) / s.W % s.D = x := ⟨_, rfl⟩
    obtain ⟨cz, hcz⟩ : ∃ x, ((placeN s (lowZ cov) : Nat) : Int) / s.W / s.D = x := ⟨_, rfl⟩
    rw [hcx, hcy, hcz] at P1
    have HX := Lib.hid (fun (i : Nat) (t : Bool) => show laidN s (lowZ cov) i t = ⟨i, cx, cy, cz, t⟩ by
      unfold laidN Shape.px Shape.py Shape.pz
      rw [hcx, hcy, hcz])
    have HP := Lib.hid hP
    have Hlt := Lib.hid hlt
    have Hm := Lib.hid hm
    have Hs := Lib.hid hs
    have Hl := Lib.hid hl
    have Hc := Lib.hid hc
    have Hnil := Lib.hid hnil
    have Hih := Lib.hid ih
    have hln := hl.len
    unfold maxLen at hln
    have Hlen := Lib.hid (show c.length ≤ 16 from hl2)
    clear hz1 hz2 hz3 B1 B2 B3 E1 E2 E3 E f1 f2 hfn hfull hP hm hb hs hl hc hl1 hl2 ih p1 hcx hcy hcz hlt hnil
    go_enter Tryd.func42, Tryd.ntmps42
    go_wp2_with fail
    refine P1.mono ?_
    rintro e W4 ⟨rfl, E4⟩
    have HE4 := Lib.hid (HE.out.trans E4)
    have HB14 := Lib.hid (HB1.out.ext E4)
    have HB24 := Lib.hid (HB2.out.ext E4)
    have HB34 := Lib.hid (HB3.out.ext E4)
    have h21 := HB2'.out
    clear b1 b2 b3 hW1 hW2 hW3 P1 E4
    obtain ⟨S5, hS5⟩ : ∃ S, w.heap.size = S := ⟨_, rfl⟩
    obtain ⟨S8, hS8⟩ : ∃ S, W1.heap.size = S := ⟨_, rfl⟩
    obtain ⟨S10, hS10⟩ : ∃ S, W2.heap.size = S := ⟨_, rfl⟩
    rw [hS5] at HB14 ⊢
    rw [hS8] at HB24 h21 ⊢
    rw [hS10] at HB34 h21 ⊢
    have hwS : S5 < S8 := by have := HB1'.out; omega
    obtain ⟨W5, hW5, E5, B5, hz5⟩ := box_ W4 #[.int .i64 0, .int .i64 0, .int .i64 0] 56
    obtain ⟨T, hT⟩ : ∃ T, W4.heap.size = T := ⟨_, rfl⟩
    rw [hT] at B5
    have b5 := B5.cell
    have f5 := B5.frozen
    have l5 := B5.lt
    have h3T : S10 < T := by have := HB34.out.lt; omega
    obtain ⟨V5, hV5⟩ : ∃ V, ((W5.setCell ⟨T, 0, none⟩ (.int .i64 cx)).setCell ⟨T, 1, none⟩ (.int .i64 cy)).setCell ⟨T, 2, none⟩ (.int .i64 cz) = V := ⟨_, rfl⟩
    have EV : Ext W4 V5 := by
      rw [← hV5]
      exact ((E5.setCell (p := ⟨T, 0, none⟩) (Nat.le_of_eq hT) _).setCell (p := ⟨T, 1, none⟩) (Nat.le_of_eq hT) _).setCell (p := ⟨T, 2, none⟩) (Nat.le_of_eq hT) _
    have B5V := ((B5.set_ 0 (.int .i64 cx)).set_ 1 (.int .i64 cy)).set_ 2 (.int .i64 cz)
    rw [hV5] at B5V
    have R0 : LoopAt s l false m c all cov (n, none) none w S5 S8 S10 T #[.int .i64 s.W, .int .i64 s.D, .int .i64 s.H, .slice A s.cells.length cap] #[.int .i64 cx, .int .i64 cy, .int .i64 cz] 0 V5 :=
      ⟨0, none, 0, 0, HE4.out.trans EV, HB14.out.ext EV, HB24.out.ext EV, HB34.out.ext EV, B5V, ⟨rfl, rfl, rfl, rfl⟩, nofun⟩
    have HR0 := Lib.hid R0
    have HS := Lib.hid (show S5 < S8 ∧ S8 < S10 ∧ S10 < T from ⟨hwS, h21, h3T⟩)
    have HS5 := Lib.hid hS5
    clear B5V EV E5 B5 hz5 hwS h21 hS8 hS10 hS5 h3T R0
    go_upto_region 14 with (fail)
    clear hT b5 f5 l5 hW5 hV5
    go_loopw [14] (fun p wr => ∃ i : Nat, i ≤ l.length ∧ p = .int .i64 i ∧ LoopAt s l false m c all cov (n, none) none w S5 S8 S10 T #[.int .i64 s.W, .int .i64 s.D, .int .i64 s.H, .slice A s.cells.length cap] #[.int .i64 cx, .int .i64 cy, .int .i64 cz] (2 * i) wr) (fun p _ => l.length - (intOf p).toNat)
    case atStart => exact ⟨0, by omega, rfl, HR0.out⟩
    case round =>
      obtain ⟨i, hi, rfl, HL⟩ := hrel
      replace HL := Lib.hid HL
      clear HR0
      by_cases hil : i < l.length
      · have i1 : (i : Int) < l.length := by omega
        go_upto_region 17 with (fail)
        go_loopw [15] (fun q wr => ∃ t : Nat, t ≤ 2 ∧ q = .int .i64 t ∧ LoopAt s l false m c all cov (n, none) none w S5 S8 S10 T #[.int .i64 s.W, .int .i64 s.D, .int .i64 s.H, .slice A s.cells.length cap] #[.int .i64 cx, .int .i64 cy, .int .i64 cz] (2 * i + t) wr) (fun q _ => 2 - (intOf q).toNat)
        case atStart => exact ⟨0, by omega, rfl, HL.out⟩
        case round =>
          clear HL
          obtain ⟨t, ht, rfl, HL⟩ := hrel
          replace HL := Lib.hid HL
          by_cases htl : t < 2
          · obtain ⟨tb, rfl⟩ : ∃ tb : Bool, t = tb.toNat := by
              rcases Nat.lt_or_ge t 1 with h | h
              · exact ⟨false, by show t = 0; omega⟩
              · exact ⟨true, by show t = 1; omega⟩
            have htb : (((tb.toNat : Nat) : Int) == 1) = tb := by cases tb <;> rfl
            have hlt2 : ((tb.toNat : Nat) : Int) < 2 := by cases tb <;> decide
            have hst := growTo_succ (rLong false) (rSee s l false) s l (f := m) (c := c) (all := all) (cov := cov) (st := (n, none)) hil tb
            obtain ⟨ko, hk⟩ : ∃ ko, kidOk s l c cov i tb = ko := ⟨_, rfl⟩
            have hfit : fitsB s l c ⟨i, cx, cy, cz, tb⟩ = ko.isSome := by
              rw [← HX.out, fits_kid ok okl HP.out Hlt.out hil tb, hk]
            obtain ⟨wk, A', bn, bc, E6, X5, X8, X10, X11, F6, G6⟩ := HL.out
            obtain ⟨W7, hW7, E7, B7, hz7⟩ := box_ wr #[.int .i64 (i : Int), .int .i64 cx, .int .i64 cy, .int .i64 cz, .bool tb] 64
            have PF := fits_c s A cap l PA pcap c CA cc ⟨i, cx, cy, cz, tb⟩ ok okl (part_ok ok HP.out) (by have := Hlen.out; omega) W7 (Hs.out.ext (E6.trans E7)) (Hl.out.ext (E6.trans E7)) (Hc.out.ext (E6.trans E7))
            rw [hfit] at PF
            have c5 := (X5.ext E7).cell
            have c11 := X11.cell
            have c7 := B7.cell
            have Hst := Lib.hid hst
            have Hk := Lib.hid hk
            have HE7 := Lib.hid E7
            have HB7 := Lib.hid B7
            clear hst hk hfit E6 X5 X8 X10 X11 F6 G6 E7 B7 hz7
            cases ko with
            | none =>
              go_wp2_with fail
              refine PF.mono ?_
              rintro e W8 ⟨rfl, E8⟩
              replace E8 := Lib.hid E8
              go_wp2_with fail
              go_roundw
              case rel => exact ⟨tb.toNat + 1, by cases tb <;> decide, by cases tb <;> go_num, HL.out.stay (HE7.out.trans E8.out) (by
                rw [← Nat.add_assoc, Hst.out]
                unfold kidS
                simp only [Hk.out])⟩
              case measure => simp only [intOf]; cases tb <;> simp <;> omega
            | some m' =>
              go_wp2_with fail
              refine PF.mono ?_
              rintro e W8 ⟨rfl, E8⟩
              replace E8 := Lib.hid E8
              clear c5 c11 hW7 PF
              go_upto_region 21 with (fail)
              obtain ⟨wk2, A2, bn2, bc2, E6, X5, X8, X10, X11, F6, G6⟩ := HL.out
              have EE := HE7.out.trans E8.out
              obtain ⟨g, hg⟩ : ∃ g, growTo (rLong false) (rSee s l false) s l m c all cov (n, none) (2 * i + tb.toNat) = g := ⟨_, rfl⟩
              rw [hg] at X8 F6
              obtain ⟨U, hU⟩ : ∃ U, W8.heap.size = U := ⟨_, rfl⟩
              have HKK := Lib.hid (show Keep21 W8 S5 S10 T wr.heap.size U _ _ _ g.2 wk2 A2 bn2 bc2 from ⟨X5.ext EE, X10.ext EE, X11.ext EE, HB7.out.ext E8.out, F6.ext EE, Nat.le_of_eq hU.symm⟩)
              have HBF := Lib.hid (X8.ext EE)
              have HEW8 := Lib.hid (E6.trans EE)
              have HU := Lib.hid hU
              have HUw := Lib.hid (show w.heap.size ≤ U by rw [← hU]; exact (E6.trans EE).size)
              have Hg := Lib.hid hg
              have HG6 := Lib.hid (show ∀ a, A2 = some a → (A2 = some a ∧ a.block < S5) ∨ T < a.block from fun a ha => by rcases G6 a ha with ⟨-, h⟩ | h; exact Or.inl ⟨ha, h⟩; exact Or.inr h)
              have HG6' := Lib.hid G6
              have HSU := Lib.hid (show T < U by have := X11.lt; have := EE.size; omega)
              obtain ⟨i9, hi9, hz9, hz91, hz92⟩ := info_parts infoLaid21
              have hk3 := (kidOk_some okl HP.out hil).1 Hk.out
              obtain ⟨hP2, hlt3⟩ := HP.out.add ok okl Hlt.out (i := i) (t := tb) hk3.1 hk3.2.1 hk3.2.2
              rw [HX.out] at hP2
              have HC := Lib.hid (fun (wx : World) (g7 c7 : Nat) (Ex : Ext w wx) (E8x : Ext W8 wx) (own : wx.ownsRow U 64 5 (.slice (some ⟨g7, 0, none⟩) (c.length + 1) c7) (c.length + 1) ((c.map Laid.cells).flatten ++ #[.int .i64 (i : Int), .int .i64 cx, .int .i64 cy, .int .i64 cz, .bool tb].toList)) =>
                show Calls Tryd.prog 42 #[.agg #[.int .i64 s.W, .int .i64 s.D, .int .i64 s.H, .slice A s.cells.length cap], .slice PA l.length pcap, .slice (some ⟨g7, 0, none⟩) (c.length + 1) c7, .agg #[.int .i64 g.1, .int .i64 wk2, .slice A2 bn2 bc2], .bool false] wx (RPost A2 (rGrow s l false m g (c ++ [⟨i, cx, cy, cz, tb⟩]) (all ++ [m']) (cov ||| m')) wx) by
                  have hrow : ((c ++ [(⟨i, cx, cy, cz, tb⟩ : Laid)]).map Laid.cells).flatten = (c.map Laid.cells).flatten ++ #[.int .i64 (i : Int), .int .i64 cx, .int .i64 cy, .int .i64 cz, .bool tb].toList := by simp [Laid.cells]
                  have hn : (c ++ [(⟨i, cx, cy, cz, tb⟩ : Laid)]).length = c.length + 1 := by simp
                  rw [← hrow] at own
                  have hL : Laids wx (some ⟨g7, 0, none⟩) c7 (c ++ [⟨i, cx, cy, cz, tb⟩]) := by
                    unfold Laids
                    rw [hn]
                    exact own_any (by decide) (fun r hr => by obtain ⟨x, _, rfl⟩ := List.mem_map.1 hr; rfl) (by rw [List.length_map, hn]) own
                  have CC := Hih.out (c ++ [⟨i, cx, cy, cz, tb⟩]) (all ++ [m']) (cov ||| m') (some ⟨g7, 0, none⟩) c7 g.1 g.2 wk2 A2 bn2 bc2 wx hP2 (by have := Hm.out; omega) (nofun) (Hs.out.ext Ex) (Hl.out.ext Ex) hL (nofun) (HKK.out.fa.ext E8x)
                  rw [hn] at CC
                  exact CC)
              clear E6 X5 X8 X10 X11 F6 G6 EE hg hU c7 hk3 hP2 hlt3
              refine wp_region_by (Rk w W8 U (.slice PA l.length pcap) (.slice CA c.length cc) false c.length (c.map Laid.cells) #[.int .i64 s.W, .int .i64 s.D, .int .i64 s.H, .slice A s.cells.length cap] #[.int .i64 g.1, .int .i64 wk2, .slice A2 bn2 bc2] #[.int .i64 (i : Int), .int .i64 cx, .int .i64 cy, .int .i64 cz, .bool tb] (rGrow s l false m g (c ++ [⟨i, cx, cy, cz, tb⟩]) (all ++ [m']) (cov ||| m')) A2
                (DoneAt w S5 S8 S10 T U #[.int .i64 s.W, .int .i64 s.D, .int .i64 s.H, .slice A s.cells.length cap] #[.int .i64 cx, .int .i64 cy, .int .i64 cz] (rGrow s l false m g (c ++ [⟨i, cx, cy, cz, tb⟩]) (all ++ [m']) (cov ||| m')) A2)) (by kernel_rfl) (by kernel_rfl) (by kernel_rfl) (fun us => ⟨HEW8.out.drew, (nofun), (nofun), (nofun), (nofun), (nofun), (fun _ => (Ext.refl _).drew), (nofun), (nofun), (nofun), (nofun), (nofun), (nofun), (nofun), (nofun), (nofun), (nofun)⟩) ⟨?_, ?_, ?_, ?_, ?_, ?_, ?_, ?_, ?_, ?_, ?_, ?_, trivial⟩ ?_
              · intro L us wx K a ha hp hd hun hI hK
                have HX := hI.x
                have h11 : L 11 = false := Bool.eq_false_iff.2 fun hl => absurd (hd 11 0 hl (by kernel_rfl)) (by rw [hun]; decide)
                have bb := (HKK.out.x5.ext (hI.g7 h11)).cell
                clear hp HX
                replace hd := Lib.hid hd
                simp only [putAll, Act.put, List.setIfInBounds_toArray, List.set_cons_succ, List.set_cons_zero, Nat.reduceAdd] at ha
                subst ha
                simp only [Act.put, List.setIfInBounds_toArray, List.set_cons_succ, List.set_cons_zero] at hK
                go_simp
                refine hK _ _ ?_
                first
                | (refine ⟨hI.x, hI.g1, hI.g2, hI.g3, hI.g4, hI.g6, hI.g7, hI.g8, ?_, hI.f1, hI.f3, hI.f5, hI.f6, hI.f7, hI.f8, hI.f9, hI.f10⟩ <;> (first | exact fun _ => rfl | skip))
                | (refine ⟨?_, ?_, ?_, ?_, ?_, ?_, ?_, ?_, ?_, ?_, ?_, ?_, ?_, ?_, ?_, ?_, ?_⟩ <;> (first | exact hI.x | exact hI.g1 | exact hI.g2 | exact hI.g3 | exact hI.g4 | exact hI.g6 | exact hI.g7 | exact hI.g8 | exact hI.f0 | exact hI.f1 | exact hI.f3 | exact hI.f5 | exact hI.f6 | exact hI.f7 | exact hI.f8 | exact hI.f9 | exact hI.f10 | exact fun _ => rfl | skip))
              · intro L us wx K a ha hp hd hun hI hK
                have HX := hI.x
                clear hp HX
                replace hd := Lib.hid hd
                simp only [putAll, Act.put, List.setIfInBounds_toArray, List.set_cons_succ, List.set_cons_zero, Nat.reduceAdd] at ha
                subst ha
                simp only [Act.put, List.setIfInBounds_toArray, List.set_cons_succ, List.set_cons_zero] at hK
                go_simp
                refine hK _ _ ?_
                first
                | (refine ⟨hI.x, hI.g1, hI.g2, hI.g3, hI.g4, hI.g6, hI.g7, hI.g8, hI.f0, ?_, hI.f3, hI.f5, hI.f6, hI.f7, hI.f8, hI.f9, hI.f10⟩ <;> (first | exact fun _ => rfl | skip))
                | (refine ⟨?_, ?_, ?_, ?_, ?_, ?_, ?_, ?_, ?_, ?_, ?_, ?_, ?_, ?_, ?_, ?_, ?_⟩ <;> (first | exact hI.x | exact hI.g1 | exact hI.g2 | exact hI.g3 | exact hI.g4 | exact hI.g6 | exact hI.g7 | exact hI.g8 | exact hI.f0 | exact hI.f1 | exact hI.f3 | exact hI.f5 | exact hI.f6 | exact hI.f7 | exact hI.f8 | exact hI.f9 | exact hI.f10 | exact fun _ => rfl | skip))
              · intro L us wx K a ha hp hd hun hI hK
                have h4 : L 4 = false := Bool.eq_false_iff.2 fun hl => absurd (hd 4 2 hl (by kernel_rfl)) (by rw [hun]; decide)
                have h7 : L 7 = false := Bool.eq_false_iff.2 fun hl => absurd (hd 7 4 hl (by kernel_rfl)) (by rw [h4]; decide)
                have h10 : L 10 = false := Bool.eq_false_iff.2 fun hl => absurd (hd 10 7 hl (by kernel_rfl)) (by rw [h7]; decide)
                have h11 : L 11 = false := Bool.eq_false_iff.2 fun hl => absurd (hd 11 10 hl (by kernel_rfl)) (by rw [h10]; decide)
                have hX8 := hI.g7 h11
                have hUx : U ≤ wx.heap.size := by have := hX8.size; have := HU.out; omega
                have er := empty_laid wx
                have EW : Ext wx (wx.alloc (.cells #[] 64)) := (Ext.refl wx).alloc _
                replace hd := Lib.hid hd
                simp only [putAll, Act.put, List.setIfInBounds_toArray, List.set_cons_succ, List.set_cons_zero, Nat.reduceAdd] at ha
                subst ha
                simp only [Act.put, List.setIfInBounds_toArray, List.set_cons_succ, List.set_cons_zero] at hK
                go_simp
                exact hK _ _ ⟨hI.x.trans EW, (fun _ _ => own_empty21 wx hUx _ _), (fun h => absurd (show L 4 = true from h) (by rw [h4]; decide)), (fun h h2 => (hI.g3 h h2).ext EW), (fun _ h6 _ e => by have h9 := (hI.g3 h6 h7).lt; have e2 : some wx.heap.size = some (bk (us 6)) := e; have e3 := Option.some.inj e2; omega), (fun h => absurd (show L 7 = true from h) (by rw [h7]; decide)), (fun h => (hI.g7 h).trans EW), (fun h => absurd (show L 11 = true from h) (by rw [h11]; decide)), hI.f0, hI.f1, hI.f3, hI.f5, hI.f6, hI.f7, hI.f8, hI.f9, (fun h => absurd (show L 10 = true from h) (by rw [h10]; decide))⟩
              · intro L us wx K a ha hp hd hun hI hK
                have HX := hI.x
                clear hp HX
                replace hd := Lib.hid hd
                simp only [putAll, Act.put, List.setIfInBounds_toArray, List.set_cons_succ, List.set_cons_zero, Nat.reduceAdd] at ha
                subst ha
                simp only [Act.put, List.setIfInBounds_toArray, List.set_cons_succ, List.set_cons_zero] at hK
                go_simp
                refine hK _ _ ?_
                first
                | (refine ⟨hI.x, hI.g1, hI.g2, hI.g3, hI.g4, hI.g6, hI.g7, hI.g8, hI.f0, hI.f1, ?_, hI.f5, hI.f6, hI.f7, hI.f8, hI.f9, hI.f10⟩ <;> (first | exact fun _ => rfl | skip))
                | (refine ⟨?_, ?_, ?_, ?_, ?_, ?_, ?_, ?_, ?_, ?_, ?_, ?_, ?_, ?_, ?_, ?_, ?_⟩ <;> (first | exact hI.x | exact hI.g1 | exact hI.g2 | exact hI.g3 | exact hI.g4 | exact hI.g6 | exact hI.g7 | exact hI.g8 | exact hI.f0 | exact hI.f1 | exact hI.f3 | exact hI.f5 | exact hI.f6 | exact hI.f7 | exact hI.f8 | exact hI.f9 | exact hI.f10 | exact fun _ => rfl | skip))
              · intro L us wx K a ha hp hd hun hI hK
                have h2 := hp 2 (by kernel_rfl)
                have u3 := hI.f3 (hp 3 (by kernel_rfl))
                have h7 : L 7 = false := Bool.eq_false_iff.2 fun hl => absurd (hd 7 4 hl (by kernel_rfl)) (by rw [hun]; decide)
                have h10 : L 10 = false := Bool.eq_false_iff.2 fun hl => absurd (hd 10 7 hl (by kernel_rfl)) (by rw [h7]; decide)
                have h11 : L 11 = false := Bool.eq_false_iff.2 fun hl => absurd (hd 11 10 hl (by kernel_rfl)) (by rw [h10]; decide)
                have own := hI.g1 h2 hun
                have hne := fun h6 => hI.g4 h2 h6 hun
                have hS := Hc.out.ext hI.x
                have hX8 := hI.g7 h11
                have hUx : U ≤ wx.heap.size := by have := hX8.size; have := HU.out; omega
                obtain ⟨v0, hv0⟩ : ∃ v, us 2 = v := ⟨_, rfl⟩
                rw [hv0] at own hne
                replace hd := Lib.hid hd
                simp only [putAll, Act.put, List.setIfInBounds_toArray, List.set_cons_succ, List.set_cons_zero, Nat.reduceAdd, hv0, u3] at ha
                subst ha
                simp only [Act.put, List.setIfInBounds_toArray, List.set_cons_succ, List.set_cons_zero] at hK
                refine step_append_any rfl (.tmp 113) (.tmp 114) 27 rfl U 64 i9 _ 5 40 Tryd.underlying27 hi9 hz9 hz91 hz92 rfl (by decide) v0 0 [] rfl own CA c.length cc (c.map Laid.cells) rfl hS Hnil.out (lds21 c) (by unfold maxLen; have := Hlen.out; omega) (by have := Hlen.out; omega) hUx ?_
                intro v2 w2 own2 hg2
                rw [Nat.zero_add, List.nil_append] at own2
                have hfar : ∀ k, v0.ownBlock = some k → U ≤ k := fun k hk => (own.lt k hk).1
                exact hK _ _ ⟨hI.x.grown hg2 (fun k hk => Nat.le_trans HUw.out (hfar k hk)), (fun _ h => nomatch (show true = false from h)), (fun _ _ => own2), (fun h h2 => (hI.g3 h h2).grown hg2 (fun e => hne h e.symm)), (fun _ _ h => nomatch (show true = false from h)), (fun h => absurd (show L 7 = true from h) (by rw [h7]; decide)), (fun h => (hI.g7 h).grown hg2 (fun k hk => by have := hfar k hk; have := HU.out; omega)), (fun h => absurd (show L 11 = true from h) (by rw [h11]; decide)), hI.f0, hI.f1, hI.f3, hI.f5, hI.f6, hI.f7, hI.f8, hI.f9, (fun h => absurd (show L 10 = true from h) (by rw [h10]; decide))⟩
              · intro L us wx K a ha hp hd hun hI hK
                have HX := hI.x
                have h11 : L 11 = false := Bool.eq_false_iff.2 fun hl => absurd (hd 11 5 hl (by kernel_rfl)) (by rw [hun]; decide)
                have bb := (HKK.out.x7.ext (hI.g7 h11)).cell
                clear hp HX
                replace hd := Lib.hid hd
                simp only [putAll, Act.put, List.setIfInBounds_toArray, List.set_cons_succ, List.set_cons_zero, Nat.reduceAdd] at ha
                subst ha
                simp only [Act.put, List.setIfInBounds_toArray, List.set_cons_succ, List.set_cons_zero] at hK
                go_simp
                refine hK _ _ ?_
                first
                | (refine ⟨hI.x, hI.g1, hI.g2, hI.g3, hI.g4, hI.g6, hI.g7, hI.g8, hI.f0, hI.f1, hI.f3, ?_, hI.f6, hI.f7, hI.f8, hI.f9, hI.f10⟩ <;> (first | exact fun _ => rfl | skip))
                | (refine ⟨?_, ?_, ?_, ?_, ?_, ?_, ?_, ?_, ?_, ?_, ?_, ?_, ?_, ?_, ?_, ?_, ?_⟩ <;> (first | exact hI.x | exact hI.g1 | exact hI.g2 | exact hI.g3 | exact hI.g4 | exact hI.g6 | exact hI.g7 | exact hI.g8 | exact hI.f0 | exact hI.f1 | exact hI.f3 | exact hI.f5 | exact hI.f6 | exact hI.f7 | exact hI.f8 | exact hI.f9 | exact hI.f10 | exact fun _ => rfl | skip))
              · intro L us wx K a ha hp hd hun hI hK
                have u5 := hI.f5 (hp 5 (by kernel_rfl))
                have h7 : L 7 = false := Bool.eq_false_iff.2 fun hl => absurd (hd 7 6 hl (by kernel_rfl)) (by rw [hun]; decide)
                have h10 : L 10 = false := Bool.eq_false_iff.2 fun hl => absurd (hd 10 7 hl (by kernel_rfl)) (by rw [h7]; decide)
                have h11 : L 11 = false := Bool.eq_false_iff.2 fun hl => absurd (hd 11 10 hl (by kernel_rfl)) (by rw [h10]; decide)
                replace hd := Lib.hid hd
                simp only [putAll, Act.put, List.setIfInBounds_toArray, List.set_cons_succ, List.set_cons_zero, Nat.reduceAdd, u5] at ha
                subst ha
                simp only [Act.put, List.setIfInBounds_toArray, List.set_cons_succ, List.set_cons_zero] at hK
                go_simp
                have EW : Ext wx (wx.alloc (.cells #[.int .i64 (i : Int), .int .i64 cx, .int .i64 cy, .int .i64 cz, .bool tb] 64)) := (Ext.refl wx).alloc _
                exact hK _ _ ⟨hI.x.trans EW, (fun h h2 => own_ext (hI.g1 h h2) EW), (fun h h2 => own_ext (hI.g2 h h2) EW), (fun _ _ => Blk.new _ _ _), (fun h0 _ h3 e => by have := ((hI.g1 h0 h3).lt _ e).2; exact absurd this (Nat.lt_irrefl _)), (fun h => absurd (show L 7 = true from h) (by rw [h7]; decide)), (fun h => (hI.g7 h).trans EW), (fun h => absurd (show L 11 = true from h) (by rw [h11]; decide)), hI.f0, hI.f1, hI.f3, hI.f5, (fun _ => rfl), hI.f7, hI.f8, hI.f9, (fun h => absurd (show L 10 = true from h) (by rw [h10]; decide))⟩
              · intro L us wx K a ha hp hd hun hI hK
                have h4 := hp 4 (by kernel_rfl)
                have h6 := hp 6 (by kernel_rfl)
                have u6 := hI.f6 h6
                have own := hI.g2 h4 hun
                have hb := hI.g3 h6 hun
                have h10 : L 10 = false := Bool.eq_false_iff.2 fun hl => absurd (hd 10 7 hl (by kernel_rfl)) (by rw [hun]; decide)
                have h11 : L 11 = false := Bool.eq_false_iff.2 fun hl => absurd (hd 11 10 hl (by kernel_rfl)) (by rw [h10]; decide)
                have hX8 := hI.g7 h11
                have hUx : U ≤ wx.heap.size := by have := hX8.size; have := HU.out; omega
                obtain ⟨g6, hg6⟩ : ∃ g, bk (us 6) = g := ⟨_, rfl⟩
                rw [hg6] at u6 hb
                obtain ⟨v4, hv4⟩ : ∃ v, us 4 = v := ⟨_, rfl⟩
                rw [hv4] at own
                have hS : SliceIs wx (some ⟨g6, 0, none⟩) 1 1 5 [Laid.cells ⟨i, cx, cy, cz, tb⟩] := (rowX21 (rows := [Laid.cells ⟨i, cx, cy, cz, tb⟩]) hb).slice (fun r hr => by rw [List.mem_singleton] at hr; subst hr; rfl) rfl (Nat.le_refl _) (by unfold maxLen; omega)
                replace hd := Lib.hid hd
                simp only [putAll, Act.put, List.setIfInBounds_toArray, List.set_cons_succ, List.set_cons_zero, Nat.reduceAdd, hv4, u6] at ha
                subst ha
                simp only [Act.put, List.setIfInBounds_toArray, List.set_cons_succ, List.set_cons_zero] at hK
                refine step_append_any rfl (.tmp 115) (.tmp 117) 27 rfl U 64 i9 _ 5 40 Tryd.underlying27 hi9 hz9 hz91 hz92 rfl (by decide) v4 c.length (c.map Laid.cells).flatten rfl own (some ⟨g6, 0, none⟩) 1 1 [Laid.cells ⟨i, cx, cy, cz, tb⟩] rfl hS (nofun) (fun u hu => ?_) (by unfold maxLen; have := Hlen.out; omega) (by have := Hlen.out; omega) hUx ?_
                · simp only [List.flatten_cons, List.flatten_nil, List.append_nil, Laid.cells, List.mem_cons, List.not_mem_nil, or_false] at hu
                  rcases hu with rfl | rfl | rfl | rfl | rfl <;> rfl
                · intro v2 w2 own2 hg2
                  have hfar : ∀ k, v4.ownBlock = some k → U ≤ k := fun k hk => (own.lt k hk).1
                  obtain ⟨g7, c7, hv7⟩ : ∃ g cp, v2 = .slice (some ⟨g, 0, none⟩) (c.length + 1) cp := by
                    rcases own2.2 with ⟨-, h0⟩ | ⟨g, cap, cur, hv, -⟩
                    · omega
                    · exact ⟨g, cap, hv⟩
                  subst hv7
                  exact hK _ _ ⟨hI.x.grown hg2 (fun k hk => Nat.le_trans HUw.out (hfar k hk)), (fun _ h => absurd (show L 4 = false from h) (by rw [h4]; decide)), (fun _ h => nomatch (show true = false from h)), (fun _ h => nomatch (show true = false from h)), (fun _ _ h => absurd (show L 4 = false from h) (by rw [h4]; decide)), (fun _ _ => own2), (fun h => (hI.g7 h).grown hg2 (fun k hk => by have := hfar k hk; have := HU.out; omega)), (fun h => absurd (show L 11 = true from h) (by rw [h11]; decide)), hI.f0, hI.f1, hI.f3, hI.f5, hI.f6, (fun _ => rfl), hI.f8, hI.f9, (fun h => absurd (show L 10 = true from h) (by rw [h10]; decide))⟩
              · intro L us wx K a ha hp hd hun hI hK
                have HX := hI.x
                have h11 : L 11 = false := Bool.eq_false_iff.2 fun hl => absurd (hd 11 8 hl (by kernel_rfl)) (by rw [hun]; decide)
                have bb := (HBF.out.ext (hI.g7 h11)).cell
                clear hp HX
                replace hd := Lib.hid hd
                simp only [putAll, Act.put, List.setIfInBounds_toArray, List.set_cons_succ, List.set_cons_zero, Nat.reduceAdd] at ha
                subst ha
                simp only [Act.put, List.setIfInBounds_toArray, List.set_cons_succ, List.set_cons_zero] at hK
                go_simp
                refine hK _ _ ?_
                first
                | (refine ⟨hI.x, hI.g1, hI.g2, hI.g3, hI.g4, hI.g6, hI.g7, hI.g8, hI.f0, hI.f1, hI.f3, hI.f5, hI.f6, hI.f7, ?_, hI.f9, hI.f10⟩ <;> (first | exact fun _ => rfl | skip))
                | (refine ⟨?_, ?_, ?_, ?_, ?_, ?_, ?_, ?_, ?_, ?_, ?_, ?_, ?_, ?_, ?_, ?_, ?_⟩ <;> (first | exact hI.x | exact hI.g1 | exact hI.g2 | exact hI.g3 | exact hI.g4 | exact hI.g6 | exact hI.g7 | exact hI.g8 | exact hI.f0 | exact hI.f1 | exact hI.f3 | exact hI.f5 | exact hI.f6 | exact hI.f7 | exact hI.f8 | exact hI.f9 | exact hI.f10 | exact fun _ => rfl | skip))
              · intro L us wx K a ha hp hd hun hI hK
                have HX := hI.x
                clear hp HX
                replace hd := Lib.hid hd
                simp only [putAll, Act.put, List.setIfInBounds_toArray, List.set_cons_succ, List.set_cons_zero, Nat.reduceAdd] at ha
                subst ha
                simp only [Act.put, List.setIfInBounds_toArray, List.set_cons_succ, List.set_cons_zero] at hK
                go_simp
                refine hK _ _ ?_
                first
                | (refine ⟨hI.x, hI.g1, hI.g2, hI.g3, hI.g4, hI.g6, hI.g7, hI.g8, hI.f0, hI.f1, hI.f3, hI.f5, hI.f6, hI.f7, hI.f8, ?_, hI.f10⟩ <;> (first | exact fun _ => rfl | skip))
                | (refine ⟨?_, ?_, ?_, ?_, ?_, ?_, ?_, ?_, ?_, ?_, ?_, ?_, ?_, ?_, ?_, ?_, ?_⟩ <;> (first | exact hI.x | exact hI.g1 | exact hI.g2 | exact hI.g3 | exact hI.g4 | exact hI.g6 | exact hI.g7 | exact hI.g8 | exact hI.f0 | exact hI.f1 | exact hI.f3 | exact hI.f5 | exact hI.f6 | exact hI.f7 | exact hI.f8 | exact hI.f9 | exact hI.f10 | exact fun _ => rfl | skip))
              · intro L us wx K a ha hp hd hun hI hK
                have h7 := hp 7 (by kernel_rfl)
                have u0 := hI.f0 (hp 0 (by kernel_rfl))
                have u1 := hI.f1 (hp 1 (by kernel_rfl))
                have u7 := hI.f7 h7
                have u8 := hI.f8 (hp 8 (by kernel_rfl))
                have u9 := hI.f9 (hp 9 (by kernel_rfl))
                have h11 : L 11 = false := Bool.eq_false_iff.2 fun hl => absurd (hd 11 10 hl (by kernel_rfl)) (by rw [hun]; decide)
                have own := hI.g6 h7 h11
                have hX8 := hI.g7 h11
                obtain ⟨g7, hg7⟩ : ∃ g, bk (us 7) = g := ⟨_, rfl⟩
                obtain ⟨c7, hc7⟩ : ∃ g, cpOf (us 7) = g := ⟨_, rfl⟩
                rw [hg7, hc7] at u7
                rw [u7] at own
                have CC := HC.out wx g7 c7 hI.x hX8 own
                replace hd := Lib.hid hd
                simp only [putAll, Act.put, List.setIfInBounds_toArray, List.set_cons_succ, List.set_cons_zero, Nat.reduceAdd, u0, u1, u7, u8, u9] at ha
                subst ha
                simp only [Act.put, List.setIfInBounds_toArray, List.set_cons_succ, List.set_cons_zero] at hK
                replace hU7 := Lib.hid u7
                clear u0 u1 u7 u8 u9 hg7 hc7
                go_simp
                go_at_call 42
                refine CC.mono ?_
                rintro e wn ⟨wk3, A3, bn3, bc3, rfl, F3, S3, En⟩
                go_simp
                exact hK _ _ ⟨hI.x.trans En, (fun h h2 => own_ext (hI.g1 h h2) En), (fun h h2 => own_ext (hI.g2 h h2) En), (fun h h2 => (hI.g3 h h2).ext En), hI.g4, (fun h h2 => own_ext (hI.g6 h h2) En), (fun h => (hI.g7 h).trans En), (fun h => absurd (show L 11 = true from h) (by rw [h11]; decide)), hI.f0, hI.f1, hI.f3, hI.f5, hI.f6, hI.f7, hI.f8, hI.f9, (fun _ _ => ⟨wk3, A3, bn3, bc3, rfl, F3, fun a ha => (S3 a ha).imp_right fun h => by have := hX8.size; have := HU.out; omega⟩)⟩
              · intro L us wx K a ha hp hd hun hI hK
                have h10 := hp 10 (by kernel_rfl)
                obtain ⟨wk3, A3, bn3, bc3, u10, F3, S3⟩ := hI.f10 h10 hun
                have hX8 := hI.g7 hun
                have hS := HS.out
                have hS5 := HS5.out
                obtain ⟨r, hr⟩ : ∃ r, rGrow s l false m g (c ++ [⟨i, cx, cy, cz, tb⟩]) (all ++ [m']) (cov ||| m') = r := ⟨_, rfl⟩
                rw [hr] at u10 F3
                have DD := done21 (S5 := S5) (S8 := S8) (S10 := S10) (S11 := T) hI.x hX8 HKK.out HBF.out hS hS5 HSU.out F3 S3 HG6.out
                have b8 := (HBF.out.ext hX8).cell
                have f8 := (HBF.out.ext hX8).frozen
                have l8 := (HBF.out.ext hX8).lt
                have h7 := hd 10 7 h10 (by kernel_rfl)
                have h4 := hd 7 4 h7 (by kernel_rfl)
                replace hr := Lib.hid hr
                replace hd := Lib.hid hd
                simp only [putAll, Act.put, List.setIfInBounds_toArray, List.set_cons_succ, List.set_cons_zero, Nat.reduceAdd, u10] at ha
                subst ha
                simp only [Act.put] at hK
                have U10 := Lib.hid u10
                clear u10
                go_simp
                exact hK undef _ ⟨DD.2, (fun _ h => absurd (show L 4 = false from h) (by rw [h4]; decide)), (fun _ h => absurd (show L 7 = false from h) (by rw [h7]; decide)), (fun _ h => absurd (show L 7 = false from h) (by rw [h7]; decide)), (fun _ _ h => absurd (show L 4 = false from h) (by rw [h4]; decide)), (fun _ h => nomatch (show true = false from h)), (fun h => nomatch (show true = false from h)), (fun _ => by rw [hr.out]; show DoneAt _ _ _ _ _ _ _ _ _ _ _ (us 10); rw [U10.out]; exact DD.1), hI.f0, hI.f1, hI.f3, hI.f5, hI.f6, hI.f7, hI.f8, hI.f9, (fun _ h => nomatch (show true = false from h))⟩
              intro L us W9 hall hI
              obtain ⟨wk4, A4, bn4, bc4, u10, E9, Y5, Y8, Y10, Y11, F4, S4⟩ := hI.g8 (hall 11 (by simp))
              have hstep : growTo (rLong false) (rSee s l false) s l m c all cov (n, none) (2 * i + tb.toNat + 1) = rGrow s l false m g (c ++ [⟨i, cx, cy, cz, tb⟩]) (all ++ [m']) (cov ||| m') := by
                rw [Hst.out, Hg.out]
                unfold kidS
                simp only [Hk.out, HX.out]
                rfl
              have hnext : LoopAt s l false m c all cov (n, none) none w S5 S8 S10 T #[.int .i64 s.W, .int .i64 s.D, .int .i64 s.H, .slice A s.cells.length cap] #[.int .i64 cx, .int .i64 cy, .int .i64 cz] (2 * i + (tb.toNat + 1)) W9 := by
                rw [← Nat.add_assoc]
                unfold LoopAt
                rw [hstep]
                refine ⟨wk4, A4, bn4, bc4, E9, Y5, Y8, Y10, Y11, F4, fun a ha => ?_⟩
                rcases S4 a ha with h | h
                · exact HG6'.out a h
                · right
                  have := HSU.out
                  omega
              have Hnext := Lib.hid hnext
              clear hnext hstep Y5 Y8 Y10 Y11 F4 S4 E9 u10 hall hI
              simp only [putAll, Act.put, List.setIfInBounds_toArray, List.set_cons_succ, List.set_cons_zero, Nat.reduceAdd]
              go_wp2_with fail
              go_roundw
              case rel => exact ⟨tb.toNat + 1, by cases tb <;> decide, by cases tb <;> go_num, Hnext.out⟩
              case measure => simp only [intOf]; cases tb <;> simp <;> omega
          · obtain rfl : t = 2 := by omega
            go_wp2_with fail
            go_roundw
            case rel => exact ⟨i + 1, by omega, by go_num, HL.out⟩
            case measure => simp only [intOf]; omega
      · obtain rfl : i = l.length := by omega
        obtain ⟨wk, A', bn, bc, E6, X5, X8, X10, X11, F6, G6⟩ := HL.out
        rw [← Hr.out] at X8 F6
        obtain ⟨g, hg⟩ : ∃ g, rGrow s l false (m + 1) (n, none) c all cov = g := ⟨_, rfl⟩
        rw [hg] at X8 F6
        obtain ⟨g1, g2⟩ := g
        have Hg := Lib.hid hg
        simp only at X8 F6
        have b8 := X8.cell
        have b10 := X10.cell
        have f10 := X10.frozen
        have l10 := X10.lt
        have BX := ((X10.set_ 0 (.int .i64 g1)).set_ 1 (.int .i64 wk)).set_ 2 (.slice A' bn bc)
        have bx0 := Lib.hid (BX.cell 0)
        have bx1 := Lib.hid (BX.cell 1)
        have bx2 := Lib.hid (BX.cell 2)
        have hS := HS.out
        have hS5 := HS5.out
        have hfar : ∀ a, A' = some a → a.block ≠ S10 := fun a ha => by rcases G6 a ha with ⟨-, h⟩ | h <;> omega
        have F9 := ((F6.far (p := ⟨S10, 0, none⟩) hfar (.int .i64 g1)).far (p := ⟨S10, 1, none⟩) hfar (.int .i64 wk)).far (p := ⟨S10, 2, none⟩) hfar (.slice A' bn bc)
        have E9 := ((E6.setCell (p := ⟨S10, 0, none⟩) (by simp only; omega) (.int .i64 g1)).setCell (p := ⟨S10, 1, none⟩) (by simp only; omega) (.int .i64 wk)).setCell (p := ⟨S10, 2, none⟩) (by simp only; omega) (.slice A' bn bc)
        have HF9 := Lib.hid F9
        have HE9 := Lib.hid E9
        have HG6 := Lib.hid G6
        clear BX F9 E9 F6 G6 X5 X8 X10 X11 E6 hg hfar hS hS5
        go_wp2_with fail
        refine bodyPost_ret (by simp [results, Tryd.results42, go_sem, bx0.out, bx1.out, bx2.out]; try rfl) rfl ?_
        rw [Hg.out]
        refine ⟨wk, A', bn, bc, rfl, HF9.out, fun a ha => ?_, HE9.out⟩
        rcases HG6.out a ha with ⟨h, -⟩ | h
        · exact Or.inl h
        · right
          have := HS.out
          have := HS5.out
          omega
set_option maxRecDepth 100000 in
set_option maxHeartbeats 8000000 in
theorem rs_some_end (s : Shape) (A : Option Addr) (cap : Nat) (l : List Plate) (PA : Option Addr) (pcap : Nat) (ok : s.Ok) (okl : platesB l = true) (m : Nat) (c : List Laid) (all : List Nat) (cov : Nat) (CA : Option Addr) (cc : Nat) (n : Int) (bL : List Laid) (bw bl : Nat) (hbl : bL.length = bl) (ba : Addr) (bc : Nat) (w : World) (hP : Part s l c all cov) (hs : Bytes w A cap s.cells) (hl : Plates w PA pcap l) (hc : Laids w CA cc c) (hF : FoundAt w (some (bL, bw)) (bw : Int) (some ba) bl bc) (hnl : ¬ bl < c.length) (hfull : fullN s.cells ≤ lowZ cov) :
    Calls Tryd.prog 42 #[.agg #[.int .i64 s.W, .int .i64 s.D, .int .i64 s.H, .slice A s.cells.length cap], .slice PA l.length pcap, .slice CA c.length cc, .agg #[.int .i64 n, .int .i64 (bw : Int), .slice (some ba) bl bc], .bool false] w (RPost (some ba) (rGrow s l false (m + 1) (n, some (bL, bw)) c all cov) w) := by
  have HF := Lib.hid hF
  have HBb := Lib.hid (show ba.block < w.heap.size by obtain ⟨⟨a, h1, h2⟩, -⟩ := hF; cases h1; exact h2)
  have hlong : rLong false (n, some (bL, bw)) c.length = false := by show decide (bL.length < c.length) = false; rw [hbl]; exact decide_eq_false hnl
  have gl : decide (bl < c.length) = false := decide_eq_false hnl
  have HBt0 := Lib.hid (show better s c all (bL, bw) = decide (c.length < bl ∨ c.length = bl ∧ weakN s all < bw) by unfold better; simp only [hbl])
  clear hF
  obtain ⟨W1, hW1, E1, B1, hz1⟩ := box_ w #[.int .i64 s.W, .int .i64 s.D, .int .i64 s.H, .slice A s.cells.length cap] 24
  obtain ⟨W2, hW2, E2, B2, hz2⟩ := box_ W1 #[.int .i64 n, .int .i64 (bw : Int), .slice (some ba) bl bc] 95
  obtain ⟨W3, hW3, E3, B3, hz3⟩ := box_ W2 #[.int .i64 0, .int .i64 0, .slice none 0 0] 95
  have b1 := ((B1.ext E2).ext E3).cell
  have b2 := (B2.ext E3).cell
  have b3 := B3.cell
  have E := (E1.trans E2).trans E3
  have HB1 := Lib.hid ((B1.ext E2).ext E3)
  have HB2 := Lib.hid (B2.ext E3)
  have HB3 := Lib.hid B3
  have HE := Lib.hid E
  have HE1 := Lib.hid E1
  have HB2' := Lib.hid B2.lt
  have HB1' := Lib.hid B1.lt
  obtain ⟨hl1, hl2⟩ := part_len ok hP
  obtain ⟨f1, f2, f3⟩ := firstN_free ok hP.is
  have hfn : firstN s cov = s.cells.length := by unfold firstN; rw [if_pos hfull]
  have P1 := firstNone_c s A cap l PA pcap c CA cc ok okl (part_ok ok hP) (by omega) (firstN s cov) hfn f1 f2 W3 (hs.ext E) (hl.ext E) (hc.ext E)
  have hr := rGrow_end (l := l) (cnt := false) (f := m) (st := (n, some (bL, bw))) (all := all) (c := c) hlong hfull
  rw [rSee_some] at hr
  have hall := full_of_low ok hP.is hfull
  have hpos := comp_pos ok (hP.is.comp ok hall)
  have hw := weak_eq ok hP.is hall
  have hwl := weakN_le s ok all
  obtain ⟨hg, hhg⟩ : ∃ hg, hangB s l c = hg := ⟨_, rfl⟩
  obtain ⟨wn, hwn⟩ : ∃ wn, weakN s all = wn := ⟨_, rfl⟩
  have HC1 := Lib.hid (fun (W : World) (EW : Ext w W) => together_c s A cap l PA pcap c CA cc ok okl (part_ok ok hP) hpos (by omega) W (hl.ext EW) (hc.ext EW))
  have HC2 := Lib.hid (fun (W : World) (EW : Ext w W) => weakness_c s A cap l PA pcap c CA cc ok okl (part_ok ok hP) (by omega) W (hs.ext EW) (hl.ext EW) (hc.ext EW))
  rw [hhg] at HC1
  rw [← hw, hwn] at HC2
  rw [hhg, hwn] at hr
  rw [hwn] at hwl
  have Hr := Lib.hid hr
  have Hwl := Lib.hid hwl
  have Hpos := Lib.hid hpos
  have Hc := Lib.hid hc
  have Hlen := Lib.hid (show c.length ≤ 16 from hl2)
  have Hwn := Lib.hid hwn
  have HBt := HBt0 ; rw [hwn] at HBt
  clear hz1 hz2 hz3 B1 B2 B3 E1 E2 E3 E f1 f2 f3 hfn hfull hP hs hl hc hl1 hl2 hr hall hpos hw hwl hhg hwn
  go_enter Tryd.func42, Tryd.ntmps42
  go_wp2_with fail
  refine P1.mono ?_
  rintro e W4 ⟨rfl, E4⟩
  have HE4 := Lib.hid (HE.out.trans E4)
  have HB14 := Lib.hid (HB1.out.ext E4)
  have HB24 := Lib.hid (HB2.out.ext E4)
  have HB34 := Lib.hid (HB3.out.ext E4)
  have h21 := HB2'.out
  clear b1 b2 b3 hW1 hW2 hW3 P1 E4
  obtain ⟨S5, hS5⟩ : ∃ S, w.heap.size = S := ⟨_, rfl⟩
  obtain ⟨S8, hS8⟩ : ∃ S, W1.heap.size = S := ⟨_, rfl⟩
  obtain ⟨S10, hS10⟩ : ∃ S, W2.heap.size = S := ⟨_, rfl⟩
  rw [hS5] at HB14 ⊢
  rw [hS8] at HB24 h21 ⊢
  rw [hS10] at HB34 h21 ⊢
  have hwS : S5 < S8 := by have := HB1'.out; omega
  have hw8 : w.heap.size ≤ S8 := by omega
  have HS5 := Lib.hid hS5
  obtain ⟨W5, hW5, E5, B5, hz5⟩ := box_ W4 #[.int .i64 0, .int .i64 0, .int .i64 0] 56
  obtain ⟨T, hT⟩ : ∃ T, W4.heap.size = T := ⟨_, rfl⟩
  rw [hT] at B5
  have b5 := B5.cell
  have f5 := B5.frozen
  have l5 := B5.lt
  have HT := Lib.hid hT
  obtain ⟨V5, hV5⟩ : ∃ V, ((W5.setCell ⟨T, 0, none⟩ (.int .i64 0)).setCell ⟨T, 1, none⟩ (.int .i64 0)).setCell ⟨T, 2, none⟩ (.int .i64 0) = V := ⟨_, rfl⟩
  have EV : Ext W4 V5 := by
    rw [← hV5]
    exact ((E5.setCell (p := ⟨T, 0, none⟩) (Nat.le_of_eq hT) _).setCell (p := ⟨T, 1, none⟩) (Nat.le_of_eq hT) _).setCell (p := ⟨T, 2, none⟩) (Nat.le_of_eq hT) _
  have B1V := HB14.out.ext EV
  have B2V := HB24.out.ext EV
  have B3V := HB34.out.ext EV
  have b2 := B2V.cell
  have f2 := B2V.frozen
  have l2 := B2V.lt
  obtain ⟨V6, hV6⟩ : ∃ V, V5.setCell ⟨S8, 0, none⟩ (.int .i64 (wrap64 (n + 1))) = V := ⟨_, rfl⟩
  have B16 := B1V.far (p := ⟨S8, 0, none⟩) (by simp only; omega) (.int .i64 (wrap64 (n + 1)))
  have B26 := B2V.set_ 0 (.int .i64 (wrap64 (n + 1)))
  have B36 := B3V.far (p := ⟨S8, 0, none⟩) (by simp only; omega) (.int .i64 (wrap64 (n + 1)))
  have E6 := (HE4.out.trans EV).setCell (p := ⟨S8, 0, none⟩) hw8 (.int .i64 (wrap64 (n + 1)))
  rw [hV6] at B16 B26 B36 E6
  have b16 := B16.cell
  have b26 := B26.cell
  have HB16 := Lib.hid B16
  have HB26 := Lib.hid B26
  have HB36 := Lib.hid B36
  have HE6 := Lib.hid E6
  have Hw := Lib.hid hw8
  have H21 := Lib.hid h21
  clear B16 B26 B36 E6 B1V B2V B3V EV E5 B5 hz5 hwS hw8 h21 hS5 hS8 hS10
  go_wp2_with fail
  refine (HC1.out _ HE6.out).mono ?_
  rintro e W7 ⟨rfl, E7⟩
  have HE7 := Lib.hid (HE6.out.trans E7)
  have B27 := HB26.out.ext E7
  have B37 := HB36.out.ext E7
  have HB17 := Lib.hid (HB16.out.ext E7)
  have HB27 := Lib.hid B27
  have HB37 := Lib.hid B37
  have h21 := H21.out
  clear E7 hT b5 f5 l5 hW5 hV5 b2 f2 l2 hV6 b16 b26
  cases hg with
  | false =>
    have b27 := B27.cell
    have b37 := B37.cell
    have f37 := B37.frozen
    have l37 := B37.lt
    have BX := ((B37.set_ 0 (.int .i64 (wrap64 (n + 1)))).set_ 1 (.int .i64 (bw : Int))).set_ 2 (.slice (some ba) bl bc)
    have bx0 := Lib.hid (BX.cell 0)
    have bx1 := Lib.hid (BX.cell 1)
    have bx2 := Lib.hid (BX.cell 2)
    clear BX
    clear B27 B37 h21
    go_wp2_with fail
    refine bodyPost_ret (by simp [results, Tryd.results42, go_sem, bx0.out, bx1.out, bx2.out]; try rfl) rfl ?_
    have q10 : w.heap.size ≤ S10 := by have := Hw.out; have := H21.out; omega
    rw [Hr.out]
    exact ⟨_, _, _, _, rfl, ((((fun {W} (EW : Ext w W) => HF.out.ext EW) HE7.out).far (p := ⟨S10, 0, none⟩) (fun a ha => by cases ha; have := HBb.out; simp only; omega) _).far (p := ⟨S10, 1, none⟩) (fun a ha => by cases ha; have := HBb.out; simp only; omega) _).far (p := ⟨S10, 2, none⟩) (fun a ha => by cases ha; have := HBb.out; simp only; omega) _, (fun a ha => Or.inl ha), ((HE7.out.setCell q10 _).setCell q10 _).setCell q10 _⟩
  | true =>
    have b17 := HB17.out.cell
    clear B27 B37
    go_wp2_with fail
    refine (HC2.out _ HE7.out).mono ?_
    rintro e W8 ⟨rfl, E8⟩
    have HE8 := Lib.hid (HE7.out.trans E8)
    have HB28 := Lib.hid (HB27.out.ext E8)
    have HB38 := Lib.hid (HB37.out.ext E8)
    have b28 := HB28.out.cell
    clear E8 b17
    have heq := eq_nil_some ba
    by_cases h1 : c.length < bl
    · have g1 : decide (c.length < bl) = true := decide_eq_true h1
      obtain ⟨iL, hiL, zL0, zL1, zL2⟩ := info_parts infoLaid21
      obtain ⟨xs, hxs⟩ : ∃ xs, (c.map Laid.cells).flatten = xs := ⟨_, rfl⟩
      have hcp := Hpos.out
      have hcl := Hlen.out
      have Hone := Lib.hid (show ∀ u ∈ xs, u.oneCell' = true by rw [← hxs]; exact lds21 c)
      have Hfl := Lib.hid (show xs.length = c.length * 5 by
        rw [← hxs]
        have := flat_len (rows := c.map Laid.cells) (sz := 5) (by
          intro r hr
          obtain ⟨x, _, rfl⟩ := List.mem_map.1 hr
          rfl)
        rw [this, List.length_map])
      obtain ⟨cb, coff, hca, hcells⟩ := SliceIs.flat (Hc.out.ext HE8.out) (by simpa using hcp) (by decide)
      rw [hxs] at hcells
      have HC3 := Lib.hid hcells
      have Hxs := Lib.hid hxs
      have m1 : 0 + c.length ≤ maxLen := by unfold maxLen; omega
      have m2 : (0 + c.length) * 40 ≤ 140737488355328 := by omega
      subst hca
      clear hxs hcells
      go_wp2_with (at_builtin; refine wpList_append_own _ rfl (.tmp 84) (.tmp 85) 27 rfl W8.heap.size 64 iL _ 5 40 Tryd.underlying27 hiL zL0 zL1 zL2 rfl (by decide) _ 0 [] rfl (World.ownsRow_made W8 #[] 0 (Nat.le_refl _) (by unfold maxLen; omega) rfl) ⟨cb, coff, none⟩ c.length cc xs rfl Hfl.out (fun j u hu => (ext_alloc _ _).cell (HC3.out j u hu)) Hone.out m1 m2 (by simp) ?_; intro v' w9 own9 hg9 h9; obtain ⟨g9, cp9, rfl⟩ := own_form own9 (by omega); obtain ⟨V10, hV10, B89, B8V, B10V, EV10, hg1, hg2, hLV⟩ := end_new (wn := wn) own9 Hxs.out HE8.out (((Ext.refl W8).alloc _).grown hg9 (fun r e => by cases e; exact Nat.le_refl _)) HB28.out HB38.out H21.out Hw.out; have c8 := B89.cell; have d8 := B89.frozen; have e8 := B89.lt; have c8V := B8V.cell; have c10V := B10V.cell; have d10V := B10V.frozen; have e10V := B10V.lt)
      have BX := ((B10V.set_ 0 (.int .i64 (wrap64 (n + 1)))).set_ 1 (.int .i64 (wn : Int))).set_ 2 (.slice (some ⟨g9, 0, none⟩) c.length cp9)
      have bx0 := Lib.hid (BX.cell 0)
      have bx1 := Lib.hid (BX.cell 1)
      have bx2 := Lib.hid (BX.cell 2)
      clear BX
      refine bodyPost_ret (by simp [results, Tryd.results42, go_sem, bx0.out, bx1.out, bx2.out]; try rfl) rfl ?_
      have q10 : w.heap.size ≤ S10 := by have := Hw.out; have := H21.out; omega
      rw [Hr.out, if_pos trivial]
      rw [HBt.out, if_pos (by simp; omega)]
      have hgf : ∀ a : Addr, (some ⟨g9, 0, none⟩ : Option Addr) = some a → a.block ≠ S10 := fun a ha => by
        cases ha
        show g9 ≠ S10
        omega
      refine ⟨_, _, _, _, rfl, (((show FoundAt V10 (some (c, wn)) (wn : Int) (some ⟨g9, 0, none⟩) c.length cp9 from ⟨⟨_, rfl, hg2⟩, rfl, rfl, hLV, by simp only; omega, Hwl.out⟩).far (p := ⟨S10, 0, none⟩) hgf _).far (p := ⟨S10, 1, none⟩) hgf _).far (p := ⟨S10, 2, none⟩) hgf _, fun a ha => Or.inr ?_, ((EV10.setCell (p := ⟨S10, 0, none⟩) q10 _).setCell (p := ⟨S10, 1, none⟩) q10 _).setCell (p := ⟨S10, 2, none⟩) q10 _⟩
      cases ha
      show w.heap.size ≤ g9
      omega
    · have h2 : bl = c.length := by omega
      subst h2
      by_cases h3 : wn < bw
      · have g3 : decide (wn < bw) = true := decide_eq_true h3
        obtain ⟨iL, hiL, zL0, zL1, zL2⟩ := info_parts infoLaid21
        obtain ⟨xs, hxs⟩ : ∃ xs, (c.map Laid.cells).flatten = xs := ⟨_, rfl⟩
        have hcp := Hpos.out
        have hcl := Hlen.out
        have Hone := Lib.hid (show ∀ u ∈ xs, u.oneCell' = true by rw [← hxs]; exact lds21 c)
        have Hfl := Lib.hid (show xs.length = c.length * 5 by
          rw [← hxs]
          have := flat_len (rows := c.map Laid.cells) (sz := 5) (by
            intro r hr
            obtain ⟨x, _, rfl⟩ := List.mem_map.1 hr
            rfl)
          rw [this, List.length_map])
        obtain ⟨cb, coff, hca, hcells⟩ := SliceIs.flat (Hc.out.ext HE8.out) (by simpa using hcp) (by decide)
        rw [hxs] at hcells
        have HC3 := Lib.hid hcells
        have Hxs := Lib.hid hxs
        have m1 : 0 + c.length ≤ maxLen := by unfold maxLen; omega
        have m2 : (0 + c.length) * 40 ≤ 140737488355328 := by omega
        subst hca
        clear hxs hcells
        go_wp2_with (at_builtin; refine wpList_append_own _ rfl (.tmp 84) (.tmp 85) 27 rfl W8.heap.size 64 iL _ 5 40 Tryd.underlying27 hiL zL0 zL1 zL2 rfl (by decide) _ 0 [] rfl (World.ownsRow_made W8 #[] 0 (Nat.le_refl _) (by unfold maxLen; omega) rfl) ⟨cb, coff, none⟩ c.length cc xs rfl Hfl.out (fun j u hu => (ext_alloc _ _).cell (HC3.out j u hu)) Hone.out m1 m2 (by simp) ?_; intro v' w9 own9 hg9 h9; obtain ⟨g9, cp9, rfl⟩ := own_form own9 (by omega); obtain ⟨V10, hV10, B89, B8V, B10V, EV10, hg1, hg2, hLV⟩ := end_new (wn := wn) own9 Hxs.out HE8.out (((Ext.refl W8).alloc _).grown hg9 (fun r e => by cases e; exact Nat.le_refl _)) HB28.out HB38.out H21.out Hw.out; have c8 := B89.cell; have d8 := B89.frozen; have e8 := B89.lt; have c8V := B8V.cell; have c10V := B10V.cell; have d10V := B10V.frozen; have e10V := B10V.lt)
        have BX := ((B10V.set_ 0 (.int .i64 (wrap64 (n + 1)))).set_ 1 (.int .i64 (wn : Int))).set_ 2 (.slice (some ⟨g9, 0, none⟩) c.length cp9)
        have bx0 := Lib.hid (BX.cell 0)
        have bx1 := Lib.hid (BX.cell 1)
        have bx2 := Lib.hid (BX.cell 2)
        clear BX
        refine bodyPost_ret (by simp [results, Tryd.results42, go_sem, bx0.out, bx1.out, bx2.out]; try rfl) rfl ?_
        have q10 : w.heap.size ≤ S10 := by have := Hw.out; have := H21.out; omega
        rw [Hr.out, if_pos trivial]
        rw [HBt.out, if_pos (by simp; omega)]
        have hgf : ∀ a : Addr, (some ⟨g9, 0, none⟩ : Option Addr) = some a → a.block ≠ S10 := fun a ha => by
          cases ha
          show g9 ≠ S10
          omega
        refine ⟨_, _, _, _, rfl, (((show FoundAt V10 (some (c, wn)) (wn : Int) (some ⟨g9, 0, none⟩) c.length cp9 from ⟨⟨_, rfl, hg2⟩, rfl, rfl, hLV, by simp only; omega, Hwl.out⟩).far (p := ⟨S10, 0, none⟩) hgf _).far (p := ⟨S10, 1, none⟩) hgf _).far (p := ⟨S10, 2, none⟩) hgf _, fun a ha => Or.inr ?_, ((EV10.setCell (p := ⟨S10, 0, none⟩) q10 _).setCell (p := ⟨S10, 1, none⟩) q10 _).setCell (p := ⟨S10, 2, none⟩) q10 _⟩
        cases ha
        show w.heap.size ≤ g9
        omega
      · have g3 : decide (wn < bw) = false := decide_eq_false h3
        have B38 := HB38.out
        have b38 := B38.cell
        have f38 := B38.frozen
        have l38 := B38.lt
        have BX := ((B38.set_ 0 (.int .i64 (wrap64 (n + 1)))).set_ 1 (.int .i64 (bw : Int))).set_ 2 (.slice (some ba) c.length bc)
        have bx0 := Lib.hid (BX.cell 0)
        have bx1 := Lib.hid (BX.cell 1)
        have bx2 := Lib.hid (BX.cell 2)
        clear BX
        clear B38
        go_wp2_with fail
        refine bodyPost_ret (by simp [results, Tryd.results42, go_sem, bx0.out, bx1.out, bx2.out]; try rfl) rfl ?_
        have q10 : w.heap.size ≤ S10 := by have := Hw.out; have := H21.out; omega
        rw [Hr.out]
        rw [if_pos trivial, HBt.out, if_neg (by rw [decide_eq_true_eq]; omega)]
        exact ⟨_, _, _, _, rfl, (((HF.out.ext HE8.out).far (p := ⟨S10, 0, none⟩) (fun a ha => by cases ha; have := HBb.out; simp only; omega) _).far (p := ⟨S10, 1, none⟩) (fun a ha => by cases ha; have := HBb.out; simp only; omega) _).far (p := ⟨S10, 2, none⟩) (fun a ha => by cases ha; have := HBb.out; simp only; omega) _, fun a ha => Or.inl ha, ((HE8.out.setCell q10 _).setCell q10 _).setCell q10 _⟩
set_option maxRecDepth 100000 in
set_option maxHeartbeats 8000000 in
theorem rs_some (s : Shape) (A : Option Addr) (cap : Nat) (l : List Plate) (PA : Option Addr) (pcap : Nat) (ok : s.Ok) (okl : platesB l = true) (m : Nat) (ih : RS s A cap l PA pcap false m) (c : List Laid) (all : List Nat) (cov : Nat) (CA : Option Addr) (cc : Nat) (n : Int) (bL : List Laid) (bw bl : Nat) (hbl : bL.length = bl) (ba : Addr) (bc : Nat) (w : World) (hP : Part s l c all cov) (hm : fullN s.cells + 1 ≤ m + 1 + lowZ cov) (hs : Bytes w A cap s.cells) (hl : Plates w PA pcap l) (hc : Laids w CA cc c) (hnil : CA = none → cc = 0) (hF : FoundAt w (some (bL, bw)) (bw : Int) (some ba) bl bc) (hnl : ¬ bl < c.length) :
    Calls Tryd.prog 42 #[.agg #[.int .i64 s.W, .int .i64 s.D, .int .i64 s.H, .slice A s.cells.length cap], .slice PA l.length pcap, .slice CA c.length cc, .agg #[.int .i64 n, .int .i64 (bw : Int), .slice (some ba) bl bc], .bool false] w (RPost (some ba) (rGrow s l false (m + 1) (n, some (bL, bw)) c all cov) w) := by
  by_cases hfull : fullN s.cells ≤ lowZ cov
  · exact rs_some_end s A cap l PA pcap ok okl m c all cov CA cc n bL bw bl hbl ba bc w hP hs hl hc hF hnl hfull
  have hb := hm
  have HF := Lib.hid hF
  have HBb := Lib.hid (show ba.block < w.heap.size by obtain ⟨⟨a, h1, h2⟩, -⟩ := hF; cases h1; exact h2)
  have Hlong := Lib.hid (show rLong false (n, some (bL, bw)) c.length = false by show decide (bL.length < c.length) = false; rw [hbl]; exact decide_eq_false hnl)
  have gl : decide (bl < c.length) = false := decide_eq_false hnl
  clear hF hbl
  obtain ⟨W1, hW1, E1, B1, hz1⟩ := box_ w #[.int .i64 s.W, .int .i64 s.D, .int .i64 s.H, .slice A s.cells.length cap] 24
  obtain ⟨W2, hW2, E2, B2, hz2⟩ := box_ W1 #[.int .i64 n, .int .i64 (bw : Int), .slice (some ba) bl bc] 95
  obtain ⟨W3, hW3, E3, B3, hz3⟩ := box_ W2 #[.int .i64 0, .int .i64 0, .slice none 0 0] 95
  have b1 := ((B1.ext E2).ext E3).cell
  have b2 := (B2.ext E3).cell
  have b3 := B3.cell
  have E := (E1.trans E2).trans E3
  have HB1 := Lib.hid ((B1.ext E2).ext E3)
  have HB2 := Lib.hid (B2.ext E3)
  have HB3 := Lib.hid B3
  have HE := Lib.hid E
  have HE1 := Lib.hid E1
  have HB2' := Lib.hid B2.lt
  have HB1' := Lib.hid B1.lt
  obtain ⟨hl1, hl2⟩ := part_len ok hP
  obtain ⟨f1, f2, f3⟩ := firstN_free ok hP.is
  · have hlt : lowZ cov < fullN s.cells := by omega
    have hfn : firstN s cov = placeN s (lowZ cov) := by unfold firstN; rw [if_neg hfull]
    obtain ⟨p1, -, -, -⟩ := place_num ok hlt
    have P1 := firstAt_c s A cap l PA pcap c CA cc ok okl (part_ok ok hP) (by omega) (firstN s cov) (by rw [hfn]; exact p1) f1 f2 W3 (hs.ext E) (hl.ext E) (hc.ext E)
    have Hr := Lib.hid (rGrow_go (l := l) (cnt := false) (f := m) (st := (n, some (bL, bw))) (all := all) (c := c) Hlong.out hlt)
    rw [hfn] at P1
    obtain ⟨cx, hcx⟩ : ∃ x, ((placeN s (lowZ cov) : Nat) : Int) % s.W = x := ⟨_, rfl⟩
    obtain ⟨cy, hcy⟩ : ∃ x, ((placeN s (lowZ cov) : Nat) : Int) / s.W % s.D = x := ⟨_, rfl⟩
    obtain ⟨cz, hcz⟩ : ∃ x, ((placeN s (lowZ cov) : Nat) : Int) / s.W / s.D = x := ⟨_, rfl⟩
    rw [hcx, hcy, hcz] at P1
    have HX := Lib.hid (fun (i : Nat) (t : Bool) => show laidN s (lowZ cov) i t = ⟨i, cx, cy, cz, t⟩ by
      unfold laidN Shape.px Shape.py Shape.pz
      rw [hcx, hcy, hcz])
    have HP := Lib.hid hP
    have Hlt := Lib.hid hlt
    have Hm := Lib.hid hm
    have Hs := Lib.hid hs
    have Hl := Lib.hid hl
    have Hc := Lib.hid hc
    have Hnil := Lib.hid hnil
    have Hih := Lib.hid ih
    have hln := hl.len
    unfold maxLen at hln
    have Hlen := Lib.hid (show c.length ≤ 16 from hl2)
    clear hz1 hz2 hz3 B1 B2 B3 E1 E2 E3 E f1 f2 hfn hfull hP hm hb hs hl hc hl1 hl2 ih p1 hcx hcy hcz hlt hnil
    go_enter Tryd.func42, Tryd.ntmps42
    go_wp2_with fail
    refine P1.mono ?_
    rintro e W4 ⟨rfl, E4⟩
    have HE4 := Lib.hid (HE.out.trans E4)
    have HB14 := Lib.hid (HB1.out.ext E4)
    have HB24 := Lib.hid (HB2.out.ext E4)
    have HB34 := Lib.hid (HB3.out.ext E4)
    have h21 := HB2'.out
    clear b1 b2 b3 hW1 hW2 hW3 P1 E4
    obtain ⟨S5, hS5⟩ : ∃ S, w.heap.size = S := ⟨_, rfl⟩
    obtain ⟨S8, hS8⟩ : ∃ S, W1.heap.size = S := ⟨_, rfl⟩
    obtain ⟨S10, hS10⟩ : ∃ S, W2.heap.size = S := ⟨_, rfl⟩
    rw [hS5] at HB14 ⊢
    rw [hS8] at HB24 h21 ⊢
    rw [hS10] at HB34 h21 ⊢
    have hwS : S5 < S8 := by have := HB1'.out; omega
    obtain ⟨W5, hW5, E5, B5, hz5⟩ := box_ W4 #[.int .i64 0, .int .i64 0, .int .i64 0] 56
    obtain ⟨T, hT⟩ : ∃ T, W4.heap.size = T := ⟨_, rfl⟩
    rw [hT] at B5
    have b5 := B5.cell
    have f5 := B5.frozen
    have l5 := B5.lt
    have h3T : S10 < T := by have := HB34.out.lt; omega
    obtain ⟨V5, hV5⟩ : ∃ V, ((W5.setCell ⟨T, 0, none⟩ (.int .i64 cx)).setCell ⟨T, 1, none⟩ (.int .i64 cy)).setCell ⟨T, 2, none⟩ (.int .i64 cz) = V := ⟨_, rfl⟩
    have EV : Ext W4 V5 := by
      rw [← hV5]
      exact ((E5.setCell (p := ⟨T, 0, none⟩) (Nat.le_of_eq hT) _).setCell (p := ⟨T, 1, none⟩) (Nat.le_of_eq hT) _).setCell (p := ⟨T, 2, none⟩) (Nat.le_of_eq hT) _
    have B5V := ((B5.set_ 0 (.int .i64 cx)).set_ 1 (.int .i64 cy)).set_ 2 (.int .i64 cz)
    rw [hV5] at B5V
    have R0 : LoopAt s l false m c all cov (n, some (bL, bw)) (some ba) w S5 S8 S10 T #[.int .i64 s.W, .int .i64 s.D, .int .i64 s.H, .slice A s.cells.length cap] #[.int .i64 cx, .int .i64 cy, .int .i64 cz] 0 V5 :=
      ⟨(bw : Int), some ba, bl, bc, HE4.out.trans EV, HB14.out.ext EV, HB24.out.ext EV, HB34.out.ext EV, B5V, HF.out.ext (HE4.out.trans EV), fun a ha => Or.inl ⟨ha, by cases ha; have := HBb.out; omega⟩⟩
    have HR0 := Lib.hid R0
    have HS := Lib.hid (show S5 < S8 ∧ S8 < S10 ∧ S10 < T from ⟨hwS, h21, h3T⟩)
    have HS5 := Lib.hid hS5
    clear B5V EV E5 B5 hz5 hwS h21 hS8 hS10 hS5 h3T R0
    go_upto_region 14 with (fail)
    clear hT b5 f5 l5 hW5 hV5
    go_loopw [14] (fun p wr => ∃ i : Nat, i ≤ l.length ∧ p = .int .i64 i ∧ LoopAt s l false m c all cov (n, some (bL, bw)) (some ba) w S5 S8 S10 T #[.int .i64 s.W, .int .i64 s.D, .int .i64 s.H, .slice A s.cells.length cap] #[.int .i64 cx, .int .i64 cy, .int .i64 cz] (2 * i) wr) (fun p _ => l.length - (intOf p).toNat)
    case atStart => exact ⟨0, by omega, rfl, HR0.out⟩
    case round =>
      obtain ⟨i, hi, rfl, HL⟩ := hrel
      replace HL := Lib.hid HL
      clear HR0
      by_cases hil : i < l.length
      · have i1 : (i : Int) < l.length := by omega
        go_upto_region 17 with (fail)
        go_loopw [15] (fun q wr => ∃ t : Nat, t ≤ 2 ∧ q = .int .i64 t ∧ LoopAt s l false m c all cov (n, some (bL, bw)) (some ba) w S5 S8 S10 T #[.int .i64 s.W, .int .i64 s.D, .int .i64 s.H, .slice A s.cells.length cap] #[.int .i64 cx, .int .i64 cy, .int .i64 cz] (2 * i + t) wr) (fun q _ => 2 - (intOf q).toNat)
        case atStart => exact ⟨0, by omega, rfl, HL.out⟩
        case round =>
          clear HL
          obtain ⟨t, ht, rfl, HL⟩ := hrel
          replace HL := Lib.hid HL
          by_cases htl : t < 2
          · obtain ⟨tb, rfl⟩ : ∃ tb : Bool, t = tb.toNat := by
              rcases Nat.lt_or_ge t 1 with h | h
              · exact ⟨false, by show t = 0; omega⟩
              · exact ⟨true, by show t = 1; omega⟩
            have htb : (((tb.toNat : Nat) : Int) == 1) = tb := by cases tb <;> rfl
            have hlt2 : ((tb.toNat : Nat) : Int) < 2 := by cases tb <;> decide
            have hst := growTo_succ (rLong false) (rSee s l false) s l (f := m) (c := c) (all := all) (cov := cov) (st := (n, some (bL, bw))) hil tb
            obtain ⟨ko, hk⟩ : ∃ ko, kidOk s l c cov i tb = ko := ⟨_, rfl⟩
            have hfit : fitsB s l c ⟨i, cx, cy, cz, tb⟩ = ko.isSome := by
              rw [← HX.out, fits_kid ok okl HP.out Hlt.out hil tb, hk]
            obtain ⟨wk, A', bn, bc, E6, X5, X8, X10, X11, F6, G6⟩ := HL.out
            obtain ⟨W7, hW7, E7, B7, hz7⟩ := box_ wr #[.int .i64 (i : Int), .int .i64 cx, .int .i64 cy, .int .i64 cz, .bool tb] 64
            have PF := fits_c s A cap l PA pcap c CA cc ⟨i, cx, cy, cz, tb⟩ ok okl (part_ok ok HP.out) (by have := Hlen.out; omega) W7 (Hs.out.ext (E6.trans E7)) (Hl.out.ext (E6.trans E7)) (Hc.out.ext (E6.trans E7))
            rw [hfit] at PF
            have c5 := (X5.ext E7).cell
            have c11 := X11.cell
            have c7 := B7.cell
            have Hst := Lib.hid hst
            have Hk := Lib.hid hk
            have HE7 := Lib.hid E7
            have HB7 := Lib.hid B7
            clear hst hk hfit E6 X5 X8 X10 X11 F6 G6 E7 B7 hz7
            cases ko with
            | none =>
              go_wp2_with fail
              refine PF.mono ?_
              rintro e W8 ⟨rfl, E8⟩
              replace E8 := Lib.hid E8
              go_wp2_with fail
              go_roundw
              case rel => exact ⟨tb.toNat + 1, by cases tb <;> decide, by cases tb <;> go_num, HL.out.stay (HE7.out.trans E8.out) (by
                rw [← Nat.add_assoc, Hst.out]
                unfold kidS
                simp only [Hk.out])⟩
              case measure => simp only [intOf]; cases tb <;> simp <;> omega
            | some m' =>
              go_wp2_with fail
              refine PF.mono ?_
              rintro e W8 ⟨rfl, E8⟩
              replace E8 := Lib.hid E8
              clear c5 c11 hW7 PF
              go_upto_region 21 with (fail)
              obtain ⟨wk2, A2, bn2, bc2, E6, X5, X8, X10, X11, F6, G6⟩ := HL.out
              have EE := HE7.out.trans E8.out
              obtain ⟨g, hg⟩ : ∃ g, growTo (rLong false) (rSee s l false) s l m c all cov (n, some (bL, bw)) (2 * i + tb.toNat) = g := ⟨_, rfl⟩
              rw [hg] at X8 F6
              obtain ⟨U, hU⟩ : ∃ U, W8.heap.size = U := ⟨_, rfl⟩
              have HKK := Lib.hid (show Keep21 W8 S5 S10 T wr.heap.size U _ _ _ g.2 wk2 A2 bn2 bc2 from ⟨X5.ext EE, X10.ext EE, X11.ext EE, HB7.out.ext E8.out, F6.ext EE, Nat.le_of_eq hU.symm⟩)
              have HBF := Lib.hid (X8.ext EE)
              have HEW8 := Lib.hid (E6.trans EE)
              have HU := Lib.hid hU
              have HUw := Lib.hid (show w.heap.size ≤ U by rw [← hU]; exact (E6.trans EE).size)
              have Hg := Lib.hid hg
              have HG6 := Lib.hid (show ∀ a, A2 = some a → (A2 = some a ∧ a.block < S5) ∨ T < a.block from fun a ha => by rcases G6 a ha with ⟨-, h⟩ | h; exact Or.inl ⟨ha, h⟩; exact Or.inr h)
              have HG6' := Lib.hid G6
              have HSU := Lib.hid (show T < U by have := X11.lt; have := EE.size; omega)
              obtain ⟨i9, hi9, hz9, hz91, hz92⟩ := info_parts infoLaid21
              have hk3 := (kidOk_some okl HP.out hil).1 Hk.out
              obtain ⟨hP2, hlt3⟩ := HP.out.add ok okl Hlt.out (i := i) (t := tb) hk3.1 hk3.2.1 hk3.2.2
              rw [HX.out] at hP2
              have HC := Lib.hid (fun (wx : World) (g7 c7 : Nat) (Ex : Ext w wx) (E8x : Ext W8 wx) (own : wx.ownsRow U 64 5 (.slice (some ⟨g7, 0, none⟩) (c.length + 1) c7) (c.length + 1) ((c.map Laid.cells).flatten ++ #[.int .i64 (i : Int), .int .i64 cx, .int .i64 cy, .int .i64 cz, .bool tb].toList)) =>
                show Calls Tryd.prog 42 #[.agg #[.int .i64 s.W, .int .i64 s.D, .int .i64 s.H, .slice A s.cells.length cap], .slice PA l.length pcap, .slice (some ⟨g7, 0, none⟩) (c.length + 1) c7, .agg #[.int .i64 g.1, .int .i64 wk2, .slice A2 bn2 bc2], .bool false] wx (RPost A2 (rGrow s l false m g (c ++ [⟨i, cx, cy, cz, tb⟩]) (all ++ [m']) (cov ||| m')) wx) by
                  have hrow : ((c ++ [(⟨i, cx, cy, cz, tb⟩ : Laid)]).map Laid.cells).flatten = (c.map Laid.cells).flatten ++ #[.int .i64 (i : Int), .int .i64 cx, .int .i64 cy, .int .i64 cz, .bool tb].toList := by simp [Laid.cells]
                  have hn : (c ++ [(⟨i, cx, cy, cz, tb⟩ : Laid)]).length = c.length + 1 := by simp
                  rw [← hrow] at own
                  have hL : Laids wx (some ⟨g7, 0, none⟩) c7 (c ++ [⟨i, cx, cy, cz, tb⟩]) := by
                    unfold Laids
                    rw [hn]
                    exact own_any (by decide) (fun r hr => by obtain ⟨x, _, rfl⟩ := List.mem_map.1 hr; rfl) (by rw [List.length_map, hn]) own
                  have CC := Hih.out (c ++ [⟨i, cx, cy, cz, tb⟩]) (all ++ [m']) (cov ||| m') (some ⟨g7, 0, none⟩) c7 g.1 g.2 wk2 A2 bn2 bc2 wx hP2 (by have := Hm.out; omega) (nofun) (Hs.out.ext Ex) (Hl.out.ext Ex) hL (nofun) (HKK.out.fa.ext E8x)
                  rw [hn] at CC
                  exact CC)
              clear E6 X5 X8 X10 X11 F6 G6 EE hg hU c7 hk3 hP2 hlt3
              refine wp_region_by (Rk w W8 U (.slice PA l.length pcap) (.slice CA c.length cc) false c.length (c.map Laid.cells) #[.int .i64 s.W, .int .i64 s.D, .int .i64 s.H, .slice A s.cells.length cap] #[.int .i64 g.1, .int .i64 wk2, .slice A2 bn2 bc2] #[.int .i64 (i : Int), .int .i64 cx, .int .i64 cy, .int .i64 cz, .bool tb] (rGrow s l false m g (c ++ [⟨i, cx, cy, cz, tb⟩]) (all ++ [m']) (cov ||| m')) A2
                (DoneAt w S5 S8 S10 T U #[.int .i64 s.W, .int .i64 s.D, .int .i64 s.H, .slice A s.cells.length cap] #[.int .i64 cx, .int .i64 cy, .int .i64 cz] (rGrow s l false m g (c ++ [⟨i, cx, cy, cz, tb⟩]) (all ++ [m']) (cov ||| m')) A2)) (by kernel_rfl) (by kernel_rfl) (by kernel_rfl) (fun us => ⟨HEW8.out.drew, (nofun), (nofun), (nofun), (nofun), (nofun), (fun _ => (Ext.refl _).drew), (nofun), (nofun), (nofun), (nofun), (nofun), (nofun), (nofun), (nofun), (nofun), (nofun)⟩) ⟨?_, ?_, ?_, ?_, ?_, ?_, ?_, ?_, ?_, ?_, ?_, ?_, trivial⟩ ?_
              · intro L us wx K a ha hp hd hun hI hK
                have HX := hI.x
                have h11 : L 11 = false := Bool.eq_false_iff.2 fun hl => absurd (hd 11 0 hl (by kernel_rfl)) (by rw [hun]; decide)
                have bb := (HKK.out.x5.ext (hI.g7 h11)).cell
                clear hp HX
                replace hd := Lib.hid hd
                simp only [putAll, Act.put, List.setIfInBounds_toArray, List.set_cons_succ, List.set_cons_zero, Nat.reduceAdd] at ha
                subst ha
                simp only [Act.put, List.setIfInBounds_toArray, List.set_cons_succ, List.set_cons_zero] at hK
                go_simp
                refine hK _ _ ?_
                first
                | (refine ⟨hI.x, hI.g1, hI.g2, hI.g3, hI.g4, hI.g6, hI.g7, hI.g8, ?_, hI.f1, hI.f3, hI.f5, hI.f6, hI.f7, hI.f8, hI.f9, hI.f10⟩ <;> (first | exact fun _ => rfl | skip))
                | (refine ⟨?_, ?_, ?_, ?_, ?_, ?_, ?_, ?_, ?_, ?_, ?_, ?_, ?_, ?_, ?_, ?_, ?_⟩ <;> (first | exact hI.x | exact hI.g1 | exact hI.g2 | exact hI.g3 | exact hI.g4 | exact hI.g6 | exact hI.g7 | exact hI.g8 | exact hI.f0 | exact hI.f1 | exact hI.f3 | exact hI.f5 | exact hI.f6 | exact hI.f7 | exact hI.f8 | exact hI.f9 | exact hI.f10 | exact fun _ => rfl | skip))
              · intro L us wx K a ha hp hd hun hI hK
                have HX := hI.x
                clear hp HX
                replace hd := Lib.hid hd
                simp only [putAll, Act.put, List.setIfInBounds_toArray, List.set_cons_succ, List.set_cons_zero, Nat.reduceAdd] at ha
                subst ha
                simp only [Act.put, List.setIfInBounds_toArray, List.set_cons_succ, List.set_cons_zero] at hK
                go_simp
                refine hK _ _ ?_
                first
                | (refine ⟨hI.x, hI.g1, hI.g2, hI.g3, hI.g4, hI.g6, hI.g7, hI.g8, hI.f0, ?_, hI.f3, hI.f5, hI.f6, hI.f7, hI.f8, hI.f9, hI.f10⟩ <;> (first | exact fun _ => rfl | skip))
                | (refine ⟨?_, ?_, ?_, ?_, ?_, ?_, ?_, ?_, ?_, ?_, ?_, ?_, ?_, ?_, ?_, ?_, ?_⟩ <;> (first | exact hI.x | exact hI.g1 | exact hI.g2 | exact hI.g3 | exact hI.g4 | exact hI.g6 | exact hI.g7 | exact hI.g8 | exact hI.f0 | exact hI.f1 | exact hI.f3 | exact hI.f5 | exact hI.f6 | exact hI.f7 | exact hI.f8 | exact hI.f9 | exact hI.f10 | exact fun _ => rfl | skip))
              · intro L us wx K a ha hp hd hun hI hK
                have h4 : L 4 = false := Bool.eq_false_iff.2 fun hl => absurd (hd 4 2 hl (by kernel_rfl)) (by rw [hun]; decide)
                have h7 : L 7 = false := Bool.eq_false_iff.2 fun hl => absurd (hd 7 4 hl (by kernel_rfl)) (by rw [h4]; decide)
                have h10 : L 10 = false := Bool.eq_false_iff.2 fun hl => absurd (hd 10 7 hl (by kernel_rfl)) (by rw [h7]; decide)
                have h11 : L 11 = false := Bool.eq_false_iff.2 fun hl => absurd (hd 11 10 hl (by kernel_rfl)) (by rw [h10]; decide)
                have hX8 := hI.g7 h11
                have hUx : U ≤ wx.heap.size := by have := hX8.size; have := HU.out; omega
                have er := empty_laid wx
                have EW : Ext wx (wx.alloc (.cells #[] 64)) := (Ext.refl wx).alloc _
                replace hd := Lib.hid hd
                simp only [putAll, Act.put, List.setIfInBounds_toArray, List.set_cons_succ, List.set_cons_zero, Nat.reduceAdd] at ha
                subst ha
                simp only [Act.put, List.setIfInBounds_toArray, List.set_cons_succ, List.set_cons_zero] at hK
                go_simp
                exact hK _ _ ⟨hI.x.trans EW, (fun _ _ => own_empty21 wx hUx _ _), (fun h => absurd (show L 4 = true from h) (by rw [h4]; decide)), (fun h h2 => (hI.g3 h h2).ext EW), (fun _ h6 _ e => by have h9 := (hI.g3 h6 h7).lt; have e2 : some wx.heap.size = some (bk (us 6)) := e; have e3 := Option.some.inj e2; omega), (fun h => absurd (show L 7 = true from h) (by rw [h7]; decide)), (fun h => (hI.g7 h).trans EW), (fun h => absurd (show L 11 = true from h) (by rw [h11]; decide)), hI.f0, hI.f1, hI.f3, hI.f5, hI.f6, hI.f7, hI.f8, hI.f9, (fun h => absurd (show L 10 = true from h) (by rw [h10]; decide))⟩
              · intro L us wx K a ha hp hd hun hI hK
                have HX := hI.x
                clear hp HX
                replace hd := Lib.hid hd
                simp only [putAll, Act.put, List.setIfInBounds_toArray, List.set_cons_succ, List.set_cons_zero, Nat.reduceAdd] at ha
                subst ha
                simp only [Act.put, List.setIfInBounds_toArray, List.set_cons_succ, List.set_cons_zero] at hK
                go_simp
                refine hK _ _ ?_
                first
                | (refine ⟨hI.x, hI.g1, hI.g2, hI.g3, hI.g4, hI.g6, hI.g7, hI.g8, hI.f0, hI.f1, ?_, hI.f5, hI.f6, hI.f7, hI.f8, hI.f9, hI.f10⟩ <;> (first | exact fun _ => rfl | skip))
                | (refine ⟨?_, ?_, ?_, ?_, ?_, ?_, ?_, ?_, ?_, ?_, ?_, ?_, ?_, ?_, ?_, ?_, ?_⟩ <;> (first | exact hI.x | exact hI.g1 | exact hI.g2 | exact hI.g3 | exact hI.g4 | exact hI.g6 | exact hI.g7 | exact hI.g8 | exact hI.f0 | exact hI.f1 | exact hI.f3 | exact hI.f5 | exact hI.f6 | exact hI.f7 | exact hI.f8 | exact hI.f9 | exact hI.f10 | exact fun _ => rfl | skip))
              · intro L us wx K a ha hp hd hun hI hK
                have h2 := hp 2 (by kernel_rfl)
                have u3 := hI.f3 (hp 3 (by kernel_rfl))
                have h7 : L 7 = false := Bool.eq_false_iff.2 fun hl => absurd (hd 7 4 hl (by kernel_rfl)) (by rw [hun]; decide)
                have h10 : L 10 = false := Bool.eq_false_iff.2 fun hl => absurd (hd 10 7 hl (by kernel_rfl)) (by rw [h7]; decide)
                have h11 : L 11 = false := Bool.eq_false_iff.2 fun hl => absurd (hd 11 10 hl (by kernel_rfl)) (by rw [h10]; decide)
                have own := hI.g1 h2 hun
                have hne := fun h6 => hI.g4 h2 h6 hun
                have hS := Hc.out.ext hI.x
                have hX8 := hI.g7 h11
                have hUx : U ≤ wx.heap.size := by have := hX8.size; have := HU.out; omega
                obtain ⟨v0, hv0⟩ : ∃ v, us 2 = v := ⟨_, rfl⟩
                rw [hv0] at own hne
                replace hd := Lib.hid hd
                simp only [putAll, Act.put, List.setIfInBounds_toArray, List.set_cons_succ, List.set_cons_zero, Nat.reduceAdd, hv0, u3] at ha
                subst ha
                simp only [Act.put, List.setIfInBounds_toArray, List.set_cons_succ, List.set_cons_zero] at hK
                refine step_append_any rfl (.tmp 113) (.tmp 114) 27 rfl U 64 i9 _ 5 40 Tryd.underlying27 hi9 hz9 hz91 hz92 rfl (by decide) v0 0 [] rfl own CA c.length cc (c.map Laid.cells) rfl hS Hnil.out (lds21 c) (by unfold maxLen; have := Hlen.out; omega) (by have := Hlen.out; omega) hUx ?_
                intro v2 w2 own2 hg2
                rw [Nat.zero_add, List.nil_append] at own2
                have hfar : ∀ k, v0.ownBlock = some k → U ≤ k := fun k hk => (own.lt k hk).1
                exact hK _ _ ⟨hI.x.grown hg2 (fun k hk => Nat.le_trans HUw.out (hfar k hk)), (fun _ h => nomatch (show true = false from h)), (fun _ _ => own2), (fun h h2 => (hI.g3 h h2).grown hg2 (fun e => hne h e.symm)), (fun _ _ h => nomatch (show true = false from h)), (fun h => absurd (show L 7 = true from h) (by rw [h7]; decide)), (fun h => (hI.g7 h).grown hg2 (fun k hk => by have := hfar k hk; have := HU.out; omega)), (fun h => absurd (show L 11 = true from h) (by rw [h11]; decide)), hI.f0, hI.f1, hI.f3, hI.f5, hI.f6, hI.f7, hI.f8, hI.f9, (fun h => absurd (show L 10 = true from h) (by rw [h10]; decide))⟩
              · intro L us wx K a ha hp hd hun hI hK
                have HX := hI.x
                have h11 : L 11 = false := Bool.eq_false_iff.2 fun hl => absurd (hd 11 5 hl (by kernel_rfl)) (by rw [hun]; decide)
                have bb := (HKK.out.x7.ext (hI.g7 h11)).cell
                clear hp HX
                replace hd := Lib.hid hd
                simp only [putAll, Act.put, List.setIfInBounds_toArray, List.set_cons_succ, List.set_cons_zero, Nat.reduceAdd] at ha
                subst ha
                simp only [Act.put, List.setIfInBounds_toArray, List.set_cons_succ, List.set_cons_zero] at hK
                go_simp
                refine hK _ _ ?_
                first
                | (refine ⟨hI.x, hI.g1, hI.g2, hI.g3, hI.g4, hI.g6, hI.g7, hI.g8, hI.f0, hI.f1, hI.f3, ?_, hI.f6, hI.f7, hI.f8, hI.f9, hI.f10⟩ <;> (first | exact fun _ => rfl | skip))
                | (refine ⟨?_, ?_, ?_, ?_, ?_, ?_, ?_, ?_, ?_, ?_, ?_, ?_, ?_, ?_, ?_, ?_, ?_⟩ <;> (first | exact hI.x | exact hI.g1 | exact hI.g2 | exact hI.g3 | exact hI.g4 | exact hI.g6 | exact hI.g7 | exact hI.g8 | exact hI.f0 | exact hI.f1 | exact hI.f3 | exact hI.f5 | exact hI.f6 | exact hI.f7 | exact hI.f8 | exact hI.f9 | exact hI.f10 | exact fun _ => rfl | skip))
              · intro L us wx K a ha hp hd hun hI hK
                have u5 := hI.f5 (hp 5 (by kernel_rfl))
                have h7 : L 7 = false := Bool.eq_false_iff.2 fun hl => absurd (hd 7 6 hl (by kernel_rfl)) (by rw [hun]; decide)
                have h10 : L 10 = false := Bool.eq_false_iff.2 fun hl => absurd (hd 10 7 hl (by kernel_rfl)) (by rw [h7]; decide)
                have h11 : L 11 = false := Bool.eq_false_iff.2 fun hl => absurd (hd 11 10 hl (by kernel_rfl)) (by rw [h10]; decide)
                replace hd := Lib.hid hd
                simp only [putAll, Act.put, List.setIfInBounds_toArray, List.set_cons_succ, List.set_cons_zero, Nat.reduceAdd, u5] at ha
                subst ha
                simp only [Act.put, List.setIfInBounds_toArray, List.set_cons_succ, List.set_cons_zero] at hK
                go_simp
                have EW : Ext wx (wx.alloc (.cells #[.int .i64 (i : Int), .int .i64 cx, .int .i64 cy, .int .i64 cz, .bool tb] 64)) := (Ext.refl wx).alloc _
                exact hK _ _ ⟨hI.x.trans EW, (fun h h2 => own_ext (hI.g1 h h2) EW), (fun h h2 => own_ext (hI.g2 h h2) EW), (fun _ _ => Blk.new _ _ _), (fun h0 _ h3 e => by have := ((hI.g1 h0 h3).lt _ e).2; exact absurd this (Nat.lt_irrefl _)), (fun h => absurd (show L 7 = true from h) (by rw [h7]; decide)), (fun h => (hI.g7 h).trans EW), (fun h => absurd (show L 11 = true from h) (by rw [h11]; decide)), hI.f0, hI.f1, hI.f3, hI.f5, (fun _ => rfl), hI.f7, hI.f8, hI.f9, (fun h => absurd (show L 10 = true from h) (by rw [h10]; decide))⟩
              · intro L us wx K a ha hp hd hun hI hK
                have h4 := hp 4 (by kernel_rfl)
                have h6 := hp 6 (by kernel_rfl)
                have u6 := hI.f6 h6
                have own := hI.g2 h4 hun
                have hb := hI.g3 h6 hun
                have h10 : L 10 = false := Bool.eq_false_iff.2 fun hl => absurd (hd 10 7 hl (by kernel_rfl)) (by rw [hun]; decide)
                have h11 : L 11 = false := Bool.eq_false_iff.2 fun hl => absurd (hd 11 10 hl (by kernel_rfl)) (by rw [h10]; decide)
                have hX8 := hI.g7 h11
                have hUx : U ≤ wx.heap.size := by have := hX8.size; have := HU.out; omega
                obtain ⟨g6, hg6⟩ : ∃ g, bk (us 6) = g := ⟨_, rfl⟩
                rw [hg6] at u6 hb
                obtain ⟨v4, hv4⟩ : ∃ v, us 4 = v := ⟨_, rfl⟩
                rw [hv4] at own
                have hS : SliceIs wx (some ⟨g6, 0, none⟩) 1 1 5 [Laid.cells ⟨i, cx, cy, cz, tb⟩] := (rowX21 (rows := [Laid.cells ⟨i, cx, cy, cz, tb⟩]) hb).slice (fun r hr => by rw [List.mem_singleton] at hr; subst hr; rfl) rfl (Nat.le_refl _) (by unfold maxLen; omega)
                replace hd := Lib.hid hd
                simp only [putAll, Act.put, List.setIfInBounds_toArray, List.set_cons_succ, List.set_cons_zero, Nat.reduceAdd, hv4, u6] at ha
                subst ha
                simp only [Act.put, List.setIfInBounds_toArray, List.set_cons_succ, List.set_cons_zero] at hK
                refine step_append_any rfl (.tmp 115) (.tmp 117) 27 rfl U 64 i9 _ 5 40 Tryd.underlying27 hi9 hz9 hz91 hz92 rfl (by decide) v4 c.length (c.map Laid.cells).flatten rfl own (some ⟨g6, 0, none⟩) 1 1 [Laid.cells ⟨i, cx, cy, cz, tb⟩] rfl hS (nofun) (fun u hu => ?_) (by unfold maxLen; have := Hlen.out; omega) (by have := Hlen.out; omega) hUx ?_
                · simp only [List.flatten_cons, List.flatten_nil, List.append_nil, Laid.cells, List.mem_cons, List.not_mem_nil, or_false] at hu
                  rcases hu with rfl | rfl | rfl | rfl | rfl <;> rfl
                · intro v2 w2 own2 hg2
                  have hfar : ∀ k, v4.ownBlock = some k → U ≤ k := fun k hk => (own.lt k hk).1
                  obtain ⟨g7, c7, hv7⟩ : ∃ g cp, v2 = .slice (some ⟨g, 0, none⟩) (c.length + 1) cp := by
                    rcases own2.2 with ⟨-, h0⟩ | ⟨g, cap, cur, hv, -⟩
                    · omega
                    · exact ⟨g, cap, hv⟩
                  subst hv7
                  exact hK _ _ ⟨hI.x.grown hg2 (fun k hk => Nat.le_trans HUw.out (hfar k hk)), (fun _ h => absurd (show L 4 = false from h) (by rw [h4]; decide)), (fun _ h => nomatch (show true = false from h)), (fun _ h => nomatch (show true = false from h)), (fun _ _ h => absurd (show L 4 = false from h) (by rw [h4]; decide)), (fun _ _ => own2), (fun h => (hI.g7 h).grown hg2 (fun k hk => by have := hfar k hk; have := HU.out; omega)), (fun h => absurd (show L 11 = true from h) (by rw [h11]; decide)), hI.f0, hI.f1, hI.f3, hI.f5, hI.f6, (fun _ => rfl), hI.f8, hI.f9, (fun h => absurd (show L 10 = true from h) (by rw [h10]; decide))⟩
              · intro L us wx K a ha hp hd hun hI hK
                have HX := hI.x
                have h11 : L 11 = false := Bool.eq_false_iff.2 fun hl => absurd (hd 11 8 hl (by kernel_rfl)) (by rw [hun]; decide)
                have bb := (HBF.out.ext (hI.g7 h11)).cell
                clear hp HX
                replace hd := Lib.hid hd
                simp only [putAll, Act.put, List.setIfInBounds_toArray, List.set_cons_succ, List.set_cons_zero, Nat.reduceAdd] at ha
                subst ha
                simp only [Act.put, List.setIfInBounds_toArray, List.set_cons_succ, List.set_cons_zero] at hK
                go_simp
                refine hK _ _ ?_
                first
                | (refine ⟨hI.x, hI.g1, hI.g2, hI.g3, hI.g4, hI.g6, hI.g7, hI.g8, hI.f0, hI.f1, hI.f3, hI.f5, hI.f6, hI.f7, ?_, hI.f9, hI.f10⟩ <;> (first | exact fun _ => rfl | skip))
                | (refine ⟨?_, ?_, ?_, ?_, ?_, ?_, ?_, ?_, ?_, ?_, ?_, ?_, ?_, ?_, ?_, ?_, ?_⟩ <;> (first | exact hI.x | exact hI.g1 | exact hI.g2 | exact hI.g3 | exact hI.g4 | exact hI.g6 | exact hI.g7 | exact hI.g8 | exact hI.f0 | exact hI.f1 | exact hI.f3 | exact hI.f5 | exact hI.f6 | exact hI.f7 | exact hI.f8 | exact hI.f9 | exact hI.f10 | exact fun _ => rfl | skip))
              · intro L us wx K a ha hp hd hun hI hK
                have HX := hI.x
                clear hp HX
                replace hd := Lib.hid hd
                simp only [putAll, Act.put, List.setIfInBounds_toArray, List.set_cons_succ, List.set_cons_zero, Nat.reduceAdd] at ha
                subst ha
                simp only [Act.put, List.setIfInBounds_toArray, List.set_cons_succ, List.set_cons_zero] at hK
                go_simp
                refine hK _ _ ?_
                first
                | (refine ⟨hI.x, hI.g1, hI.g2, hI.g3, hI.g4, hI.g6, hI.g7, hI.g8, hI.f0, hI.f1, hI.f3, hI.f5, hI.f6, hI.f7, hI.f8, ?_, hI.f10⟩ <;> (first | exact fun _ => rfl | skip))
                | (refine ⟨?_, ?_, ?_, ?_, ?_, ?_, ?_, ?_, ?_, ?_, ?_, ?_, ?_, ?_, ?_, ?_, ?_⟩ <;> (first | exact hI.x | exact hI.g1 | exact hI.g2 | exact hI.g3 | exact hI.g4 | exact hI.g6 | exact hI.g7 | exact hI.g8 | exact hI.f0 | exact hI.f1 | exact hI.f3 | exact hI.f5 | exact hI.f6 | exact hI.f7 | exact hI.f8 | exact hI.f9 | exact hI.f10 | exact fun _ => rfl | skip))
              · intro L us wx K a ha hp hd hun hI hK
                have h7 := hp 7 (by kernel_rfl)
                have u0 := hI.f0 (hp 0 (by kernel_rfl))
                have u1 := hI.f1 (hp 1 (by kernel_rfl))
                have u7 := hI.f7 h7
                have u8 := hI.f8 (hp 8 (by kernel_rfl))
                have u9 := hI.f9 (hp 9 (by kernel_rfl))
                have h11 : L 11 = false := Bool.eq_false_iff.2 fun hl => absurd (hd 11 10 hl (by kernel_rfl)) (by rw [hun]; decide)
                have own := hI.g6 h7 h11
                have hX8 := hI.g7 h11
                obtain ⟨g7, hg7⟩ : ∃ g, bk (us 7) = g := ⟨_, rfl⟩
                obtain ⟨c7, hc7⟩ : ∃ g, cpOf (us 7) = g := ⟨_, rfl⟩
                rw [hg7, hc7] at u7
                rw [u7] at own
                have CC := HC.out wx g7 c7 hI.x hX8 own
                replace hd := Lib.hid hd
                simp only [putAll, Act.put, List.setIfInBounds_toArray, List.set_cons_succ, List.set_cons_zero, Nat.reduceAdd, u0, u1, u7, u8, u9] at ha
                subst ha
                simp only [Act.put, List.setIfInBounds_toArray, List.set_cons_succ, List.set_cons_zero] at hK
                replace hU7 := Lib.hid u7
                clear u0 u1 u7 u8 u9 hg7 hc7
                go_simp
                go_at_call 42
                refine CC.mono ?_
                rintro e wn ⟨wk3, A3, bn3, bc3, rfl, F3, S3, En⟩
                go_simp
                exact hK _ _ ⟨hI.x.trans En, (fun h h2 => own_ext (hI.g1 h h2) En), (fun h h2 => own_ext (hI.g2 h h2) En), (fun h h2 => (hI.g3 h h2).ext En), hI.g4, (fun h h2 => own_ext (hI.g6 h h2) En), (fun h => (hI.g7 h).trans En), (fun h => absurd (show L 11 = true from h) (by rw [h11]; decide)), hI.f0, hI.f1, hI.f3, hI.f5, hI.f6, hI.f7, hI.f8, hI.f9, (fun _ _ => ⟨wk3, A3, bn3, bc3, rfl, F3, fun a ha => (S3 a ha).imp_right fun h => by have := hX8.size; have := HU.out; omega⟩)⟩
              · intro L us wx K a ha hp hd hun hI hK
                have h10 := hp 10 (by kernel_rfl)
                obtain ⟨wk3, A3, bn3, bc3, u10, F3, S3⟩ := hI.f10 h10 hun
                have hX8 := hI.g7 hun
                have hS := HS.out
                have hS5 := HS5.out
                obtain ⟨r, hr⟩ : ∃ r, rGrow s l false m g (c ++ [⟨i, cx, cy, cz, tb⟩]) (all ++ [m']) (cov ||| m') = r := ⟨_, rfl⟩
                rw [hr] at u10 F3
                have DD := done21 (S5 := S5) (S8 := S8) (S10 := S10) (S11 := T) hI.x hX8 HKK.out HBF.out hS hS5 HSU.out F3 S3 HG6.out
                have b8 := (HBF.out.ext hX8).cell
                have f8 := (HBF.out.ext hX8).frozen
                have l8 := (HBF.out.ext hX8).lt
                have h7 := hd 10 7 h10 (by kernel_rfl)
                have h4 := hd 7 4 h7 (by kernel_rfl)
                replace hr := Lib.hid hr
                replace hd := Lib.hid hd
                simp only [putAll, Act.put, List.setIfInBounds_toArray, List.set_cons_succ, List.set_cons_zero, Nat.reduceAdd, u10] at ha
                subst ha
                simp only [Act.put] at hK
                have U10 := Lib.hid u10
                clear u10
                go_simp
                exact hK undef _ ⟨DD.2, (fun _ h => absurd (show L 4 = false from h) (by rw [h4]; decide)), (fun _ h => absurd (show L 7 = false from h) (by rw [h7]; decide)), (fun _ h => absurd (show L 7 = false from h) (by rw [h7]; decide)), (fun _ _ h => absurd (show L 4 = false from h) (by rw [h4]; decide)), (fun _ h => nomatch (show true = false from h)), (fun h => nomatch (show true = false from h)), (fun _ => by rw [hr.out]; show DoneAt _ _ _ _ _ _ _ _ _ _ _ (us 10); rw [U10.out]; exact DD.1), hI.f0, hI.f1, hI.f3, hI.f5, hI.f6, hI.f7, hI.f8, hI.f9, (fun _ h => nomatch (show true = false from h))⟩
              intro L us W9 hall hI
              obtain ⟨wk4, A4, bn4, bc4, u10, E9, Y5, Y8, Y10, Y11, F4, S4⟩ := hI.g8 (hall 11 (by simp))
              have hstep : growTo (rLong false) (rSee s l false) s l m c all cov (n, some (bL, bw)) (2 * i + tb.toNat + 1) = rGrow s l false m g (c ++ [⟨i, cx, cy, cz, tb⟩]) (all ++ [m']) (cov ||| m') := by
                rw [Hst.out, Hg.out]
                unfold kidS
                simp only [Hk.out, HX.out]
                rfl
              have hnext : LoopAt s l false m c all cov (n, some (bL, bw)) (some ba) w S5 S8 S10 T #[.int .i64 s.W, .int .i64 s.D, .int .i64 s.H, .slice A s.cells.length cap] #[.int .i64 cx, .int .i64 cy, .int .i64 cz] (2 * i + (tb.toNat + 1)) W9 := by
                rw [← Nat.add_assoc]
                unfold LoopAt
                rw [hstep]
                refine ⟨wk4, A4, bn4, bc4, E9, Y5, Y8, Y10, Y11, F4, fun a ha => ?_⟩
                rcases S4 a ha with h | h
                · exact HG6'.out a h
                · right
                  have := HSU.out
                  omega
              have Hnext := Lib.hid hnext
              clear hnext hstep Y5 Y8 Y10 Y11 F4 S4 E9 u10 hall hI
              simp only [putAll, Act.put, List.setIfInBounds_toArray, List.set_cons_succ, List.set_cons_zero, Nat.reduceAdd]
              go_wp2_with fail
              go_roundw
              case rel => exact ⟨tb.toNat + 1, by cases tb <;> decide, by cases tb <;> go_num, Hnext.out⟩
              case measure => simp only [intOf]; cases tb <;> simp <;> omega
          · obtain rfl : t = 2 := by omega
            go_wp2_with fail
            go_roundw
            case rel => exact ⟨i + 1, by omega, by go_num, HL.out⟩
            case measure => simp only [intOf]; omega
      · obtain rfl : i = l.length := by omega
        obtain ⟨wk, A', bn, bc, E6, X5, X8, X10, X11, F6, G6⟩ := HL.out
        rw [← Hr.out] at X8 F6
        obtain ⟨g, hg⟩ : ∃ g, rGrow s l false (m + 1) (n, some (bL, bw)) c all cov = g := ⟨_, rfl⟩
        rw [hg] at X8 F6
        obtain ⟨g1, g2⟩ := g
        have Hg := Lib.hid hg
        simp only at X8 F6
        have b8 := X8.cell
        have b10 := X10.cell
        have f10 := X10.frozen
        have l10 := X10.lt
        have BX := ((X10.set_ 0 (.int .i64 g1)).set_ 1 (.int .i64 wk)).set_ 2 (.slice A' bn bc)
        have bx0 := Lib.hid (BX.cell 0)
        have bx1 := Lib.hid (BX.cell 1)
        have bx2 := Lib.hid (BX.cell 2)
        have hS := HS.out
        have hS5 := HS5.out
        have hfar : ∀ a, A' = some a → a.block ≠ S10 := fun a ha => by rcases G6 a ha with ⟨-, h⟩ | h <;> omega
        have F9 := ((F6.far (p := ⟨S10, 0, none⟩) hfar (.int .i64 g1)).far (p := ⟨S10, 1, none⟩) hfar (.int .i64 wk)).far (p := ⟨S10, 2, none⟩) hfar (.slice A' bn bc)
        have E9 := ((E6.setCell (p := ⟨S10, 0, none⟩) (by simp only; omega) (.int .i64 g1)).setCell (p := ⟨S10, 1, none⟩) (by simp only; omega) (.int .i64 wk)).setCell (p := ⟨S10, 2, none⟩) (by simp only; omega) (.slice A' bn bc)
        have HF9 := Lib.hid F9
        have HE9 := Lib.hid E9
        have HG6 := Lib.hid G6
        clear BX F9 E9 F6 G6 X5 X8 X10 X11 E6 hg hfar hS hS5
        go_wp2_with fail
        refine bodyPost_ret (by simp [results, Tryd.results42, go_sem, bx0.out, bx1.out, bx2.out]; try rfl) rfl ?_
        rw [Hg.out]
        refine ⟨wk, A', bn, bc, rfl, HF9.out, fun a ha => ?_, HE9.out⟩
        rcases HG6.out a ha with ⟨h, -⟩ | h
        · exact Or.inl h
        · right
          have := HS.out
          have := HS5.out
          omega
set_option maxRecDepth 100000 in
set_option maxHeartbeats 8000000 in
theorem rs_some_long (s : Shape) (A : Option Addr) (cap : Nat) (l : List Plate) (PA : Option Addr) (pcap : Nat) (m : Nat) (c : List Laid) (all : List Nat) (cov : Nat) (CA : Option Addr) (cc : Nat) (n : Int) (bL : List Laid) (bw bl : Nat) (hbl : bL.length = bl) (ba : Addr) (bc : Nat) (w : World) (_hlen : c.length ≤ 100) (hF : FoundAt w (some (bL, bw)) (bw : Int) (some ba) bl bc) (hnl : bl < c.length) :
    Calls Tryd.prog 42 #[.agg #[.int .i64 s.W, .int .i64 s.D, .int .i64 s.H, .slice A s.cells.length cap], .slice PA l.length pcap, .slice CA c.length cc, .agg #[.int .i64 n, .int .i64 (bw : Int), .slice (some ba) bl bc], .bool false] w (RPost (some ba) (rGrow s l false (m + 1) (n, some (bL, bw)) c all cov) w) := by
  have HF := Lib.hid hF
  have HBb := Lib.hid (show ba.block < w.heap.size by obtain ⟨⟨a, h1, h2⟩, -⟩ := hF; cases h1; exact h2)
  have Hr := Lib.hid (rGrow_long (s := s) (l := l) (cnt := false) (f := m) (c := c) (all := all) (cov := cov) (st := (n, some (bL, bw))) (by show decide (bL.length < c.length) = true; rw [hbl]; exact decide_eq_true hnl))
  have gl : decide (bl < c.length) = true := decide_eq_true hnl
  clear hF hbl
  obtain ⟨W1, hW1, E1, B1, hz1⟩ := box_ w #[.int .i64 s.W, .int .i64 s.D, .int .i64 s.H, .slice A s.cells.length cap] 24
  obtain ⟨W2, hW2, E2, B2, hz2⟩ := box_ W1 #[.int .i64 n, .int .i64 (bw : Int), .slice (some ba) bl bc] 95
  obtain ⟨W3, hW3, E3, B3, hz3⟩ := box_ W2 #[.int .i64 0, .int .i64 0, .slice none 0 0] 95
  have b1 := ((B1.ext E2).ext E3).cell
  have b2 := (B2.ext E3).cell
  have b3 := B3.cell
  have E := (E1.trans E2).trans E3
  have HB1 := Lib.hid ((B1.ext E2).ext E3)
  have HB2 := Lib.hid (B2.ext E3)
  have HB3 := Lib.hid B3
  have HE := Lib.hid E
  have HE1 := Lib.hid E1
  have HB2' := Lib.hid B2.lt
  have HB1' := Lib.hid B1.lt
  have f3 := B3.frozen
  have l3 := B3.lt
  have h21 := B2.lt
  have BX := ((B3.set_ 0 (.int .i64 n)).set_ 1 (.int .i64 (bw : Int))).set_ 2 (.slice (some ba) bl bc)
  have bx0 := Lib.hid (BX.cell 0)
  have bx1 := Lib.hid (BX.cell 1)
  have bx2 := Lib.hid (BX.cell 2)
  clear BX B1 B2 B3 hz1 hz2 hz3 E1 E2 E3 E
  go_enter Tryd.func42, Tryd.ntmps42
  go_wp2_with fail
  refine bodyPost_ret (by simp [results, Tryd.results42, go_sem, bx0.out, bx1.out, bx2.out]; try rfl) rfl ?_
  have q10 : w.heap.size ≤ W2.heap.size := by have := HE1.out.size; have := HB2'.out; omega
  rw [Hr.out]
  exact ⟨_, _, _, _, rfl, (((HF.out.ext HE.out).far (p := ⟨W2.heap.size, 0, none⟩) (fun a ha => by cases ha; have := HBb.out; simp only; omega) _).far (p := ⟨W2.heap.size, 1, none⟩) (fun a ha => by cases ha; have := HBb.out; simp only; omega) _).far (p := ⟨W2.heap.size, 2, none⟩) (fun a ha => by cases ha; have := HBb.out; simp only; omega) _, fun a ha => Or.inl ha, ((HE.out.setCell q10 _).setCell q10 _).setCell q10 _⟩
theorem rs_false (s : Shape) (A : Option Addr) (cap : Nat) (l : List Plate) (PA : Option Addr) (pcap : Nat) (ok : s.Ok) (okl : platesB l = true) (m : Nat) (ih : RS s A cap l PA pcap false m) : RS s A cap l PA pcap false (m + 1) := by
  intro c all cov CA cc n best wk BA bn bc w hP hm hb hs hl hc hnil hF
  cases best with
  | none =>
    obtain ⟨rfl, rfl, rfl, rfl⟩ := hF
    exact rs_none s A cap l PA pcap ok okl m ih c all cov CA cc n w hP hm hs hl hc hnil
  | some b =>
    have hF' := hF
    obtain ⟨bL, bw⟩ := b
    obtain ⟨⟨ba, rfl, -⟩, h2, rfl, -⟩ := hF
    by_cases hnl : bn < c.length
    · have := (part_len ok hP).2
      exact rs_some_long s A cap l PA pcap m c all cov CA cc n bL bw bn h2.symm ba bc w (by omega) hF' hnl
    · exact rs_some s A cap l PA pcap ok okl m ih c all cov CA cc n bL bw bn h2.symm ba bc w hP hm hs hl hc hnil hF' hnl
theorem search_false (s : Shape) (A : Option Addr) (cap : Nat) (l : List Plate) (PA : Option Addr) (pcap : Nat) (ok : s.Ok) (okl : platesB l = true) : ∀ m, RS s A cap l PA pcap false m
  | 0 => by
    intro c all cov CA cc n best wk BA bn bc w hP hm
    have := lowZ_le ok hP.is
    omega
  | m + 1 => rs_false s A cap l PA pcap ok okl m (search_false s A cap l PA pcap ok okl m)
end Go.Proofs.YtaaeapjnjjbglaaDoor
