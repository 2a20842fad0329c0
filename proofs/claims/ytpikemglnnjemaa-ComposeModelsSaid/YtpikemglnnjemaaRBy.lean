/- By and Lies of the reference. -/
import Derived.Test.YtpikemglnnjemaaLaid
namespace Go.Proofs.Ytpikemglnnjemaa
open Go.RowKit

theorem byRun_lo {l : List Plate} {c : List Laid} {x y z : Int} {k : Nat} {r : Int} (h : byRun l c x y z k = some r) : -1 ≤ r ∧ r < k ∨ r = -1 := by
  rcases byRun_some h with ⟨e, _⟩ | ⟨i, hi, e, _⟩
  · exact Or.inr e
  · left; omega
set_option maxHeartbeats 1000000 in
theorem by_c (A : Option Addr) (cap : Nat) (l : List Plate) (CA : Option Addr) (ccap : Nat) (c : List Laid) (x y z : Int) (okl : platesB l = true) (hc : ∀ (k : Nat) (a : Laid), c[k]? = some a → a.Ok l) (hlen : c.length ≤ 1000) (w : World) (hl : Plates w A cap l) (hcs : Laids w CA ccap c) :
    Calls Try.prog 45 #[.slice A l.length cap, .slice CA c.length ccap, .int .i64 x, .int .i64 y, .int .i64 z] w fun e w' =>
      e = .returned (.int .i64 (byI l c x y z)) ∧ Ext w w' := by
  go_enter Try.func45, Try.ntmps45
  go_wp2_with fail
  go_loopw [11, 12] (fun b i wr => ∃ (k : Nat) (r : Int), k ≤ c.length ∧ i = .int .i64 k ∧ b = .int .i64 r ∧ byRun l c x y z k = some r ∧ Ext w wr) (fun _ i _ => c.length - (intOf i).toNat)
  case atStart => exact ⟨0, -1, by omega, rfl, rfl, rfl, Ext.refl _⟩
  case round =>
    obtain ⟨k, r, hk, rfl, rfl, hrun, E⟩ := hrel
    have hr := byRun_lo hrun
    have Hrun := Lib.hid hrun
    clear hrun
    by_cases hlt : k < c.length
    · obtain ⟨b, off, a, rfl, ha, hb, a0, a1, a2, a3, a4⟩ := (hcs.ext E).at_ hlt
      have hok := hc k a ha
      have Hstep : Hid (byRun l c x y z (k + 1) = byStep l c x y z k r) := Lib.hid (runs_succ Hrun.out)
      have Ha := Lib.hid (laidAt_eq ha)
      clear ha
      cases hh : hasB l a x y z
      · have Hs : Hid (byRun l c x y z (k + 1) = some r) := Lib.hid (by rw [Hstep.out]; unfold byStep; rw [Ha.out, hh]; rfl)
        go_wp2_with fail
        refine (has_c A cap l a x y z okl hok _ (hl.ext E)).mono ?_
        rintro e W2 ⟨rfl, E2⟩
        rw [hh]
        clear hh
        go_wp2_with fail
        go_roundw
        case rel => exact ⟨k + 1, r, by omega, by go_num, rfl, Hs.out, E.trans E2⟩
        case measure => simp only [intOf]; omega
      · by_cases hr1 : r = -1
        · subst hr1
          have Hs : Hid (byRun l c x y z (k + 1) = some (k : Int)) := Lib.hid (by rw [Hstep.out]; unfold byStep; rw [Ha.out, hh]; rfl)
          go_wp2_with fail
          refine (has_c A cap l a x y z okl hok _ (hl.ext E)).mono ?_
          rintro e W2 ⟨rfl, E2⟩
          rw [hh]
          clear hh
          go_wp2_with fail
          go_roundw
          case rel => exact ⟨k + 1, k, by omega, by go_num, rfl, Hs.out, E.trans E2⟩
          case measure => simp only [intOf]; omega
        · have Hs : Hid (byI l c x y z = -2) := Lib.hid (by
            have h1 : byStep l c x y z k r = none := by unfold byStep; rw [Ha.out, hh, if_pos rfl, if_pos hr1]
            have h2 : byRun l c x y z c.length = none := runs_fail Hrun.out h1 hlt
            unfold byI
            rw [h2]
            rfl)
          have hr2 : (r == -1) = false := by simpa using hr1
          have hr3 : (r != -1) = true := by simpa using hr1
          clear hr1
          go_wp2_with fail
          refine (has_c A cap l a x y z okl hok _ (hl.ext E)).mono ?_
          rintro e W2 ⟨rfl, E2⟩
          rw [hh]
          clear hh
          go_wp2_with fail
          go_ret
          exact ⟨by rw [Hs.out]; rfl, E.trans E2⟩
    · obtain rfl : k = c.length := by omega
      have Hs : Hid (byI l c x y z = r) := Lib.hid (by unfold byI; rw [Hrun.out]; rfl)
      go_wp2_with fail
      go_ret
      exact ⟨by rw [Hs.out]; rfl, E⟩

theorem sameAll_bad {s : Shape} {color z x y : Int} {w d i j : Nat} (hi : i < d) (hj : j < w) (h : s.colorAt (x + j) (y + i) z ≠ color) : sameAll s color z x y w d = false := by
  cases hs : sameAll s color z x y w d
  · rfl
  · exact absurd (sameAll_iff.1 hs i hi j hj) h
theorem colorAt_lo (s : Shape) (hb : ∀ c ∈ s.cells, byteOk c) (x y z : Int) : 0 ≤ s.colorAt x y z ∧ s.colorAt x y z ≤ 255 := by
  unfold Shape.colorAt
  split
  · rw [List.getD_eq_getElem?_getD]
    cases h : s.cells[(s.idx x y z).toNat]? with
    | none => simp
    | some c => exact hb c (List.mem_of_getElem? h)
  · omega

set_option maxRecDepth 100000 in
set_option maxHeartbeats 8000000 in
theorem lies_f (s : Shape) (A : Option Addr) (cap : Nat) (l : List Plate) (PA : Option Addr) (pcap : Nat) (pl cx cy cz : Int) (t : Bool) (ok : s.Ok) (okl : platesB l = true) (w : World) (hs : Bytes w A cap s.cells) (hl : Plates w PA pcap l) :
    Calls Try.prog 43 #[.agg #[.int .i64 s.W, .int .i64 s.D, .int .i64 s.H, .slice A s.cells.length cap], .slice PA l.length pcap, .agg #[.int .i64 pl, .int .i64 cx, .int .i64 cy, .int .i64 cz, .bool t]] w fun e w' =>
      e = .returned (.bool (liesB s l ⟨pl, cx, cy, cz, t⟩)) ∧ Ext w w' := by
  obtain ⟨W1, hW1, E1, B1, hz1⟩ := box_ w #[.int .i64 s.W, .int .i64 s.D, .int .i64 s.H, .slice A s.cells.length cap] 25
  obtain ⟨W2, hW2, E2, B2, hz2⟩ := box_ W1 #[.int .i64 pl, .int .i64 cx, .int .i64 cy, .int .i64 cz, .bool t] 64
  have B1 := B1.ext E2
  rw [hz1] at B2
  have b1 := B1.cell
  have b2 := B2.cell
  have E12 := E1.trans E2
  have hl8 := plates_len okl
  obtain ⟨w1, w2⟩ := ok.w
  obtain ⟨d1, d2⟩ := ok.d
  obtain ⟨h1, h2⟩ := ok.h
  cases k0 : inB 0 ((l.length : Int) - 1) pl
  · go_enter Try.func43, Try.ntmps43
    go_wp2_with fail
    refine (within_is k0 _).mono ?_
    rintro e w0 ⟨rfl, rfl⟩
    go_wp2_with fail
    go_ret
    exact ⟨by simp [liesB, k0], E12⟩
  cases k1 : inB 0 (s.W - 1) cx
  · go_enter Try.func43, Try.ntmps43
    go_wp2_with fail
    refine (within_is k0 _).mono ?_
    rintro e w0 ⟨rfl, rfl⟩
    go_wp2_with fail
    refine (within_is k1 _).mono ?_
    rintro e w0 ⟨rfl, rfl⟩
    go_wp2_with fail
    go_ret
    exact ⟨by simp [liesB, Shape.inside, k1], E12⟩
  cases k2 : inB 0 (s.D - 1) cy
  · go_enter Try.func43, Try.ntmps43
    go_wp2_with fail
    refine (within_is k0 _).mono ?_
    rintro e w0 ⟨rfl, rfl⟩
    go_wp2_with fail
    refine (within_is k1 _).mono ?_
    rintro e w0 ⟨rfl, rfl⟩
    go_wp2_with fail
    refine (within_is k2 _).mono ?_
    rintro e w0 ⟨rfl, rfl⟩
    go_wp2_with fail
    go_ret
    exact ⟨by simp [liesB, Shape.inside, k2], E12⟩
  cases k3 : inB 0 (s.H - 1) cz
  · go_enter Try.func43, Try.ntmps43
    go_wp2_with fail
    refine (within_is k0 _).mono ?_
    rintro e w0 ⟨rfl, rfl⟩
    go_wp2_with fail
    refine (within_is k1 _).mono ?_
    rintro e w0 ⟨rfl, rfl⟩
    go_wp2_with fail
    refine (within_is k2 _).mono ?_
    rintro e w0 ⟨rfl, rfl⟩
    go_wp2_with fail
    refine (within_is k3 _).mono ?_
    rintro e w0 ⟨rfl, rfl⟩
    go_wp2_with fail
    go_ret
    exact ⟨by simp [liesB, Shape.inside, k3], E12⟩
  have hin : s.inside cx cy cz = true := by simp [Shape.inside, k1, k2, k3]
  obtain ⟨q0, q0'⟩ := inB_iff.1 k0
  obtain ⟨q1, q1'⟩ := inB_iff.1 k1
  obtain ⟨q2, q2'⟩ := inB_iff.1 k2
  obtain ⟨q3, q3'⟩ := inB_iff.1 k3
  obtain ⟨n, hn⟩ := Int.eq_ofNat_of_zero_le q0
  subst hn
  have hn : n < l.length := by omega
  obtain ⟨⟨s1, s2⟩, s3, s4⟩ := sizes (c := ⟨(n : Int), cx, cy, cz, t⟩) okl ⟨q0, by show (n : Int) < _; omega⟩
  obtain ⟨b, off, p, rfl, hpl, hb, p0, p1, p2, p3⟩ := (hl.ext E12).at_ hn
  have Hp := Lib.hid (plateAt_eq hpl)
  clear hpl
  obtain ⟨W3, hW3, E3, B3, hz3⟩ := box_ W2 #[.int .i64 p.W, .int .i64 p.D, .int .i64 p.N, .int .u8 p.color] 70
  have hz2' : W2.heap.size = w.heap.size + 2 := by omega
  rw [hz2'] at B3
  have B1' := B1.ext E3
  have B2' := B2.ext E3
  have b1' := B1'.cell
  have b2' := B2'.cell
  have b3 := B3.cell
  have E13 := E12.trans E3
  have hl3 := hl.ext E13
  have hs3 := hs.ext E13
  obtain ⟨sw, hsw⟩ : ∃ sw, sizeW l ⟨(n : Int), cx, cy, cz, t⟩ = sw := ⟨_, rfl⟩
  obtain ⟨sd, hsd⟩ : ∃ sd, sizeD l ⟨(n : Int), cx, cy, cz, t⟩ = sd := ⟨_, rfl⟩
  rw [hsw] at s1 s2
  rw [hsd] at s3 s4
  obtain ⟨wd, rfl⟩ := Int.eq_ofNat_of_zero_le (show 0 ≤ sw by omega)
  obtain ⟨dd, rfl⟩ := Int.eq_ofNat_of_zero_le (show 0 ≤ sd by omega)
  obtain ⟨col, hcol⟩ : ∃ col, s.colorAt cx cy cz = col := ⟨_, rfl⟩
  obtain ⟨col0, col1⟩ := colorAt_lo s hs.2 cx cy cz
  rw [hcol] at col0 col1
  have Hle : Hid (liesB s l ⟨(n : Int), cx, cy, cz, t⟩ = (!(t && decide (p.W = p.D)) && (sameAll s col cz cx cy wd dd && (decide (col ≠ 0) && (decide (p.color = 0) || decide (p.color = col)))))) := Lib.hid (by
    unfold liesB
    simp only [Int.toNat_natCast, hsw, hsd, hcol, k0, hin, Hp.out, Bool.true_and])
  have Hsize : Hid (∀ w, Plates w (some ⟨b, off, none⟩) pcap l → Calls Try.prog 57 #[.slice (some ⟨b, off, none⟩) l.length pcap, .agg #[.int .i64 n, .int .i64 cx, .int .i64 cy, .int .i64 cz, .bool t]] w fun e w' =>
      e = .returned (.tuple #[.int .i64 wd, .int .i64 dd]) ∧ Ext w w') := Lib.hid (fun w hl => by
    have := size_c (some ⟨b, off, none⟩) pcap l ⟨(n : Int), cx, cy, cz, t⟩ ⟨q0, by show (n : Int) < _; omega⟩ w hl
    rw [hsw, hsd] at this
    exact this)
  have Hat : Hid (∀ w, Bytes w A cap s.cells → Calls Try.prog 25 #[.agg #[.int .i64 s.W, .int .i64 s.D, .int .i64 s.H, .slice A s.cells.length cap], .int .i64 cx, .int .i64 cy, .int .i64 cz] w fun e w' => e = .returned (.int .u8 col) ∧ Ext w w') := Lib.hid (fun w hb => by
    have := rAt_c s A cap cx cy cz ok w hb
    rw [hcol] at this
    exact this)
  clear hcol hsw hsd hin Hp
  cases t
  · go_enter Try.func43, Try.ntmps43
    go_wp2_with fail
    refine (within_is k0 _).mono ?_
    rintro e w0 ⟨rfl, rfl⟩
    go_wp2_with fail
    refine (within_is k1 _).mono ?_
    rintro e w0 ⟨rfl, rfl⟩
    go_wp2_with fail
    refine (within_is k2 _).mono ?_
    rintro e w0 ⟨rfl, rfl⟩
    go_wp2_with fail
    refine (within_is k3 _).mono ?_
    rintro e w0 ⟨rfl, rfl⟩
    go_wp2_with fail
    refine (Hsize.out _ hl3).mono ?_
    rintro e W4 ⟨rfl, E4⟩
    have B1' := B1'.ext E4
    have B2' := B2'.ext E4
    have B3' := B3.ext E4
    clear b1 b2 b1' b2' b3 k0 k1 k2 k3
    have b1 := B1'.cell
    have b2 := B2'.cell
    have b3 := B3'.cell
    go_wp2_with fail
    refine (Hat.out _ (hs3.ext E4)).mono ?_
    rintro e W5 ⟨rfl, E5⟩
    have B1' := B1'.ext E5
    have B2' := B2'.ext E5
    have B3' := B3'.ext E5
    clear b1 b2 b3 p0 p1 p2 p3
    have b1 := B1'.cell
    have b2 := B2'.cell
    have b3 := B3'.cell
    have E15 := (E13.trans E4).trans E5
    go_wp2_with fail
    go_loopw [11] (fun v wr => ∃ i : Nat, i ≤ dd ∧ v = .int .i64 (cy + (i : Int)) ∧ (∀ a : Nat, a < i → ∀ j : Nat, j < wd → s.colorAt (cx + j) (cy + a) cz = col) ∧ Ext W5 wr) (fun v _ => (cy + (dd : Int) - intOf v).toNat)
    case atStart => exact ⟨0, by omega, by simp, fun a ha => by omega, Ext.refl _⟩
    case round =>
      obtain ⟨i, hi, rfl, hall, E6⟩ := hrel
      have Hall := Lib.hid hall
      clear hall b1 b2 b3
      have C1 := B1'.ext E6
      have C2 := B2'.ext E6
      have C3 := B3'.ext E6
      have b1 := C1.cell
      have b2 := C2.cell
      have b3 := C3.cell
      by_cases hlt : i < dd
      · obtain ⟨wo, rfl⟩ : ∃ wo : World, wo = wr := ⟨_, rfl⟩
        go_wp2_with fail
        go_loopw [12] (fun u wr => ∃ j : Nat, j ≤ wd ∧ u = .int .i64 (cx + (j : Int)) ∧ (∀ a : Nat, a < j → s.colorAt (cx + a) (cy + i) cz = col) ∧ Ext W5 wr) (fun u _ => (cx + (wd : Int) - intOf u).toNat)
        case atStart => exact ⟨0, by omega, by simp, fun a ha => by omega, E6⟩
        case round =>
          obtain ⟨j, hj, rfl, hall2, E7⟩ := hrel
          have Hall2 := Lib.hid hall2
          clear hall2 b1 b2 b3 C1 C2 C3
          have C1 := B1'.ext E7
          have C2 := B2'.ext E7
          have b1 := C1.cell
          have b2 := C2.cell
          by_cases hlt2 : j < wd
          · go_wp2_with fail
            refine (rAt_c s A cap (cx + j) (cy + i) cz ok _ ((hs3.ext (E4.trans E5)).ext E7)).mono ?_
            rintro e W8 ⟨rfl, E8⟩
            by_cases hsame : s.colorAt (cx + j) (cy + i) cz = col
            · rw [hsame]
              have Hs := Lib.hid hsame
              clear hsame
              go_wp2_with fail
              go_roundw
              case rel =>
                refine ⟨j + 1, by omega, by go_num, fun a ha => ?_, E7.trans E8⟩
                rcases Nat.lt_or_ge a j with h | h
                · exact Hall2.out a h
                · obtain rfl : a = j := by omega
                  exact Hs.out
              case measure => simp only [intOf]; omega
            · have hb1 : (s.colorAt (cx + j) (cy + i) cz == col) = false := by simpa using hsame
              have hb2 : (s.colorAt (cx + j) (cy + i) cz != col) = true := by simpa using hsame
              have Hs := Lib.hid hsame
              clear hsame
              go_wp2_with fail
              go_ret
              exact ⟨by rw [Hle.out, sameAll_bad hlt hlt2 Hs.out]; simp, (E15.trans E7).trans E8⟩
          · obtain rfl : j = wd := by omega
            go_wp2_with fail
            go_roundw
            case rel =>
              refine ⟨i + 1, by omega, by go_num, fun a ha => ?_, E7⟩
              rcases Nat.lt_or_ge a i with h | h
              · exact Hall.out a h
              · obtain rfl : a = i := by omega
                exact Hall2.out
            case measure => simp only [intOf]; omega
      · obtain rfl : i = dd := by omega
        have Hs : Hid (sameAll s col cz cx cy wd i = true) := Lib.hid (sameAll_iff.2 Hall.out)
        by_cases c0 : col = 0
        · have hb1 : (col == 0) = true := by simpa using c0
          have hb2 : (col != 0) = false := by simpa using c0
          have Hc := Lib.hid c0
          clear c0
          go_wp2_with fail
          go_ret
          exact ⟨by rw [Hle.out, Hc.out]; simp, E15.trans E6⟩
        · have hb1 : (col == 0) = false := by simpa using c0
          have hb2 : (col != 0) = true := by simpa using c0
          have Hc := Lib.hid c0
          clear c0
          by_cases c1 : p.color = 0
          · have hb3 : (p.color == 0) = true := by simpa using c1
            have Hc1 := Lib.hid c1
            clear c1
            go_wp2_with fail
            go_ret
            exact ⟨by rw [Hle.out, Hs.out, Hc1.out, decide_eq_true Hc.out]; simp[], E15.trans E6⟩
          · have hb3 : (p.color == 0) = false := by simpa using c1
            have Hc1 := Lib.hid c1
            clear c1
            by_cases c2 : p.color = col
            · have hb4 : (p.color == col) = true := by simpa using c2
              have Hc2 := Lib.hid c2
              clear c2
              go_wp2_with fail
              go_ret
              exact ⟨by rw [Hle.out, Hs.out, Hc2.out, decide_eq_true Hc.out]; simp[], E15.trans E6⟩
            · have hb4 : (p.color == col) = false := by simpa using c2
              have Hc2 := Lib.hid c2
              clear c2
              go_wp2_with fail
              go_ret
              exact ⟨by rw [Hle.out, decide_eq_false Hc2.out, decide_eq_false Hc1.out]; simp, E15.trans E6⟩
  · by_cases hwd : p.W = p.D
    · have hb1 : (p.W == p.D) = true := by simpa using hwd
      have Hwd := Lib.hid hwd
      clear hwd
      go_enter Try.func43, Try.ntmps43
      go_wp2_with fail
      refine (within_is k0 _).mono ?_
      rintro e w0 ⟨rfl, rfl⟩
      go_wp2_with fail
      refine (within_is k1 _).mono ?_
      rintro e w0 ⟨rfl, rfl⟩
      go_wp2_with fail
      refine (within_is k2 _).mono ?_
      rintro e w0 ⟨rfl, rfl⟩
      go_wp2_with fail
      refine (within_is k3 _).mono ?_
      rintro e w0 ⟨rfl, rfl⟩
      go_wp2_with fail
      go_ret
      exact ⟨by rw [Hle.out, decide_eq_true Hwd.out]; simp, E13⟩
    · have hb0 : (p.W == p.D) = false := by simpa using hwd
      have Hwd := Lib.hid hwd
      clear hwd
      go_enter Try.func43, Try.ntmps43
      go_wp2_with fail
      refine (within_is k0 _).mono ?_
      rintro e w0 ⟨rfl, rfl⟩
      go_wp2_with fail
      refine (within_is k1 _).mono ?_
      rintro e w0 ⟨rfl, rfl⟩
      go_wp2_with fail
      refine (within_is k2 _).mono ?_
      rintro e w0 ⟨rfl, rfl⟩
      go_wp2_with fail
      refine (within_is k3 _).mono ?_
      rintro e w0 ⟨rfl, rfl⟩
      go_wp2_with fail
      refine (Hsize.out _ hl3).mono ?_
      rintro e W4 ⟨rfl, E4⟩
      have B1' := B1'.ext E4
      have B2' := B2'.ext E4
      have B3' := B3.ext E4
      clear b1 b2 b1' b2' b3 k0 k1 k2 k3
      have b1 := B1'.cell
      have b2 := B2'.cell
      have b3 := B3'.cell
      go_wp2_with fail
      refine (Hat.out _ (hs3.ext E4)).mono ?_
      rintro e W5 ⟨rfl, E5⟩
      have B1' := B1'.ext E5
      have B2' := B2'.ext E5
      have B3' := B3'.ext E5
      clear b1 b2 b3 p0 p1 p2 p3
      have b1 := B1'.cell
      have b2 := B2'.cell
      have b3 := B3'.cell
      have E15 := (E13.trans E4).trans E5
      go_wp2_with fail
      go_loopw [11] (fun v wr => ∃ i : Nat, i ≤ dd ∧ v = .int .i64 (cy + (i : Int)) ∧ (∀ a : Nat, a < i → ∀ j : Nat, j < wd → s.colorAt (cx + j) (cy + a) cz = col) ∧ Ext W5 wr) (fun v _ => (cy + (dd : Int) - intOf v).toNat)
      case atStart => exact ⟨0, by omega, by simp, fun a ha => by omega, Ext.refl _⟩
      case round =>
        obtain ⟨i, hi, rfl, hall, E6⟩ := hrel
        have Hall := Lib.hid hall
        clear hall b1 b2 b3
        have C1 := B1'.ext E6
        have C2 := B2'.ext E6
        have C3 := B3'.ext E6
        have b1 := C1.cell
        have b2 := C2.cell
        have b3 := C3.cell
        by_cases hlt : i < dd
        · obtain ⟨wo, rfl⟩ : ∃ wo : World, wo = wr := ⟨_, rfl⟩
          go_wp2_with fail
          go_loopw [12] (fun u wr => ∃ j : Nat, j ≤ wd ∧ u = .int .i64 (cx + (j : Int)) ∧ (∀ a : Nat, a < j → s.colorAt (cx + a) (cy + i) cz = col) ∧ Ext W5 wr) (fun u _ => (cx + (wd : Int) - intOf u).toNat)
          case atStart => exact ⟨0, by omega, by simp, fun a ha => by omega, E6⟩
          case round =>
            obtain ⟨j, hj, rfl, hall2, E7⟩ := hrel
            have Hall2 := Lib.hid hall2
            clear hall2 b1 b2 b3 C1 C2 C3
            have C1 := B1'.ext E7
            have C2 := B2'.ext E7
            have b1 := C1.cell
            have b2 := C2.cell
            by_cases hlt2 : j < wd
            · go_wp2_with fail
              refine (rAt_c s A cap (cx + j) (cy + i) cz ok _ ((hs3.ext (E4.trans E5)).ext E7)).mono ?_
              rintro e W8 ⟨rfl, E8⟩
              by_cases hsame : s.colorAt (cx + j) (cy + i) cz = col
              · rw [hsame]
                have Hs := Lib.hid hsame
                clear hsame
                go_wp2_with fail
                go_roundw
                case rel =>
                  refine ⟨j + 1, by omega, by go_num, fun a ha => ?_, E7.trans E8⟩
                  rcases Nat.lt_or_ge a j with h | h
                  · exact Hall2.out a h
                  · obtain rfl : a = j := by omega
                    exact Hs.out
                case measure => simp only [intOf]; omega
              · have hb1 : (s.colorAt (cx + j) (cy + i) cz == col) = false := by simpa using hsame
                have hb2 : (s.colorAt (cx + j) (cy + i) cz != col) = true := by simpa using hsame
                have Hs := Lib.hid hsame
                clear hsame
                go_wp2_with fail
                go_ret
                exact ⟨by rw [Hle.out, sameAll_bad hlt hlt2 Hs.out]; simp, (E15.trans E7).trans E8⟩
            · obtain rfl : j = wd := by omega
              go_wp2_with fail
              go_roundw
              case rel =>
                refine ⟨i + 1, by omega, by go_num, fun a ha => ?_, E7⟩
                rcases Nat.lt_or_ge a i with h | h
                · exact Hall.out a h
                · obtain rfl : a = i := by omega
                  exact Hall2.out
              case measure => simp only [intOf]; omega
        · obtain rfl : i = dd := by omega
          have Hs : Hid (sameAll s col cz cx cy wd i = true) := Lib.hid (sameAll_iff.2 Hall.out)
          by_cases c0 : col = 0
          · have hb1 : (col == 0) = true := by simpa using c0
            have hb2 : (col != 0) = false := by simpa using c0
            have Hc := Lib.hid c0
            clear c0
            go_wp2_with fail
            go_ret
            exact ⟨by rw [Hle.out, Hc.out]; simp, E15.trans E6⟩
          · have hb1 : (col == 0) = false := by simpa using c0
            have hb2 : (col != 0) = true := by simpa using c0
            have Hc := Lib.hid c0
            clear c0
            by_cases c1 : p.color = 0
            · have hb3 : (p.color == 0) = true := by simpa using c1
              have Hc1 := Lib.hid c1
              clear c1
              go_wp2_with fail
              go_ret
              exact ⟨by rw [Hle.out, Hs.out, Hc1.out, decide_eq_true Hc.out]; simp[Hwd.out], E15.trans E6⟩
            · have hb3 : (p.color == 0) = false := by simpa using c1
              have Hc1 := Lib.hid c1
              clear c1
              by_cases c2 : p.color = col
              · have hb4 : (p.color == col) = true := by simpa using c2
                have Hc2 := Lib.hid c2
                clear c2
                go_wp2_with fail
                go_ret
                exact ⟨by rw [Hle.out, Hs.out, Hc2.out, decide_eq_true Hc.out]; simp[Hwd.out], E15.trans E6⟩
              · have hb4 : (p.color == col) = false := by simpa using c2
                have Hc2 := Lib.hid c2
                clear c2
                go_wp2_with fail
                go_ret
                exact ⟨by rw [Hle.out, decide_eq_false Hc2.out, decide_eq_false Hc1.out]; simp, E15.trans E6⟩
end Go.Proofs.Ytpikemglnnjemaa
