/- weak of the program: how many seams are stacked. What Compose asks of its search: the best composition so far. -/
import Derived.Test.YtaaeapjnjjbglaaGreatDoorCd37
import Derived.Deep.CutRange

namespace Go.Proofs.YtaaeapjnjjbglaaGreatDoor
open Go.RowKit

def weakK (s : Shape) (out : List Nat) (k : Nat) : Nat := ((eds s).take k).countP (weakP s out)
theorem weakK_succ {s : Shape} {out : List Nat} {k : Nat} {p : Int × Int} (h : (eds s)[k]? = some p) : weakK s out (k + 1) = weakK s out k + if weakP s out p then 1 else 0 := by
  unfold weakK
  rw [List.take_add_one, h, List.countP_append, Option.toList_some, List.countP_singleton]
theorem weakK_le (s : Shape) (out : List Nat) (k : Nat) : weakK s out k ≤ k := by
  unfold weakK
  exact Nat.le_trans List.countP_le_length (List.length_take_le _ _)
theorem weakK_all (s : Shape) (out : List Nat) : weakK s out (eds s).length = weakN s out := by
  unfold weakK weakN
  rw [List.take_of_length_le (Nat.le_refl _)]
theorem over_get {s : Shape} {k : Nat} {p : Int × Int} (h : (eds s)[k]? = some p) : (overS s)[k]? = some (overAt (abv s) (eds s) p) := by
  unfold overS
  rw [List.getElem?_map]
  show Option.map _ (eds s)[k]? = _
  rw [h]
  rfl

set_option maxRecDepth 100000 in
set_option maxHeartbeats 8000000 in
theorem weak_c (g : Nat) (s : Shape) (A : Option Addr) (cap : Nat) (l : List Plate) (PA : Option Addr) (pcap : Nat) (NA : Option Addr) (ncap : Nat) (AA : Option Addr) (acap : Nat) (EA : Option Addr) (ec : Nat) (OA : Option Addr) (oc : Nat) (LA : Option Addr) (lc : Nat) (ms : List Nat)
    (out : List Nat) (SA : Option Addr) (sc : Nat) (ok : s.Ok) (hsm : ∀ i, i < out.length → outAt out i < 65536) (hol : out.length ≤ 1000) (w : World) (hB : Board w g s A cap l PA pcap NA ncap AA acap EA ec OA oc LA lc ms)
    (hS : SliceIs w SA out.length sc 1 (out.map fun m => [uv m])) :
    Calls Tryz.prog 34 #[.pointer (some ⟨g, 0, none⟩), .slice SA out.length sc] w fun e w' => e = .returned (.int .i64 (weakN s out)) ∧ Ext w w' := by
  obtain ⟨W1, hW1, E1, B1, hz1⟩ := box_ w #[.pointer (some ⟨g, 0, none⟩)] 65
  obtain ⟨W2, hW2, E2, B2, hz2⟩ := box_ W1 #[.slice SA out.length sc] 66
  rw [hz1] at B2 hz2
  have B1 := B1.ext E2
  have E02 := E1.trans E2
  have b1 := B1.cell
  have hB2 := hB.ext E02
  have hS2 := hS.ext E02
  have c8 := hB2.c8
  have hel : (eds s).length ≤ 1000 := by
    have h1 := edgesS_len s s.cells.length
    have h2 := s.len_le ok
    show (edgesS s s.cells.length).length ≤ 1000
    omega
  have Hsm := Lib.hid hsm
  clear hsm
  go_enter Tryz.func34, Tryz.ntmps34
  go_wp2_with fail
  have Hz := Lib.hid hz2
  clear hW1 hW2 b1 c8 hz1 hz2
  go_loopw [6, 15] (fun nv iv wr => ∃ (k n : Nat), k ≤ (eds s).length ∧ nv = .int .i64 (n : Int) ∧ iv = .int .i64 k ∧ weakK s out k = n ∧ Ext W2 wr) (fun _ iv _ => (eds s).length - (intOf iv).toNat)
  case atStart => exact ⟨0, 0, by omega, rfl, rfl, rfl, Ext.refl _⟩
  case round =>
    obtain ⟨k, n, hk, rfl, rfl, hn, E⟩ := hrel
    have hnk := weakK_le s out k
    rw [hn] at hnk
    have Hn := Lib.hid hn
    clear hn
    by_cases hlt : k < (eds s).length
    · obtain ⟨p, hp⟩ : ∃ p, (eds s)[k]? = some p := ⟨_, List.getElem?_eq_getElem hlt⟩
      have hBr := hB2.ext E
      have hSr := hS2.ext E
      have D1 := B1.ext E
      have D2 := B2.ext E
      obtain ⟨ob, ooff, rfl, hob, oc1⟩ := hBr.over.at_ (over_get hp)
      have Hsucc := Lib.hid (weakK_succ (out := out) hp)
      have Hp := Lib.hid hp
      obtain ⟨o, ho⟩ : ∃ o, overAt (abv s) (eds s) p = o := ⟨_, rfl⟩
      rw [ho] at oc1
      have Ho := Lib.hid ho
      clear hp ho
      by_cases h0 : 0 ≤ o
      · have h0b : decide (0 ≤ o) = true := by simpa using h0
        have hlt2 := over_lt (ab := abv s) (es := eds s) (p := p) (by rw [Ho.out]; exact h0)
        rw [Ho.out] at hlt2
        obtain ⟨q, hq⟩ : ∃ q, ((abv s).getD p.1.toNat 0, (abv s).getD p.2.toNat 0) = q := ⟨_, rfl⟩
        rw [hq] at hlt2
        obtain ⟨j, rfl⟩ := Int.eq_ofNat_of_zero_le h0
        rw [Int.toNat_natCast] at hlt2
        have hjl : j < (eds s).length := (List.getElem?_eq_some_iff.1 hlt2).1
        have Hw : Hid (weakP s out p = (seamE out p && seamE out q)) := Lib.hid (by
          unfold weakP
          rw [Ho.out, decide_eq_true (by omega), Bool.true_and, Int.toNat_natCast, List.getD_eq_getElem?_getD, hlt2]
          rfl)
        have Hq := Lib.hid hlt2
        clear hlt2 hq
        obtain ⟨r1, hr1⟩ : ∃ r1, seamE out p = r1 := ⟨_, rfl⟩
        have Hr1 := Lib.hid hr1
        obtain ⟨r2, hr2⟩ : ∃ r2, seamE out q = r2 := ⟨_, rfl⟩
        have Hr2 := Lib.hid hr2
        clear hr1 hr2
        cases r1
        · have Hno : Hid (weakP s out p = false) := Lib.hid (by rw [Hw.out, Hr1.out]; rfl)
          go_wp2_with fail
          refine (seam1_c g s A cap l PA pcap NA ncap AA acap EA ec _ oc LA lc ms out SA sc w.heap.size k p ok Hp.out false Hr1.out Hsm.out hol _ hBr hSr D1 D2).mono ?_
          rintro e w3 ⟨rfl, E3⟩
          obtain ⟨hcw3, hfw3, hzw3⟩ := ext_facts E3
          go_wp2_with fail
          go_roundw
          case rel => exact ⟨k + 1, n, by omega, rfl, by go_num, by rw [Hsucc.out, Hn.out, Hno.out]; rfl, E.trans E3⟩
          case measure => simp only [intOf]; omega
        · cases r2
          · have Hno : Hid (weakP s out p = false) := Lib.hid (by rw [Hw.out, Hr1.out, Hr2.out]; rfl)
            go_wp2_with fail
            refine (seam1_c g s A cap l PA pcap NA ncap AA acap EA ec _ oc LA lc ms out SA sc w.heap.size k p ok Hp.out true Hr1.out Hsm.out hol _ hBr hSr D1 D2).mono ?_
            rintro e w3 ⟨rfl, E3⟩
            obtain ⟨hcw3, hfw3, hzw3⟩ := ext_facts E3
            go_wp2_with fail
            refine (seam1_c g s A cap l PA pcap NA ncap AA acap EA ec _ oc LA lc ms out SA sc w.heap.size j q ok Hq.out false Hr2.out Hsm.out hol _ (hBr.ext E3) (hSr.ext E3) (D1.ext E3) (D2.ext E3)).mono ?_
            rintro e w4 ⟨rfl, E4⟩
            obtain ⟨hcw4, hfw4, hzw4⟩ := ext_facts E4
            go_wp2_with fail
            go_roundw
            case rel => exact ⟨k + 1, n, by omega, rfl, by go_num, by rw [Hsucc.out, Hn.out, Hno.out]; rfl, (E.trans E3).trans E4⟩
            case measure => simp only [intOf]; omega
          · have Hyes : Hid (weakP s out p = true) := Lib.hid (by rw [Hw.out, Hr1.out, Hr2.out]; rfl)
            go_wp2_with fail
            refine (seam1_c g s A cap l PA pcap NA ncap AA acap EA ec _ oc LA lc ms out SA sc w.heap.size k p ok Hp.out true Hr1.out Hsm.out hol _ hBr hSr D1 D2).mono ?_
            rintro e w3 ⟨rfl, E3⟩
            obtain ⟨hcw3, hfw3, hzw3⟩ := ext_facts E3
            go_wp2_with fail
            refine (seam1_c g s A cap l PA pcap NA ncap AA acap EA ec _ oc LA lc ms out SA sc w.heap.size j q ok Hq.out true Hr2.out Hsm.out hol _ (hBr.ext E3) (hSr.ext E3) (D1.ext E3) (D2.ext E3)).mono ?_
            rintro e w4 ⟨rfl, E4⟩
            obtain ⟨hcw4, hfw4, hzw4⟩ := ext_facts E4
            go_wp2_with fail
            go_roundw
            case rel => exact ⟨k + 1, n + 1, by omega, by go_num, by go_num, by rw [Hsucc.out, Hn.out, Hyes.out]; rfl, (E.trans E3).trans E4⟩
            case measure => simp only [intOf]; omega
      · have h0b : decide (0 ≤ o) = false := by simpa using h0
        have Hno : Hid (weakP s out p = false) := Lib.hid (by
          unfold weakP
          rw [Ho.out, h0b]
          rfl)
        go_wp2_with fail
        go_roundw
        case rel => exact ⟨k + 1, n, by omega, rfl, by go_num, by rw [Hsucc.out, Hn.out, Hno.out]; rfl, E⟩
        case measure => simp only [intOf]; omega
    · obtain rfl : k = (eds s).length := by omega
      go_wp2_with fail
      go_ret
      exact ⟨by rw [← Hn.out, weakK_all] <;> rfl, E02.trans E⟩
end Go.Proofs.YtaaeapjnjjbglaaGreatDoor

namespace Go.Proofs.YtaaeapjnjjbglaaGreatDoor
open Go.RowKit

/-- The best one so far, in its blocks. -/
def BestJ (mb : Nat) (st : Option (List Laid × Nat)) (Fp : Nat → Prop) (w : World) : Prop :=
  match st with
  | none => Blk w mb 94 #[.pointer none] ∧ ∀ r, Fp r ↔ r = mb
  | some b => ∃ M D cap, Blk w mb 94 #[.pointer (some ⟨M, 0, none⟩)] ∧ Blk w M 96 #[.slice (some ⟨D, 0, none⟩) b.1.length cap, .int .i64 (b.2 : Nat)] ∧
      w.ownsRow 0 55 5 (.slice (some ⟨D, 0, none⟩) b.1.length cap) b.1.length (b.1.map Laid.cells).flatten ∧ (∀ r, Fp r ↔ r = mb ∨ r = M ∨ r = D) ∧ 0 < b.1.length ∧ b.1.length ≤ 100 ∧ b.2 ≤ 1000
theorem BestJ.keep {mb : Nat} {st : Option (List Laid × Nat)} {Fp : Nat → Prop} {w w' : World} (h : BestJ mb st Fp w) (hk : ∀ r, Fp r → w'.heap[r]? = w.heap[r]?) : BestJ mb st Fp w' := by
  cases st with
  | none => exact ⟨(hk mb ((h.2 mb).2 rfl)).trans h.1, h.2⟩
  | some b =>
    obtain ⟨M, D, cap, h1, h2, h3, h4, h5⟩ := h
    refine ⟨M, D, cap, (hk mb ((h4 mb).2 (Or.inl rfl))).trans h1, (hk M ((h4 M).2 (Or.inr (Or.inl rfl)))).trans h2, ⟨h3.1, ?_⟩, h4, h5⟩
    rcases h3.2 with h' | ⟨g, cap', cur, hv, hg, hh, rest⟩
    · exact Or.inl h'
    · refine Or.inr ⟨g, cap', cur, hv, hg, ?_, rest⟩
      cases hv
      rw [hk _ ((h4 _).2 (Or.inr (Or.inr rfl)))]
      exact hh
set_option maxHeartbeats 1000000 in
theorem bestLong_c (mb : Nat) (st : Option (List Laid × Nat)) (Fp : Nat → Prop) (n : Nat) (_hn : n ≤ 100) (w : World) (h : BestJ mb st Fp w) :
    Calls Tryz.prog 32 #[.int .i64 (n : Int), .pointer (some ⟨mb, 0, none⟩)] w fun e w' => e = .returned (.bool (longB st n)) ∧ Ext w w' := by
  cases st with
  | none =>
    have b0 := h.1.cell
    clear h
    go_enter Tryz.func32, Tryz.ntmps32
    go_wp2_with fail
    go_ret
    exact ⟨rfl, Ext.refl _⟩
  | some b =>
    obtain ⟨M, D, cap, h1, h2, -, -, h5, h6, -⟩ := h
    have b0 := h1.cell
    have m0 := h2.cell
    obtain ⟨k, hk⟩ : ∃ k, b.1.length = k := ⟨_, rfl⟩
    have Hl : Hid (longB (some b) n = decide (k < n)) := Lib.hid (by show decide (b.1.length < n) = _; rw [hk])
    rw [hk] at m0 h5 h6
    have hd : decide ((k : Int) < (n : Int)) = decide (k < n) := by simp
    clear h1 h2 hk
    go_enter Tryz.func32, Tryz.ntmps32
    go_wp2_with fail
    go_ret
    exact ⟨by rw [Hl.out] <;> simp, Ext.refl _⟩
theorem weakN_le (s : Shape) (ok : s.Ok) (out : List Nat) : weakN s out ≤ 1000 := by
  have h1 := edgesS_len s s.cells.length
  have h2 := s.len_le ok
  have h3 : weakN s out ≤ (eds s).length := List.countP_le_length
  have h4 : (eds s).length ≤ 2 * s.cells.length := h1
  omega

/-- What 'see' leaves behind. -/
def SeePost (s : Shape) (l : List Plate) (mb : Nat) (st : Option (List Laid × Nat)) (Fp : Nat → Prop) (c : List Laid) (out : List Nat) (w : World) (e : Ending) (w' : World) : Prop :=
  (∃ v, e = .returned v) ∧ ∃ Fp', BestJ mb (seeB s l st c out) Fp' w' ∧ (∀ r, Fp' r → Fp r ∨ w.heap.size ≤ r) ∧ (∀ r, Fp' r → r < w'.heap.size) ∧ Only Fp w w'

theorem SeePost.drew {s : Shape} {l : List Plate} {mb : Nat} {st : Option (List Laid × Nat)} {Fp : Nat → Prop} {c : List Laid} {out : List Nat} {w : World} {e : Ending} {w' : World} (h : SeePost s l mb st Fp c out w e w') : SeePost s l mb st Fp c out w e w'.drew := by
  obtain ⟨h1, Fp', h2, h3, h4, h5⟩ := h
  refine ⟨h1, Fp', h2.keep fun r _ => rfl, h3, h4, ⟨h5.os, h5.tape, h5.output, h5.size, h5.block⟩⟩
theorem BestJ.box {mb : Nat} {st : Option (List Laid × Nat)} {Fp : Nat → Prop} {w : World} (h : BestJ mb st Fp w) : ∃ v, Blk w mb 94 #[v] ∧ Fp mb := by
  cases st with
  | none => exact ⟨_, h.1, (h.2 mb).2 rfl⟩
  | some b =>
    obtain ⟨M, D, cap, h1, _, _, h4, _⟩ := h
    exact ⟨_, h1, (h4 mb).2 (Or.inl rfl)⟩
/-- A better one has been laid by. -/
theorem best_new {s : Shape} {l : List Plate} {mb : Nat} {st : Option (List Laid × Nat)} {Fp : Nat → Prop} {c : List Laid} {out : List Nat} {w w6 : World} (hJ : BestJ mb st Fp w) (hs : seeB s l st c out = some (c, weakN s out)) (E : Ext w w6) {base D cap : Nat} (hb : w.heap.size ≤ base)
    (hD : w6.ownsRow base 55 5 (.slice (some ⟨D, 0, none⟩) c.length cap) c.length (c.map Laid.cells).flatten) (hpos : 0 < c.length) (hc : c.length ≤ 100) (hwk : weakN s out ≤ 1000) (v : Value) :
    SeePost s l mb st Fp c out w (.returned v) ((w6.setCell ⟨mb, 0, none⟩ (.pointer (some ⟨w6.heap.size, 0, none⟩))).alloc (.cells #[.slice (some ⟨D, 0, none⟩) c.length cap, .int .i64 (weakN s out : Nat)] 96)) := by
  obtain ⟨v0, h1, h2⟩ := hJ.box
  have hmlt := h1.lt
  have hE := E.size
  obtain ⟨hD1, hD2⟩ := hD.lt D rfl
  obtain ⟨u, hu⟩ : ∃ u : Value, Value.pointer (some ⟨w6.heap.size, 0, none⟩) = u := ⟨_, rfl⟩
  have hsz : (w6.setCell ⟨mb, 0, none⟩ u).heap.size = w6.heap.size := by simp [World.setCell]
  have E7 := ext_alloc (w6.setCell ⟨mb, 0, none⟩ u) (.cells #[.slice (some ⟨D, 0, none⟩) c.length cap, .int .i64 (weakN s out : Nat)] 96)
  have B7 := Blk.new (w6.setCell ⟨mb, 0, none⟩ u) #[.slice (some ⟨D, 0, none⟩) c.length cap, .int .i64 (weakN s out : Nat)] 96
  rw [hsz] at B7
  have O6 : Only (fun r => r = mb) w6 (w6.setCell ⟨mb, 0, none⟩ u) := (Only.refl (fun r => r = mb) _).setCell (p := ⟨mb, 0, none⟩) (fun _ => rfl) _
  rw [hu]
  refine ⟨⟨_, rfl⟩, fun r => r = mb ∨ r = w6.heap.size ∨ r = D, ?_, fun r hr => ?_, fun r hr => ?_, ((Only.of_ext Fp E).setCell (p := ⟨mb, 0, none⟩) (fun _ => h2) _).alloc _⟩
  · rw [hs]
    refine ⟨w6.heap.size, D, cap, ?_, B7, ?_, fun r => Iff.rfl, hpos, hc, hwk⟩
    · rw [hu]
      exact ((h1.ext E).set_ 0 u).ext E7
    · refine own_only (K := fun r => r = mb) (own_base hD (Nat.zero_le _)) (O6.ext E7) fun r hr e => ?_
      simp only [Value.ownBlock, Option.some.injEq] at hr
      omega
  · rcases hr with rfl | rfl | rfl
    · exact Or.inl h2
    · exact Or.inr hE
    · exact Or.inr (by omega)
  · rw [World.size_alloc, hsz]
    rcases hr with rfl | rfl | rfl <;> omega

theorem cell_far {w : World} {p q : Addr} {u v : Value} (h : w.cell? q = some v) (hb : q.block ≠ p.block) : (w.setCell p u).cell? q = some v := by
  unfold World.cell? at h ⊢
  rw [Below.heap_setCell w p u q.block hb]
  exact h
set_option maxRecDepth 100000 in
set_option maxHeartbeats 8000000 in
theorem bestSee_c (nb mb : Nat) (g : Nat) (s : Shape) (A : Option Addr) (cap : Nat) (l : List Plate) (PA : Option Addr) (pcap : Nat) (NA : Option Addr) (ncap : Nat) (AA : Option Addr) (acap : Nat) (EA : Option Addr) (ec : Nat) (OA : Option Addr) (oc : Nat) (LA : Option Addr) (lc : Nat) (ms : List Nat)
    (st : Option (List Laid × Nat)) (Fp : Nat → Prop) (c : List Laid) (out : List Nat) (CA : Option Addr) (cc : Nat) (SA : Option Addr) (sc : Nat) (ok : s.Ok) (ha : Apart s l c out) (hc : c.length ≤ 100) (w : World)
    (hB : Board w g s A cap l PA pcap NA ncap AA acap EA ec OA oc LA lc ms) (hT : TzTab w) (hN : Blk w nb 65 #[.pointer (some ⟨g, 0, none⟩)]) (hJ : BestJ mb st Fp w) (hlt : ∀ r, Fp r → r < w.heap.size) (hC : Laids w CA cc c) (hS : SliceIs w SA out.length sc 1 (out.map fun m => [uv m])) :
    Calls Tryz.prog 33 #[.slice CA c.length cc, .slice SA out.length sc, .pointer (some ⟨nb, 0, none⟩), .pointer (some ⟨mb, 0, none⟩)] w (SeePost s l mb st Fp c out w) := by
  have hwk := weakN_le s ok out
  obtain ⟨wk, hw⟩ : ∃ wk, weakN s out = wk := ⟨_, rfl⟩
  obtain ⟨hh, hhb⟩ : ∃ hh, hangB s l c = hh := ⟨_, rfl⟩
  have Hh := Lib.hid hhb
  have Hw := Lib.hid hw
  have HA := Lib.hid ha
  have HJ := Lib.hid hJ
  have Hlt := Lib.hid hlt
  have n0 := hN.cell
  have hsm : Hid (∀ i, i < out.length → outAt out i < 65536) := Lib.hid (fun i hi => HA.out.small (by rw [← HA.out.len]; exact hi))
  have hol : out.length ≤ 1000 := by rw [ha.len]; omega
  have hpos := ha.pos
  rw [hw] at hwk
  clear hhb hw ha hJ hlt
  go_enter Tryz.func33, Tryz.ntmps33
  go_wp2_with fail
  refine (hangs_c g s A cap l PA pcap NA ncap AA acap EA ec OA oc LA lc ms c out SA sc HA.out (by omega) _ hB hS hT).mono ?_
  rintro e w1 ⟨rfl, E1⟩
  rw [Hh.out]
  have n1 := (hN.ext E1).cell
  clear n0
  have HJ1 := Lib.hid (HJ.out.keep (fun r hr => E1.block r (Hlt.out r hr)))
  cases hh
  · have Hsee : Hid (seeB s l st c out = st) := Lib.hid (by unfold seeB; rw [Hh.out, if_neg (by simp)])
    go_wp2_with fail
    go_end0
    exact ⟨⟨_, rfl⟩, Fp, by rw [Hsee.out]; exact HJ1.out, fun r hr => Or.inl hr, fun r hr => Nat.lt_of_lt_of_le (Hlt.out r hr) E1.size, Only.of_ext _ E1⟩
  · go_wp2_with fail
    refine (weak_c g s A cap l PA pcap NA ncap AA acap EA ec OA oc LA lc ms out SA sc ok hsm.out hol _ (hB.ext E1) (hS.ext E1)).mono ?_
    rintro e w2 ⟨rfl, E2⟩
    rw [Hw.out]
    have E12 := E1.trans E2
    have HJ2 := Lib.hid (HJ.out.keep (fun r hr => E12.block r (Hlt.out r hr)))
    obtain ⟨X, hX⟩ : ∃ X, w2.heap.size = X := ⟨_, rfl⟩
    have B3 := Blk.new w2 #[.slice CA c.length cc, .int .i64 (wk : Nat)] 96
    have E3 := ext_alloc w2 (.cells #[.slice CA c.length cc, .int .i64 (wk : Nat)] 96)
    obtain ⟨W3, hW3⟩ : ∃ W3, w2.alloc (.cells #[.slice CA c.length cc, .int .i64 (wk : Nat)] 96) = W3 := ⟨_, rfl⟩
    rw [hW3] at B3 E3
    rw [hX] at B3
    have E13 := E12.trans E3
    have b3 := B3.cell
    have hJ3 := HJ.out.keep (fun r hr => E13.block r (Hlt.out r hr))
    obtain ⟨v0, hm0, hF0⟩ := HJ.out.box
    have m3 := (hm0.ext E13).cell
    have lmb := hm0.lt
    obtain ⟨W4, hW4, E4, B4, hz4⟩ := box_ W3 #[.func (.func 36) #[] #[], .func (.func 37) #[] #[]] 99
    have hlx : X < W3.heap.size := B3.lt
    have E14 := E13.trans E4
    have HX := Lib.hid hX
    clear n1
    cases st with
    | none =>
      have hv0 : v0 = .pointer none := by
        have := hm0.symm.trans HJ.out.1
        simpa using this
      subst hv0
      have hsee : seeB s l none c out = some (c, weakN s out) := by unfold seeB; rw [Hh.out, if_pos rfl]
      go_wp2_with fail
      refine (firstNil_c CA c.length cc wk _ _).mono ?_
      rintro e w5 ⟨rfl, E5⟩
      have E15 := E14.trans E5
      have x5 := ((B3.ext E4).ext E5).cell 1
      have hl5 := E15.size
      have HE5 := Lib.hid E15
      have hC5 := hC.ext E15
      have hX5 : X < w5.heap.size := ((B3.ext E4).ext E5).lt
      have Hseeb := Lib.hid hsee
      have HW := Lib.hid hW3
      have hXm : X ≠ mb := by have := E12.size; omega
      simp at x5
      clear b3 m3 hW3 hW4 hz4 hJ3 hsee
      go_wp2_with fail
      go_region_held3 (fun w' => w'.cell? ⟨X, 1, none⟩ = some (.int .i64 (wk : Nat)))
        (first | exact (ext_alloc _ _).cell (cell_far x6 hXm) | exact cell_far x6 hXm | exact E6.cell (by assumption) | exact (ext_alloc _ _).cell (by assumption) | go_keep)
        ((go_simp; go_at_call 38; refine (clone_c CA cc c hpos (by omega) _ (hC5.ext (Ext.refl _).drew)).mono ?_; rintro e w6 ⟨D, cp, rfl, ownD, E6⟩; have x6 : w6.cell? ⟨X, 1, none⟩ = some (.int .i64 (wk : Nat)) := E6.cell x5; have E16 := HE5.out.drew.trans E6; have m6 := (hm0.ext E16).cell; have f6 := (hm0.ext E16).frozen; have l6 := (hm0.ext E16).lt))
      all_goals
        go_wp2_with fail
        go_end0
        rw [← Hw.out]
        exact best_new HJ.out Hseeb.out E16 (by show _ ≤ w5.heap.size; omega) ownD hpos hc (by rw [Hw.out]; exact hwk) _
    | some b =>
      obtain ⟨M, D, bcap, h1, h2, h3, h4, h5, h6, h7⟩ := HJ.out
      have hv0 : v0 = .pointer (some ⟨M, 0, none⟩) := by
        have := hm0.symm.trans h1
        simpa using this
      subst hv0
      have hbet : firstB c.length (wk : Nat) b.1.length (b.2 : Nat) = better s c out b := by
        rw [Bool.eq_iff_iff, better_iff, Hw.out]
        simp [firstB]
      obtain ⟨kb, hkb⟩ : ∃ kb, firstB c.length (wk : Nat) b.1.length (b.2 : Nat) = kb := ⟨_, rfl⟩
      have Hkb := Lib.hid hkb
      have Hbet := Lib.hid hbet
      have hM4 := (h2.ext E13).ext E4
      have B4' := B4
      clear h1 h2 h3 h4 hkb hbet
      go_wp2_with fail
      refine (firstOf_c M W3.heap.size CA c.length cc wk (some ⟨D, 0, none⟩) b.1.length bcap b.2 (by omega) (by omega) ⟨by omega, by omega⟩ ⟨by omega, by omega⟩ _ hM4 B4').mono ?_
      rintro e w5 ⟨rfl, E5⟩
      rw [Hkb.out]
      cases kb
      · have hsee : seeB s l (some b) c out = some b := by
          unfold seeB
          rw [Hh.out, if_pos rfl]
          simp only
          rw [← Hbet.out, Hkb.out, if_neg (by simp)]
        have Hsee := Lib.hid hsee
        have E15 := Lib.hid (E14.trans E5)
        clear hsee b3 m3 hW3 hW4 hz4 hJ3
        go_wp2_with fail
        go_end0
        exact ⟨⟨_, rfl⟩, Fp, by rw [Hsee.out]; exact HJ.out.keep (fun r hr => E15.out.block r (Hlt.out r hr)), fun r hr => Or.inl hr, fun r hr => Nat.lt_of_lt_of_le (Hlt.out r hr) E15.out.size, Only.of_ext _ E15.out⟩
      · have hsee : seeB s l (some b) c out = some (c, weakN s out) := by
          unfold seeB
          rw [Hh.out, if_pos rfl]
          simp only
          rw [← Hbet.out, Hkb.out, if_pos rfl]
        have E15 := E14.trans E5
        have x5 := ((B3.ext E4).ext E5).cell 1
        have hl5 := E15.size
        have HE5 := Lib.hid E15
        have hC5 := hC.ext E15
        have hX5 : X < w5.heap.size := ((B3.ext E4).ext E5).lt
        have Hseeb := Lib.hid hsee
        have HW := Lib.hid hW3
        have hXm : X ≠ mb := by have := E12.size; omega
        simp at x5
        clear b3 m3 hW3 hW4 hz4 hJ3 hsee
        go_wp2_with fail
        go_region_held3 (fun w' => w'.cell? ⟨X, 1, none⟩ = some (.int .i64 (wk : Nat)))
          (first | exact (ext_alloc _ _).cell (cell_far x6 hXm) | exact cell_far x6 hXm | exact E6.cell (by assumption) | exact (ext_alloc _ _).cell (by assumption) | go_keep)
          ((go_simp; go_at_call 38; refine (clone_c CA cc c hpos (by omega) _ (hC5.ext (Ext.refl _).drew)).mono ?_; rintro e w6 ⟨D, cp, rfl, ownD, E6⟩; have x6 : w6.cell? ⟨X, 1, none⟩ = some (.int .i64 (wk : Nat)) := E6.cell x5; have E16 := HE5.out.drew.trans E6; have m6 := (hm0.ext E16).cell; have f6 := (hm0.ext E16).frozen; have l6 := (hm0.ext E16).lt))
        all_goals
          go_wp2_with fail
          go_end0
          rw [← Hw.out]
          exact best_new HJ.out Hseeb.out E16 (by show _ ≤ w5.heap.size; omega) ownD hpos hc (by rw [Hw.out]; exact hwk) _
end Go.Proofs.YtaaeapjnjjbglaaGreatDoor
