/- The law ComposeModels, walked. -/
import Derived.Test.YtpikemglnnjemaaRModel
import Derived.Test.YtpikemglnnjemaaRKinds
namespace Go.Proofs.Ytpikemglnnjemaa
open Go.RowKit

set_option maxHeartbeats 800000 in
theorem kinds_bad (l : List Plate) (PA : Option Addr) (pcap : Nat) (hp : platesB l = false) (w : World) (hl : Plates w PA pcap l) :
    Calls Try.prog 11 #[.slice PA l.length pcap] w fun e w' => e = .returned (.tuple #[.slice none 0 0, .int .i64 71]) ∧ Ext w w' := by
  have Hpe : Hid (platesErr l = 71) := Lib.hid (by unfold platesErr; rw [hp]; rfl)
  go_enter Try.func11, Try.ntmps11
  go_wp2_with fail
  refine (checkPlates_c PA pcap l _ hl).mono ?_
  rintro e W1 ⟨rfl, E1⟩
  rw [Hpe.out]
  go_wp2_with fail
  go_ret2
  exact ⟨rfl, E1⟩
set_option maxHeartbeats 800000 in
theorem rKinds_bad (l : List Plate) (PA : Option Addr) (pcap : Nat) (hp : platesB l = false) (w : World) (hl : Plates w PA pcap l) :
    Calls Try.prog 12 #[.slice PA l.length pcap] w fun e w' => e = .returned (.tuple #[.slice none 0 0, .int .i64 71]) ∧ Ext w w' := by
  have Hpe := Lib.hid hp
  go_enter Try.func12, Try.ntmps12
  go_wp2_with fail
  refine (rPlates_c PA pcap l _ hl).mono ?_
  rintro e W1 ⟨rfl, E1⟩
  rw [Hpe.out]
  go_wp2_with fail
  go_ret2
  exact ⟨rfl, E1⟩

/-- Some model with these bricks, and an error. -/
def ModelAny (n : Nat) (rows : List (List Value)) (e0 : Int) (w : World) (e : Ending) (w' : World) : Prop :=
  ∃ VA vc, e = .returned (.tuple #[.agg #[.slice VA n vc], .int .i64 e0]) ∧ SliceIs w' VA n vc 6 rows ∧ Ext w w'
/-- Some kinds of the first n plates, and an error. -/
def KindsAny (l : List Plate) (n : Nat) (e0 : Int) (w : World) (e : Ending) (w' : World) : Prop :=
  ∃ OA oc rows T, e = .returned (.tuple #[.slice OA n oc, .int .i64 e0]) ∧ SliceIs w' OA n oc 3 rows ∧ (∀ (j : Nat) (r : List Value) (p : Plate), rows[j]? = some r → l[j]? = some p → KindOwn w' T r p) ∧ Ext w w'
theorem slice_nil (w : World) (sz : Nat) : SliceIs w none 0 0 sz [] := ⟨rfl, Nat.le_refl _, Nat.zero_le _, by simp, fun h => by omega⟩

theorem models_any (s : Shape) (A : Option Addr) (cap : Nat) (l : List Plate) (PA : Option Addr) (pcap : Nat) (c : List Laid) (CA : Option Addr) (ccap : Nat) (hclen : c.length ≤ 1000) (w0 : World) (hs : Bytes w0 A cap s.cells) (hl : Plates w0 PA pcap l) (hcs : Laids w0 CA ccap c) :
    ∃ n rows e0, n ≤ 1000 ∧ (∀ r ∈ rows, BrickRow r) ∧
      (∀ w, Ext w0 w → Calls Try.prog 9 #[.agg #[.int .i64 s.W, .int .i64 s.D, .int .i64 s.H, .slice A s.cells.length cap], .slice PA l.length pcap, .slice CA c.length ccap] w (ModelAny n rows e0 w)) ∧
      (∀ w, Ext w0 w → Calls Try.prog 10 #[.agg #[.int .i64 s.W, .int .i64 s.D, .int .i64 s.H, .slice A s.cells.length cap], .slice PA l.length pcap, .slice CA c.length ccap] w (ModelAny n rows e0 w)) := by
  by_cases he : compErr s l c = 0
  · have key : ∀ w e w', ModelRes s l c w e w' → ModelAny c.length (c.map (brickCells s l)) 0 w e w' := fun w e w' ⟨⟨v, h1, h2⟩, h3⟩ => by
      obtain ⟨VA, vc, rfl⟩ := own_forms h2
      have h2' : w'.ownsRow w.heap.size 66 6 (.slice VA c.length vc) c.length (c.map (brickCells s l)).flatten := by
        unfold bricksV at h2
        rw [List.take_length] at h2
        exact h2
      refine ⟨VA, vc, h1, own_any (by decide) ?_ (by simp) h2', h3⟩
      intro r hr
      obtain ⟨a, _, rfl⟩ := List.mem_map.1 hr
      rfl
    refine ⟨c.length, c.map (brickCells s l), 0, hclen, fun r hr => ?_, fun w E => ?_, fun w E => ?_⟩
    · obtain ⟨a, _, rfl⟩ := List.mem_map.1 hr
      exact ⟨_, _, _, _, _, _, rfl⟩
    · exact (model_ok s A cap l PA pcap c CA ccap he hclen w (hs.ext E) (hl.ext E) (hcs.ext E)).mono (key w)
    · exact (rModel_ok s A cap l PA pcap c CA ccap he hclen w (hs.ext E) (hl.ext E) (hcs.ext E)).mono (key w)
  · refine ⟨0, [], compErr s l c, by omega, by simp, fun w E => ?_, fun w E => ?_⟩
    · exact (model_bad s A cap l PA pcap c CA ccap _ rfl he hclen w (hs.ext E) (hl.ext E) (hcs.ext E)).mono fun e w' ⟨h1, h2⟩ => ⟨none, 0, h1, slice_nil _ _, h2⟩
    · exact (rModel_bad s A cap l PA pcap c CA ccap _ rfl he hclen w (hs.ext E) (hl.ext E) (hcs.ext E)).mono fun e w' ⟨h1, h2⟩ => ⟨none, 0, h1, slice_nil _ _, h2⟩
theorem kinds_any (l : List Plate) (PA : Option Addr) (pcap : Nat) (w0 : World) (hl : Plates w0 PA pcap l) :
    ∃ n e0, n ≤ l.length ∧ (∀ w, Ext w0 w → Calls Try.prog 11 #[.slice PA l.length pcap] w (KindsAny l n e0 w)) ∧
      (∀ w, Ext w0 w → Calls Try.prog 12 #[.slice PA l.length pcap] w (KindsAny l n e0 w)) := by
  have nil : ∀ (e0 : Int) (w : World) (e : Ending) (w' : World), e = .returned (.tuple #[.slice none 0 0, .int .i64 e0]) → Ext w w' → KindsAny l 0 e0 w e w' := fun e0 w e w' h1 h2 =>
    ⟨none, 0, [], 0, h1, slice_nil _ _, fun j r p hj => by simp at hj, h2⟩
  cases hp : platesB l
  · refine ⟨0, 71, by omega, fun w E => ?_, fun w E => ?_⟩
    · exact (kinds_bad l PA pcap hp w (hl.ext E)).mono fun e w' ⟨h1, h2⟩ => nil 71 w e w' h1 h2
    · exact (rKinds_bad l PA pcap hp w (hl.ext E)).mono fun e w' ⟨h1, h2⟩ => nil 71 w e w' h1 h2
  · cases hb : tooBig l
    · have key : ∀ w e w', KindsPost l w e w' → KindsAny l l.length 0 w e w' := fun w e w' h => by
        obtain ⟨⟨OA, oc, rows, h1, h2, h3⟩, h4⟩ := h.1 hb
        refine ⟨OA, oc, rows, _, h1, own_any (by decide) ?_ h3.1 h2, fun j r p hj hq => (h3.2 j r p hj hq).1, h4⟩
        intro r hr
        obtain ⟨j, hj⟩ := List.getElem?_of_mem hr
        have hlt := (List.getElem?_eq_some_iff.1 hj).1
        rw [h3.1] at hlt
        exact (h3.2 j r l[j] hj (List.getElem?_eq_getElem hlt)).2
      exact ⟨l.length, 0, Nat.le_refl _, fun w E => (kinds_c l PA pcap hp w (hl.ext E)).mono (key w), fun w E => (rKinds_c l PA pcap hp w (hl.ext E)).mono (key w)⟩
    · exact ⟨0, 2, by omega, fun w E => (kinds_c l PA pcap hp w (hl.ext E)).mono fun e w' h => nil 2 w e w' (h.2 hb).1 (h.2 hb).2, fun w E => (rKinds_c l PA pcap hp w (hl.ext E)).mono fun e w' h => nil 2 w e w' (h.2 hb).1 (h.2 hb).2⟩

set_option maxRecDepth 100000 in
set_option maxHeartbeats 8000000 in
theorem models_walk (s : Shape) (A : Option Addr) (cap : Nat) (l : List Plate) (PA : Option Addr) (pcap : Nat) (c : List Laid) (CA : Option Addr) (ccap : Nat) (w : World) (hs : Bytes w A cap s.cells) (hl : Plates w PA pcap l) (hcs : Laids w CA ccap c) :
    Calls Try.prog 4 #[.agg #[.int .i64 s.W, .int .i64 s.D, .int .i64 s.H, .slice A s.cells.length cap], .slice PA l.length pcap, .slice CA c.length ccap] w fun e w' => e = .returned (.bool true) ∧ Ext w w' := by
  have hn1 := hs.len
  have hn2 := hl.len
  have hn3 := hcs.len
  obtain ⟨W1, hW1, E1, B1, hz1⟩ := box_ w #[.int .i64 s.W, .int .i64 s.D, .int .i64 s.H, .slice A s.cells.length cap] 25
  have b1 := B1.cell
  obtain ⟨m, hm⟩ : ∃ m, muchB s.cells.length l.length c.length = m := ⟨_, rfl⟩
  have Hm := Lib.hid hm
  cases m
  · have hcl : c.length ≤ 30 ∧ l.length ≤ 20 := by
      unfold muchB at hm
      simp at hm
      omega
    obtain ⟨hcl, hll⟩ := hcl
    clear hm
    obtain ⟨n, rows, e0, hn, hrows, hM, hRM⟩ := models_any s A cap l PA pcap c CA ccap (by omega) w hs hl hcs
    obtain ⟨kn, e1, hkn, hK, hRK⟩ := kinds_any l PA pcap w hl
    have HM := Lib.hid hM
    have HRM := Lib.hid hRM
    have HK := Lib.hid hK
    have HRK := Lib.hid hRK
    have Hrows := Lib.hid hrows
    clear hM hRM hK hRK hrows
    go_enter Try.func4, Try.ntmps4
    go_wp2_with fail
    refine (much_c _ _ _ _ _ _ _ _ _ _ _ _ hn1 hn2 hn3 _).mono ?_
    rintro e W2 ⟨rfl, E2⟩
    rw [Hm.out]
    have E12 := E1.trans E2
    have B12 := B1.ext E2
    clear b1
    have b1 := B12.cell
    go_wp2_with fail
    refine (HM.out _ E12).mono ?_
    rintro e W3 ⟨VA, vc, rfl, S1, E3⟩
    obtain ⟨W4, hW4, E4, B4, hz4⟩ := box_ W3 #[.slice VA n vc] 38
    clear hz4
    have E14 := (E12.trans E3).trans E4
    have B14 := (B12.ext E3).ext E4
    clear b1
    have b1 := B14.cell
    go_wp2_with fail
    refine (HRM.out _ E14).mono ?_
    rintro e W5 ⟨RA, rc, rfl, S2, E5⟩
    obtain ⟨W6, hW6, E6, B6, hz6⟩ := box_ W5 #[.slice RA n rc] 38
    clear hz6
    have E16 := (E14.trans E5).trans E6
    have E46 := E5.trans E6
    go_wp2_with fail
    refine (HK.out _ E16).mono ?_
    rintro e W7 ⟨OA, oc, krows, T1, rfl, S3, K1, E7⟩
    go_wp2_with fail
    refine (HRK.out _ (E16.trans E7)).mono ?_
    rintro e W8 ⟨QA, qc, qrows, T2, rfl, S4, K2, E8⟩
    have E78 := E7.trans E8
    have b4 := (B4.ext (E46.trans E78)).cell
    have b6 := (B6.ext E78).cell
    have K1 := Lib.hid K1
    have K2 := Lib.hid K2
    go_wp2_with fail
    refine (sameModel_c VA RA n vc rc rows Hrows.out _ (S1.ext ((E4.trans E46).trans E78)) (S2.ext (E6.trans E78))).mono ?_
    rintro e W9 ⟨rfl, E9⟩
    go_wp2_with fail
    have E19 := (E16.trans E78).trans E9
    have S3 := S3.ext (E8.trans E9)
    have S4 := S4.ext E9
    have E89 := E8.trans E9
    clear b1 b4 b6
    go_loopw [67] (fun i wr => ∃ k : Nat, k ≤ kn ∧ i = .int .i64 k ∧ Ext W9 wr) (fun i _ => kn - (intOf i).toNat)
    case atStart => exact ⟨0, by omega, rfl, Ext.refl _⟩
    case round =>
      obtain ⟨k, hk, rfl, E⟩ := hrel
      by_cases hlt : k < kn
      · obtain ⟨kr, g1⟩ : ∃ r, krows[k]? = some r := ⟨_, List.getElem?_eq_getElem (by rw [S3.len]; exact hlt)⟩
        obtain ⟨qr, g2⟩ : ∃ r, qrows[k]? = some r := ⟨_, List.getElem?_eq_getElem (by rw [S4.len]; exact hlt)⟩
        obtain ⟨p, hp⟩ : ∃ p, l[k]? = some p := ⟨_, List.getElem?_eq_getElem (by omega)⟩
        obtain ⟨C1, cc1, D1, dc1, hr1, o1, o2⟩ := K1.out k _ p g1 hp
        obtain ⟨C2, cc2, D2, dc2, hr2, o3, o4⟩ := K2.out k _ p g2 hp
        rw [hr1] at g1
        rw [hr2] at g2
        obtain ⟨ka, koff, hOA, hka, kc⟩ := S3.cells (by omega)
        obtain ⟨qa, qoff, hQA, hqa, qc'⟩ := S4.cells (by omega)
        have k0 := E.cell (kc k _ g1 0 _ rfl)
        have k1 := E.cell (kc k _ g1 1 _ rfl)
        have k2 := E.cell (kc k _ g1 2 _ rfl)
        have q0 := E.cell (qc' k _ g2 0 _ rfl)
        have q1 := E.cell (qc' k _ g2 1 _ rfl)
        have q2 := E.cell (qc' k _ g2 2 _ rfl)
        simp only [Nat.add_zero] at k0 q0
        subst hOA hQA
        have s1 : SliceIs wr C1 (areaP p) cc1 3 (cellRows p (areaP p)) := own_any (by decide) (by
          intro r hr
          obtain ⟨_, _, _, rfl⟩ := cellRows_row p _ r hr
          rfl) (cellRows_len p _) (own_ext o1 (E89.trans E))
        have s2 : SliceIs wr D1 (2 * areaP p) dc1 5 (knobRows p (areaP p)) := own_any (by decide) (by
          intro r hr
          obtain ⟨_, _, _, _, _, rfl⟩ := knobRows_row p _ r hr
          rfl) (knobRows_len p _) (own_ext o2 (E89.trans E))
        have s3 : SliceIs wr C2 (areaP p) cc2 3 (cellRows p (areaP p)) := own_any (by decide) (by
          intro r hr
          obtain ⟨_, _, _, rfl⟩ := cellRows_row p _ r hr
          rfl) (cellRows_len p _) (own_ext o3 (E9.trans E))
        have s4 : SliceIs wr D2 (2 * areaP p) dc2 5 (knobRows p (areaP p)) := own_any (by decide) (by
          intro r hr
          obtain ⟨_, _, _, _, _, rfl⟩ := knobRows_row p _ r hr
          rfl) (knobRows_len p _) (own_ext o4 (E9.trans E))
        have hkr : ka < wr.heap.size := Nat.lt_of_lt_of_le hka E.size
        have hqr : qa < wr.heap.size := Nat.lt_of_lt_of_le hqa E.size
        have Hs := Lib.hid (fun x => sameKind_c C1 C2 (areaP p) cc1 cc2 D1 D2 (2 * areaP p) dc1 dc2 (p.W * p.D) _ _ (cellRows_row p _) (knobRows_row p _) (grow wr x) (s1.ext ((Ext.refl _).grow x)) (s3.ext ((Ext.refl _).grow x)) (s2.ext ((Ext.refl _).grow x)) (s4.ext ((Ext.refl _).grow x)))
        clear kc qc' g1 g2 hr1 hr2 o1 o2 o3 o4 s1 s2 s3 s4 hp
        go_wp2_with fail
        refine wp_region_grow (by kernel_rfl) (by kernel_rfl) ?_
        repeat (go_big_quiet_step ((go_at_call 14; exact quiet_ext (Hs.out _))))
        refine wpQuiet_nil ?_
        intro W10 hW10
        have E10 : Ext wr W10 := by
          obtain ⟨x, rfl⟩ := hW10
          exact (Ext.refl _).grow x
        clear hW10
        obtain ⟨hcW10, hfW10, hzW10⟩ := ext_facts E10
        go_wp2_with fail
        go_roundw
        case rel => exact ⟨k + 1, by omega, by go_num, E.trans E10⟩
        case measure => simp only [intOf]; omega
      · obtain rfl : k = kn := by omega
        go_wp2_with fail
        go_ret
        exact ⟨rfl, E19.trans E⟩
  · clear hm
    go_enter Try.func4, Try.ntmps4
    go_wp2_with fail
    refine (much_c _ _ _ _ _ _ _ _ _ _ _ _ hn1 hn2 hn3 _).mono ?_
    rintro e W2 ⟨rfl, E2⟩
    rw [Hm.out]
    go_wp2_with fail
    go_ret
    exact ⟨rfl, E1.trans E2⟩
end Go.Proofs.Ytpikemglnnjemaa
