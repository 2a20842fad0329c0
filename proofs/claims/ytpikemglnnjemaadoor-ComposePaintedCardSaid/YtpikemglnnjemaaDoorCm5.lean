/- Composition and Check of the reference. Weakness, by sets and by definition: plain. seam, Weakness and Weak of the reference. Weakness of the reference. -/
import Derived.Test.YtpikemglnnjemaaDoorCm4

namespace Go.Proofs.YtpikemglnnjemaaDoor
open Go.RowKit

theorem lies_is {s : Shape} {A : Option Addr} {cap : Nat} {l : List Plate} {PA : Option Addr} {pcap : Nat} {a : Laid} {r : Bool} (h : liesB s l a = r) (ok : s.Ok) (okl : platesB l = true) (w : World) (hs : Bytes w A cap s.cells) (hl : Plates w PA pcap l) :
    Calls Tryd.prog 96 #[.agg #[.int .i64 s.W, .int .i64 s.D, .int .i64 s.H, .slice A s.cells.length cap], .slice PA l.length pcap, .agg #[.int .i64 a.plate, .int .i64 a.x, .int .i64 a.y, .int .i64 a.z, .bool a.turned]] w fun e w' =>
      e = .returned (.bool r) ∧ Ext w w' := by
  subst h
  exact lies_f s A cap l PA pcap _ _ _ _ _ ok okl w hs hl
theorem by_is {l : List Plate} {A : Option Addr} {cap : Nat} {CA : Option Addr} {ccap : Nat} {c : List Laid} {x y z r : Int} (h : byI l c x y z = r) (okl : platesB l = true) (hc : ∀ (k : Nat) (a : Laid), c[k]? = some a → a.Ok l) (hlen : c.length ≤ 1000) (w : World) (hl : Plates w A cap l) (hcs : Laids w CA ccap c) :
    Calls Tryd.prog 98 #[.slice A l.length cap, .slice CA c.length ccap, .int .i64 x, .int .i64 y, .int .i64 z] w fun e w' => e = .returned (.int .i64 r) ∧ Ext w w' := by
  subst h
  exact by_c A cap l CA ccap c x y z okl hc hlen w hl hcs
theorem comp_bad {s : Shape} {l : List Plate} {c : List Laid} {k : Nat} (hk : k < c.length) (h : compAt s l c k = false) : compB s l c = false := by
  unfold compB
  rw [Bool.and_eq_false_iff]
  left
  rw [List.all_eq_false]
  exact ⟨k, List.mem_range.2 hk, by simp [h]⟩
theorem comp_open {s : Shape} {l : List Plate} {c : List Laid} {k : Nat} (hk : k < s.cells.length) (h : coveredAt s l c k = false) : compB s l c = false := by
  unfold compB
  rw [Bool.and_eq_false_iff]
  right
  rw [List.all_eq_false]
  exact ⟨k, List.mem_range.2 hk, by simp [h]⟩
theorem comp_good {s : Shape} {l : List Plate} {c : List Laid} (h1 : ∀ j, j < c.length → compAt s l c j = true) (h2 : ∀ j, j < s.cells.length → coveredAt s l c j = true) : compB s l c = true := by
  unfold compB
  rw [Bool.and_eq_true, List.all_eq_true, List.all_eq_true]
  exact ⟨fun j hj => h1 j (List.mem_range.1 hj), fun j hj => h2 j (List.mem_range.1 hj)⟩

set_option maxRecDepth 100000 in
set_option maxHeartbeats 8000000 in
theorem rComp_c (s : Shape) (A : Option Addr) (cap : Nat) (l : List Plate) (PA : Option Addr) (pcap : Nat) (c : List Laid) (CA : Option Addr) (ccap : Nat) (ok : s.Ok) (okl : platesB l = true) (hclen : c.length ≤ 1000) (w : World)
    (hs : Bytes w A cap s.cells) (hl : Plates w PA pcap l) (hcs : Laids w CA ccap c) :
    Calls Tryd.prog 61 #[.agg #[.int .i64 s.W, .int .i64 s.D, .int .i64 s.H, .slice A s.cells.length cap], .slice PA l.length pcap, .slice CA c.length ccap] w fun e w' =>
      e = .returned (.bool (compB s l c)) ∧ Ext w w' := by
  have hmk := make_ints l.length (by have := plates_len okl; omega)
  obtain ⟨W1, hW1, E1, B1, hz1⟩ := box_ w #[.int .i64 s.W, .int .i64 s.D, .int .i64 s.H, .slice A s.cells.length cap] 24
  obtain ⟨W2, hW2, E2, B2, hz2⟩ := box_ W1 (intsA (List.replicate l.length 0)) 3
  have hl8 := plates_len okl
  have hl256 := s.len_le ok
  obtain ⟨w1, w2⟩ := ok.w
  obtain ⟨d1, d2⟩ := ok.d
  obtain ⟨h1, h2⟩ := ok.h
  rw [hz1] at B2
  rw [← usedL_zero l c] at B2
  have B1 := B1.ext E2
  have b1 := B1.cell
  have E12 := E1.trans E2
  obtain ⟨S, hS⟩ : ∃ S, w.heap.size = S := ⟨_, rfl⟩
  rw [hS] at B1 B2 b1
  go_enter Tryd.func61, Tryd.ntmps61
  go_wp2_with fail
  clear hmk
  have HS := Lib.hid hS
  clear hS
  go_loopw [8] (fun i wr => ∃ k : Nat, k ≤ c.length ∧ i = .int .i64 k ∧ Ext w wr ∧ Blk wr S 24 #[.int .i64 s.W, .int .i64 s.D, .int .i64 s.H, .slice A s.cells.length cap] ∧
      Blk wr (S + 1) 3 (intsA (usedL l c k)) ∧ ∀ j, j < k → compAt s l c j = true) (fun i _ => c.length - (intOf i).toNat)
  case atStart => exact ⟨0, by omega, rfl, E12, B1, B2, fun j hj => by omega⟩
  case round =>
    obtain ⟨k, hk, rfl, E, BS, BU, hall⟩ := hrel
    have Hall := Lib.hid hall
    clear hall b1 B1 B2
    have bs := BS.cell
    have hsr := hs.ext E
    have hlr := hl.ext E
    by_cases hlt : k < c.length
    · obtain ⟨b, off, a, rfl, ha, hb, a0, a1, a2, a3, a4⟩ := hcs.at_ hlt
      obtain ⟨q0, q1, q2, q3, q4⟩ := E.five a0 a1 a2 a3 a4
      have hbr : b < wr.heap.size := Nat.lt_of_lt_of_le hb E.size
      have Ha := Lib.hid ha
      have Hla := Lib.hid (laidAt_eq ha)
      clear ha
      cases hli : liesB s l a
      · have Hbad : Hid (compB s l c = false) := Lib.hid (comp_bad hlt (by unfold compAt; rw [Hla.out, hli]; rfl))
        have Hli := Lib.hid hli
        clear hli
        go_wp2_with fail
        refine wp_region_grow (by kernel_rfl) (by kernel_rfl) ?_
        repeat (go_big_quiet_step ((go_at_call 96; exact quiet_ext (lies_is Hli.out ok okl _ (hsr.grow_ _) (hlr.grow_ _)))))
        refine wpQuiet_nil ?_
        intro W3 hW3
        have E3 : Ext wr W3 := by
          obtain ⟨x, rfl⟩ := hW3
          exact (Ext.refl _).grow x
        clear hW3
        obtain ⟨hcW3, hfW3, hzW3⟩ := ext_facts E3
        go_wp2_with fail
        go_ret
        exact ⟨by rw [Hbad.out]; rfl, E.trans E3⟩
      · have hok := laid_ok ok hli
        have hin : s.inside a.x a.y a.z = true := (lies_iff.1 hli).2.1
        obtain ⟨hp1, hp2⟩ := hok.p
        clear hok
        obtain ⟨pb, poff, p, rfl, hpl, hpb, p0, p1, p2, p3⟩ := hl.at_ (k := a.plate.toNat) (by omega)
        have okp := (plate_ok okl hpl).n
        have Hp := Lib.hid (plateAt_eq hpl)
        clear hpl
        have hun : usedN c k a.plate ≤ 1000 := by have := usedN_le c k a.plate; omega
        have hpt : ((a.plate.toNat : Nat) : Int) = a.plate := by omega
        have Hget : Hid ((usedL l c k)[a.plate.toNat]? = some (usedN c k a.plate : Int)) := Lib.hid (by
          have := usedL_get (l := l) (c := c) (k := k) (p := a.plate.toNat) (by omega)
          rwa [hpt] at this)
        have Hset : Hid ((usedL l c k).set a.plate.toNat ((usedN c k a.plate : Int) + 1) = usedL l c (k + 1)) := Lib.hid (by
          have := usedL_succ (l := l) (p := a.plate.toNat) Ha.out hpt.symm
          rwa [hpt] at this)
        have Hsucc : Hid (usedN c (k + 1) a.plate = usedN c k a.plate + 1) := Lib.hid (by
          have := usedN_succ Ha.out a.plate
          rwa [if_pos rfl] at this)
        clear hpt
        have Hli := Lib.hid hli
        clear hli
        by_cases hk0 : k = 0
        · subst hk0
          simp only [Nat.zero_mul, Nat.add_zero] at q0 q1 q2 q3 q4 a0 a1 a2 a3 a4
          have Hord : Hid ((decide (0 = 0) || decide (idxL s (laidAt c (0 - 1)) < idxL s a)) = true) := Lib.hid (by simp)
          go_wp2_with fail
          refine wp_region_grow (by kernel_rfl) (by kernel_rfl) ?_
          repeat (go_big_quiet_step ((go_at_call 96; exact quiet_ext (lies_is Hli.out ok okl _ (hsr.grow_ _) (hlr.grow_ _)))))
          refine wpQuiet_nil ?_
          intro W3 hW3
          have E3 : Ext wr W3 := by
            obtain ⟨x, rfl⟩ := hW3
            exact (Ext.refl _).grow x
          clear hW3
          obtain ⟨hcW3, hfW3, hzW3⟩ := ext_facts E3
          have E03 := E.trans E3
          obtain ⟨c0, c1, c2, c3, c4⟩ := E03.five a0 a1 a2 a3 a4
          have BU3 := BU.ext E3
          have bu3 : W3.cell? ⟨S + 1, a.plate.toNat, none⟩ = some (.int .i64 (usedN c 0 a.plate)) := by rw [BU3.cell, intsA_get, Hget.out]; rfl
          have fu3 := BU3.frozen a.plate.toNat
          obtain ⟨W4, hW4, BU4, keep4, ext4, hz4⟩ := BU3.store1 a.plate.toNat (.int .i64 ((usedN c 0 a.plate : Int) + 1))
          rw [intsA_set, Hset.out] at BU4
          have E04 : Ext w W4 := ext4 w E03 (by rw [HS.out]; omega)
          have BS4 := keep4 S _ _ (by omega) (BS.ext E3)
          obtain ⟨r0, r1, r2, r3, r4⟩ := E04.five a0 a1 a2 a3 a4
          obtain ⟨t0, t1, t2, t3⟩ := E04.four p0 p1 p2 p3
          have bu4 : W4.cell? ⟨S + 1, a.plate.toNat, none⟩ = some (.int .i64 ((usedN c 0 a.plate : Int) + 1)) := by
            have hg := usedL_get (l := l) (c := c) (k := 0 + 1) (p := a.plate.toNat) (by omega)
            rw [show ((a.plate.toNat : Nat) : Int) = a.plate by omega, Hsucc.out] at hg
            rw [BU4.cell, intsA_get, hg]
            simp [iv]
          by_cases hu : p.N < (usedN c 0 a.plate : Int) + 1
          · have hub : decide (p.N < (usedN c 0 a.plate : Int) + 1) = true := by simpa using hu
            have Hbad : Hid (compB s l c = false) := Lib.hid (comp_bad hlt (by
              unfold compAt
              rw [Hla.out, Hp.out, Hsucc.out, decide_eq_false (p := (((usedN c 0 a.plate + 1 : Nat) : Int) ≤ p.N)) (by omega), Bool.and_false, Bool.and_false]))
            clear hu
            go_wp2_with fail
            refine wp_region_grow (by kernel_rfl) (by kernel_rfl) ?_
            repeat (go_big_quiet_step (fail))
            refine wpQuiet_nil ?_
            intro W5 hW5
            have E5 : Ext W4 W5 := by
              obtain ⟨x, rfl⟩ := hW5
              exact (Ext.refl _).grow x
            clear hW5
            obtain ⟨hcW5, hfW5, hzW5⟩ := ext_facts E5
            go_wp2_with fail
            go_ret
            exact ⟨by rw [Hbad.out]; rfl, E04.trans E5⟩
          · have hub : decide (p.N < (usedN c 0 a.plate : Int) + 1) = false := by simpa using hu
            have Hgood : Hid (compAt s l c 0 = true) := Lib.hid (by
              unfold compAt
              rw [Hla.out, Hp.out, Hsucc.out, Hli.out, decide_eq_true (p := (((usedN c 0 a.plate + 1 : Nat) : Int) ≤ p.N)) (by omega), Bool.and_true, Bool.true_and]
              exact Hord.out)
            clear hu
            go_wp2_with fail
            refine wp_region_grow (by kernel_rfl) (by kernel_rfl) ?_
            repeat (go_big_quiet_step (fail))
            refine wpQuiet_nil ?_
            intro W5 hW5
            have E5 : Ext W4 W5 := by
              obtain ⟨x, rfl⟩ := hW5
              exact (Ext.refl _).grow x
            clear hW5
            obtain ⟨hcW5, hfW5, hzW5⟩ := ext_facts E5
            go_wp2_with fail
            go_roundw
            case rel =>
              refine ⟨0 + 1, by omega, by go_num, E04.trans E5, BS4.ext E5, BU4.ext E5, fun j hj => ?_⟩
              rcases Nat.lt_or_ge j 0 with h | h
              · exact Hall.out j h
              · obtain rfl : j = 0 := by omega
                exact Hgood.out
            case measure => simp only [intOf]; omega
        · obtain ⟨b', off', a', hA', ha', hb', a0', a1', a2', a3', a4'⟩ := hcs.at_ (k := k - 1) (by omega)
          cases hA'
          obtain ⟨q0', q1', q2', q3', q4'⟩ := E.five a0' a1' a2' a3' a4'
          have Hla' := Lib.hid (laidAt_eq ha')
          clear ha'
          have hin' : s.inside a'.x a'.y a'.z = true := by
            have := Hall.out (k - 1) (by omega)
            unfold compAt at this
            rw [Bool.and_eq_true, Hla'.out] at this
            exact (lies_iff.1 this.1).2.1
          have hkc : (((k - 1 : Nat) : Nat) : Int) = (k : Int) - 1 := by omega
          have ht : ((k : Int) - 1).toNat = k - 1 := by omega
          have hk1 : (1 : Int) ≤ k := by omega
          have hk2 : 0 < k := by omega
          by_cases hidx : s.idx a.x a.y a.z ≤ s.idx a'.x a'.y a'.z
          · have hdec : decide (s.idx a.x a.y a.z ≤ s.idx a'.x a'.y a'.z) = true := by simpa using hidx
            have Hbad : Hid (compB s l c = false) := Lib.hid (comp_bad hlt (by
              unfold compAt idxL
              rw [Hla.out, Hla'.out, decide_eq_false hk0, decide_eq_false (p := s.idx a'.x a'.y a'.z < s.idx a.x a.y a.z) (by omega)]
              simp))
            clear hidx hk0
            go_wp2_with fail
            refine wp_region_grow (by kernel_rfl) (by kernel_rfl) ?_
            repeat (go_big_quiet_step ((first | (go_at_call 96; exact quiet_ext (lies_is Hli.out ok okl _ (hsr.grow_ _) (hlr.grow_ _))) | (go_at_call 97; exact quiet_ext (index_c s A cap _ _ _ ok (by assumption) _)))))
            refine wpQuiet_nil ?_
            intro W3 hW3
            have E3 : Ext wr W3 := by
              obtain ⟨x, rfl⟩ := hW3
              exact (Ext.refl _).grow x
            clear hW3
            obtain ⟨hcW3, hfW3, hzW3⟩ := ext_facts E3
            go_wp2_with fail
            go_ret
            exact ⟨by rw [Hbad.out]; rfl, E.trans E3⟩
          · have hdec : decide (s.idx a.x a.y a.z ≤ s.idx a'.x a'.y a'.z) = false := by simpa using hidx
            have Hord : Hid ((decide (k = 0) || decide (idxL s (laidAt c (k - 1)) < idxL s a)) = true) := Lib.hid (by
              unfold idxL
              rw [Hla'.out, decide_eq_true (p := s.idx a'.x a'.y a'.z < s.idx a.x a.y a.z) (by omega), Bool.or_true])
            clear hidx hk0
            go_wp2_with fail
            refine wp_region_grow (by kernel_rfl) (by kernel_rfl) ?_
            repeat (go_big_quiet_step ((first | (go_at_call 96; exact quiet_ext (lies_is Hli.out ok okl _ (hsr.grow_ _) (hlr.grow_ _))) | (go_at_call 97; exact quiet_ext (index_c s A cap _ _ _ ok (by assumption) _)))))
            refine wpQuiet_nil ?_
            intro W3 hW3
            have E3 : Ext wr W3 := by
              obtain ⟨x, rfl⟩ := hW3
              exact (Ext.refl _).grow x
            clear hW3
            obtain ⟨hcW3, hfW3, hzW3⟩ := ext_facts E3
            clear hkc ht q0' q1' q2' q3' q4'
            have E03 := E.trans E3
            obtain ⟨c0, c1, c2, c3, c4⟩ := E03.five a0 a1 a2 a3 a4
            have BU3 := BU.ext E3
            have bu3 : W3.cell? ⟨S + 1, a.plate.toNat, none⟩ = some (.int .i64 (usedN c k a.plate)) := by rw [BU3.cell, intsA_get, Hget.out]; rfl
            have fu3 := BU3.frozen a.plate.toNat
            obtain ⟨W4, hW4, BU4, keep4, ext4, hz4⟩ := BU3.store1 a.plate.toNat (.int .i64 ((usedN c k a.plate : Int) + 1))
            rw [intsA_set, Hset.out] at BU4
            have E04 : Ext w W4 := ext4 w E03 (by rw [HS.out]; omega)
            have BS4 := keep4 S _ _ (by omega) (BS.ext E3)
            obtain ⟨r0, r1, r2, r3, r4⟩ := E04.five a0 a1 a2 a3 a4
            obtain ⟨t0, t1, t2, t3⟩ := E04.four p0 p1 p2 p3
            have bu4 : W4.cell? ⟨S + 1, a.plate.toNat, none⟩ = some (.int .i64 ((usedN c k a.plate : Int) + 1)) := by
              have hg := usedL_get (l := l) (c := c) (k := k + 1) (p := a.plate.toNat) (by omega)
              rw [show ((a.plate.toNat : Nat) : Int) = a.plate by omega, Hsucc.out] at hg
              rw [BU4.cell, intsA_get, hg]
              simp [iv]
            by_cases hu : p.N < (usedN c k a.plate : Int) + 1
            · have hub : decide (p.N < (usedN c k a.plate : Int) + 1) = true := by simpa using hu
              have Hbad : Hid (compB s l c = false) := Lib.hid (comp_bad hlt (by
                unfold compAt
                rw [Hla.out, Hp.out, Hsucc.out, decide_eq_false (p := (((usedN c k a.plate + 1 : Nat) : Int) ≤ p.N)) (by omega), Bool.and_false, Bool.and_false]))
              clear hu
              go_wp2_with fail
              refine wp_region_grow (by kernel_rfl) (by kernel_rfl) ?_
              repeat (go_big_quiet_step (fail))
              refine wpQuiet_nil ?_
              intro W5 hW5
              have E5 : Ext W4 W5 := by
                obtain ⟨x, rfl⟩ := hW5
                exact (Ext.refl _).grow x
              clear hW5
              obtain ⟨hcW5, hfW5, hzW5⟩ := ext_facts E5
              go_wp2_with fail
              go_ret
              exact ⟨by rw [Hbad.out]; rfl, E04.trans E5⟩
            · have hub : decide (p.N < (usedN c k a.plate : Int) + 1) = false := by simpa using hu
              have Hgood : Hid (compAt s l c k = true) := Lib.hid (by
                unfold compAt
                rw [Hla.out, Hp.out, Hsucc.out, Hli.out, decide_eq_true (p := (((usedN c k a.plate + 1 : Nat) : Int) ≤ p.N)) (by omega), Bool.and_true, Bool.true_and]
                exact Hord.out)
              clear hu
              go_wp2_with fail
              refine wp_region_grow (by kernel_rfl) (by kernel_rfl) ?_
              repeat (go_big_quiet_step (fail))
              refine wpQuiet_nil ?_
              intro W5 hW5
              have E5 : Ext W4 W5 := by
                obtain ⟨x, rfl⟩ := hW5
                exact (Ext.refl _).grow x
              clear hW5
              obtain ⟨hcW5, hfW5, hzW5⟩ := ext_facts E5
              go_wp2_with fail
              go_roundw
              case rel =>
                refine ⟨k + 1, by omega, by go_num, E04.trans E5, BS4.ext E5, BU4.ext E5, fun j hj => ?_⟩
                rcases Nat.lt_or_ge j k with h | h
                · exact Hall.out j h
                · obtain rfl : j = k := by omega
                  exact Hgood.out
              case measure => simp only [intOf]; omega
    · obtain rfl : k = c.length := by omega
      have hlok : ∀ (k : Nat) (a : Laid), c[k]? = some a → a.Ok l := fun k a ha => by
        have := Hall.out k (List.getElem?_eq_some_iff.1 ha).1
        unfold compAt at this
        rw [Bool.and_eq_true, laidAt_eq ha] at this
        exact laid_ok ok this.1
      have Hlok := Lib.hid hlok
      clear hlok bs
      go_wp2_with fail
      go_loopw [9] (fun i wr => ∃ k : Nat, k ≤ s.cells.length ∧ i = .int .i64 k ∧ Ext w wr ∧ Blk wr S 24 #[.int .i64 s.W, .int .i64 s.D, .int .i64 s.H, .slice A s.cells.length cap] ∧
          ∀ j, j < k → coveredAt s l c j = true) (fun i _ => s.cells.length - (intOf i).toNat)
      case atStart => exact ⟨0, by omega, rfl, E, BS, fun j hj => by omega⟩
      case round =>
        clear E BS BU hsr hlr
        obtain ⟨k, hk, rfl, E, BS, hcov⟩ := hrel
        have Hcov := Lib.hid hcov
        clear hcov
        have bs := BS.cell
        have hlr := hl.ext E
        have hcr := hcs.ext E
        by_cases hlt : k < s.cells.length
        · obtain ⟨b, off, col, rfl, hcol, hok, hbl, hcell⟩ := (hs.ext E).at_ hlt
          have Hcol : Hid (s.cells.getD k 0 = col) := Lib.hid (by rw [List.getD_eq_getElem?_getD, hcol]; rfl)
          clear hcol
          have b3 := Int.emod_nonneg (k : Int) (show s.W ≠ 0 by omega)
          have b4 := Int.emod_lt_of_pos (k : Int) (show 0 < s.W by omega)
          have c0 : 0 ≤ (k : Int) / s.W := Int.ediv_nonneg (by omega) (by omega)
          have b5 := Int.emod_nonneg ((k : Int) / s.W) (show s.D ≠ 0 by omega)
          have b6 := Int.emod_lt_of_pos ((k : Int) / s.W) (show 0 < s.D by omega)
          have c1 : 0 ≤ (k : Int) / s.W / s.D := Int.ediv_nonneg c0 (by omega)
          have c2 : (k : Int) / s.W ≤ k := Int.ediv_le_self _ (by omega)
          have c3 : (k : Int) / s.W / s.D ≤ (k : Int) / s.W := Int.ediv_le_self _ c0
          by_cases h0 : col = 0
          · subst h0
            have Hgood : Hid (coveredAt s l c k = true) := Lib.hid (by unfold coveredAt; rw [decide_eq_true Hcol.out]; rfl)
            go_wp2_with fail
            refine wp_region_grow (by kernel_rfl) (by kernel_rfl) ?_
            repeat (go_big_quiet_step (fail))
            refine wpQuiet_nil ?_
            intro W3 hW3
            have E3 : Ext wr W3 := by
              obtain ⟨x, rfl⟩ := hW3
              exact (Ext.refl _).grow x
            clear hW3
            obtain ⟨hcW3, hfW3, hzW3⟩ := ext_facts E3
            go_wp2_with fail
            go_roundw
            case rel =>
              refine ⟨k + 1, by omega, by go_num, E.trans E3, BS.ext E3, fun j hj => ?_⟩
              rcases Nat.lt_or_ge j k with h | h
              · exact Hcov.out j h
              · obtain rfl : j = k := by omega
                exact Hgood.out
            case measure => simp only [intOf]; omega
          · have hb0 : (col != 0) = true := by simpa using h0
            have hb1 : (col == 0) = false := by simpa using h0
            have e1 : (k : Int).tmod s.W = (k : Int) % s.W := Int.tmod_eq_emod_of_nonneg (by omega)
            have e2 : (k : Int).tdiv s.W = (k : Int) / s.W := Int.tdiv_eq_ediv_of_nonneg (by omega)
            have e3 : ((k : Int) / s.W).tmod s.D = (k : Int) / s.W % s.D := Int.tmod_eq_emod_of_nonneg c0
            have e4 : ((k : Int) / s.W).tdiv s.D = (k : Int) / s.W / s.D := Int.tdiv_eq_ediv_of_nonneg c0
            have f1 : IntKind.i64.wrap ((k : Int) % s.W) = (k : Int) % s.W := IntWalk.i64_in _ (by omega)
            have f2 : IntKind.i64.wrap ((k : Int) / s.W) = (k : Int) / s.W := IntWalk.i64_in _ (by omega)
            have f3 : IntKind.i64.wrap ((k : Int) / s.W % s.D) = (k : Int) / s.W % s.D := IntWalk.i64_in _ (by omega)
            have f4 : IntKind.i64.wrap ((k : Int) / s.W / s.D) = (k : Int) / s.W / s.D := IntWalk.i64_in _ (by omega)
            have n1 : (s.W == 0) = false := by simp; omega
            have n2 : (s.D == 0) = false := by simp; omega
            obtain ⟨r, hr⟩ : ∃ r, byI l c ((k : Int) % s.W) ((k : Int) / s.W % s.D) ((k : Int) / s.W / s.D) = r := ⟨_, rfl⟩
            have Hr := Lib.hid hr
            clear hr
            by_cases hr0 : r < 0
            · have hd : decide (r < 0) = true := by simpa using hr0
              have Hbad : Hid (compB s l c = false) := Lib.hid (comp_open hlt (by
                unfold coveredAt Shape.px Shape.py Shape.pz
                rw [Hr.out, decide_eq_false (show ¬ s.cells.getD k 0 = 0 by rw [Hcol.out]; exact h0), decide_eq_false (show ¬ 0 ≤ r by omega)]
                rfl))
              clear hr0 h0
              go_wp2_with fail
              refine wp_region_grow (by kernel_rfl) (by kernel_rfl) ?_
              repeat (go_big_quiet_step ((go_at_call 98; exact quiet_ext (by_is Hr.out okl Hlok.out hclen _ (hlr.grow_ _) (hcr.grow_ _)))))
              refine wpQuiet_nil ?_
              intro W3 hW3
              have E3 : Ext wr W3 := by
                obtain ⟨x, rfl⟩ := hW3
                exact (Ext.refl _).grow x
              clear hW3
              obtain ⟨hcW3, hfW3, hzW3⟩ := ext_facts E3
              go_wp2_with fail
              go_ret
              exact ⟨by rw [Hbad.out]; rfl, E.trans E3⟩
            · have hd : decide (r < 0) = false := by simpa using hr0
              have Hgood : Hid (coveredAt s l c k = true) := Lib.hid (by
                unfold coveredAt Shape.px Shape.py Shape.pz
                rw [Hr.out, decide_eq_true (show 0 ≤ r by omega), Bool.or_true])
              clear hr0 h0
              go_wp2_with fail
              refine wp_region_grow (by kernel_rfl) (by kernel_rfl) ?_
              repeat (go_big_quiet_step ((go_at_call 98; exact quiet_ext (by_is Hr.out okl Hlok.out hclen _ (hlr.grow_ _) (hcr.grow_ _)))))
              refine wpQuiet_nil ?_
              intro W3 hW3
              have E3 : Ext wr W3 := by
                obtain ⟨x, rfl⟩ := hW3
                exact (Ext.refl _).grow x
              clear hW3
              obtain ⟨hcW3, hfW3, hzW3⟩ := ext_facts E3
              go_wp2_with fail
              go_roundw
              case rel =>
                refine ⟨k + 1, by omega, by go_num, E.trans E3, BS.ext E3, fun j hj => ?_⟩
                rcases Nat.lt_or_ge j k with h | h
                · exact Hcov.out j h
                · obtain rfl : j = k := by omega
                  exact Hgood.out
              case measure => simp only [intOf]; omega
        · obtain rfl : k = s.cells.length := by omega
          have Hgood : Hid (compB s l c = true) := Lib.hid (comp_good Hall.out Hcov.out)
          go_wp2_with fail
          go_ret
          exact ⟨by rw [Hgood.out]; rfl, E⟩

/-- The error of a composition. -/
def compErr (s : Shape) (l : List Plate) (c : List Laid) : Int := if s.valid = true then (if platesB l = true then (if compB s l c = true then 0 else 8) else 71) else 70
def askedErr (s : Shape) (l : List Plate) : Int := if s.valid = true then platesErr l else 70
set_option maxHeartbeats 1000000 in
theorem asked_c (s : Shape) (A : Option Addr) (cap : Nat) (l : List Plate) (PA : Option Addr) (pcap : Nat) (w : World) (hs : Bytes w A cap s.cells) (hl : Plates w PA pcap l) :
    Calls Tryd.prog 60 #[.agg #[.int .i64 s.W, .int .i64 s.D, .int .i64 s.H, .slice A s.cells.length cap], .slice PA l.length pcap] w fun e w' =>
      e = .returned (.int .i64 (askedErr s l)) ∧ Ext w w' := by
  obtain ⟨W1, hW1, E1, B1, hz1⟩ := box_ w #[.int .i64 s.W, .int .i64 s.D, .int .i64 s.H, .slice A s.cells.length cap] 24
  have b1 := B1.cell
  obtain ⟨v, hv⟩ : ∃ v, s.valid = v := ⟨_, rfl⟩
  go_enter Tryd.func60, Tryd.ntmps60
  go_wp2_with fail
  refine (validShape_c A cap s.W s.D s.H s.cells _ (hs.ext E1)).mono ?_
  rintro e w2 ⟨rfl, E2⟩
  rw [show (⟨s.W, s.D, s.H, s.cells⟩ : Shape) = s from rfl]
  rw [hv]
  have Hv := Lib.hid hv
  clear hv
  cases v
  · go_wp2_with fail
    go_ret
    exact ⟨by rw [askedErr, Hv.out]; rfl, E1.trans E2⟩
  · go_wp2_with fail
    refine (rCheckPlates_c PA pcap l _ ((hl.ext E1).ext E2)).mono ?_
    rintro e w3 ⟨rfl, E3⟩
    go_wp2_with fail
    go_ret
    exact ⟨by rw [askedErr, Hv.out, if_pos rfl]; rfl, (E1.trans E2).trans E3⟩
set_option maxHeartbeats 1000000 in
theorem rCheck_c (s : Shape) (A : Option Addr) (cap : Nat) (l : List Plate) (PA : Option Addr) (pcap : Nat) (c : List Laid) (CA : Option Addr) (ccap : Nat) (hclen : c.length ≤ 1000) (w : World)
    (hs : Bytes w A cap s.cells) (hl : Plates w PA pcap l) (hcs : Laids w CA ccap c) :
    Calls Tryd.prog 23 #[.agg #[.int .i64 s.W, .int .i64 s.D, .int .i64 s.H, .slice A s.cells.length cap], .slice PA l.length pcap, .slice CA c.length ccap] w fun e w' =>
      e = .returned (.int .i64 (compErr s l c)) ∧ Ext w w' := by
  obtain ⟨W1, hW1, E1, B1, hz1⟩ := box_ w #[.int .i64 s.W, .int .i64 s.D, .int .i64 s.H, .slice A s.cells.length cap] 24
  have b1 := B1.cell
  obtain ⟨r, hr⟩ : ∃ r, askedErr s l = r := ⟨_, rfl⟩
  by_cases hv : s.valid = true
  · by_cases hp : platesB l = true
    · have hr0 : r = 0 := by rw [← hr, askedErr, if_pos hv, platesErr, if_pos hp]
      subst hr0
      have ok := Shape.ok_of hv
      obtain ⟨v, hvv⟩ : ∃ v, compB s l c = v := ⟨_, rfl⟩
      have He : Hid (compErr s l c = if v = true then 0 else 8) := Lib.hid (by rw [compErr, if_pos hv, if_pos hp, hvv])
      have Hr := Lib.hid hr
      have Hvv := Lib.hid hvv
      clear hr hvv hv
      go_enter Tryd.func23, Tryd.ntmps23
      go_wp2_with fail
      refine (asked_c s A cap l PA pcap _ (hs.ext E1) (hl.ext E1)).mono ?_
      rintro e w2 ⟨rfl, E2⟩
      rw [Hr.out]
      have B1 := B1.ext E2
      clear b1
      have b1 := B1.cell
      go_wp2_with fail
      refine (rComp_c s A cap l PA pcap c CA ccap ok hp hclen _ ((hs.ext E1).ext E2) ((hl.ext E1).ext E2) ((hcs.ext E1).ext E2)).mono ?_
      rintro e w3 ⟨rfl, E3⟩
      rw [Hvv.out]
      cases v
      · go_wp2_with fail
        go_ret
        exact ⟨by rw [He.out]; rfl, (E1.trans E2).trans E3⟩
      · go_wp2_with fail
        go_ret
        exact ⟨by rw [He.out]; rfl, (E1.trans E2).trans E3⟩
    · have hr0 : r = 71 := by rw [← hr, askedErr, if_pos hv, platesErr, if_neg hp]
      subst hr0
      have He : Hid (compErr s l c = 71) := Lib.hid (by rw [compErr, if_pos hv, if_neg hp])
      have Hr := Lib.hid hr
      clear hr hv hp
      go_enter Tryd.func23, Tryd.ntmps23
      go_wp2_with fail
      refine (asked_c s A cap l PA pcap _ (hs.ext E1) (hl.ext E1)).mono ?_
      rintro e w2 ⟨rfl, E2⟩
      rw [Hr.out]
      go_wp2_with fail
      go_ret
      exact ⟨by rw [He.out]; rfl, E1.trans E2⟩
  · have hr0 : r = 70 := by rw [← hr, askedErr, if_neg hv]
    subst hr0
    have He : Hid (compErr s l c = 70) := Lib.hid (by rw [compErr, if_neg hv])
    have Hr := Lib.hid hr
    clear hr hv
    go_enter Tryd.func23, Tryd.ntmps23
    go_wp2_with fail
    refine (asked_c s A cap l PA pcap _ (hs.ext E1) (hl.ext E1)).mono ?_
    rintro e w2 ⟨rfl, E2⟩
    rw [Hr.out]
    go_wp2_with fail
    go_ret
    exact ⟨by rw [He.out]; rfl, E1.trans E2⟩
end Go.Proofs.YtpikemglnnjemaaDoor

namespace Go.Proofs.YtpikemglnnjemaaDoor
open Go.RowKit

/-! ### the map of the pairs -/
theorem getK_pairs (es : List (Int × Int)) (q : Int × Int) : (∀ j, getK (pairsOf es) q = some j → es[j]? = some q) ∧ (getK (pairsOf es) q = none → q ∉ es) := by
  have h : ∀ n, ∀ es : List (Int × Int), es.length = n → (∀ j, getK (pairsOf es) q = some j → es[j]? = some q) ∧ (getK (pairsOf es) q = none → q ∉ es) := by
    intro n
    induction n with
    | zero =>
      intro es he
      obtain rfl := List.eq_nil_of_length_eq_zero he
      exact ⟨fun j hj => (by cases hj), fun _ => (by simp)⟩
    | succ n ih =>
      intro es he
      have hne : es ≠ [] := by
        rintro rfl
        simp at he
      rw [← List.dropLast_concat_getLast hne]
      generalize hp : es.getLast hne = p
      generalize hes : es.dropLast = es'
      have hl : es'.length = n := by rw [← hes]; simp [he]
      obtain ⟨i1, i2⟩ := ih es' hl
      rw [pairsOf_snoc, getK_putK]
      split
      · subst_vars
        exact ⟨fun j hj => (by cases hj; simp), fun h => (by cases h)⟩
      · rename_i hq
        constructor
        · intro j hj
          have := i1 j hj
          rw [List.getElem?_append_left (List.getElem?_eq_some_iff.1 this).1]
          exact this
        · intro hn
          rw [List.mem_append, List.mem_singleton, not_or]
          exact ⟨i2 hn, hq⟩
  exact h es.length es rfl
theorem over_lt {ab : List Int} {es : List (Int × Int)} {p : Int × Int} (h : 0 ≤ overAt ab es p) : es[(overAt ab es p).toNat]? = some (ab.getD p.1.toNat 0, ab.getD p.2.toNat 0) := by
  unfold overAt at h ⊢
  split at h
  · rename_i j hj
    rw [Int.toNat_natCast]
    exact (getK_pairs es _).1 j hj
  · omega
theorem over_iff {ab : List Int} {es : List (Int × Int)} {p : Int × Int} : 0 ≤ overAt ab es p ↔ (ab.getD p.1.toNat 0, ab.getD p.2.toNat 0) ∈ es := by
  constructor
  · intro h
    exact List.mem_of_getElem? (over_lt h)
  · intro h
    unfold overAt
    split
    · omega
    · rename_i hn
      exact absurd h ((getK_pairs es _).2 hn)

/-! ### by sets -/
def eds (s : Shape) : List (Int × Int) := edgesS s s.cells.length
def seamE (sets : List Nat) (p : Int × Int) : Bool := !(sets.any fun m => m.testBit p.1.toNat && m.testBit p.2.toNat)
def weakP (s : Shape) (sets : List Nat) (p : Int × Int) : Bool := decide (0 ≤ overAt (abv s) (eds s) p) && (seamE sets p && seamE sets ((eds s).getD (overAt (abv s) (eds s) p).toNat (0, 0)))
def weakN (s : Shape) (sets : List Nat) : Nat := (eds s).countP (weakP s sets)

/-! ### by definition -/
def seamB (s : Shape) (l : List Plate) (c : List Laid) (x y z : Int) (inX : Bool) : Bool :=
  decide (s.colorAt x y z ≠ 0) && (decide (s.colorAt (if inX then x + 1 else x) (if inX then y else y + 1) z ≠ 0) && decide (byI l c x y z ≠ byI l c (if inX then x + 1 else x) (if inX then y else y + 1) z))
def weakAt (s : Shape) (l : List Plate) (c : List Laid) (i : Nat) : Nat :=
  (if seamB s l c (s.px i) (s.py i) (s.pz i) true = true ∧ seamB s l c (s.px i) (s.py i) (s.pz i + 1) true = true then 1 else 0) +
  (if seamB s l c (s.px i) (s.py i) (s.pz i) false = true ∧ seamB s l c (s.px i) (s.py i) (s.pz i + 1) false = true then 1 else 0)
def weakTo (s : Shape) (l : List Plate) (c : List Laid) : Nat → Nat
  | 0 => 0
  | k + 1 => weakTo s l c k + weakAt s l c k

theorem seam_eq {s : Shape} {l : List Plate} {c : List Laid} {out : List Nat} {all : Nat} (ok : s.Ok) (h : SetIs s l c c.length out all) (hall : all = 2 ^ fullN s.cells - 1) {x y z u v : Int} (h1 : 0 ≤ s.num x y z) (h2 : 0 ≤ s.num u v z) :
    seamE out (s.num x y z, s.num u v z) = decide (byI l c x y z ≠ byI l c u v z) := by
  obtain ⟨i, hi, i1, i2⟩ := h.covers ok hall h1
  obtain ⟨j, hj, j1, j2⟩ := h.covers ok hall h2
  rw [byI_eq hi i1 i2, byI_eq hj j1 j2]
  obtain ⟨a, ha⟩ := Int.eq_ofNat_of_zero_le h1
  obtain ⟨b, hb⟩ := Int.eq_ofNat_of_zero_le h2
  have bit : ∀ k, k < c.length → ((out.getD k 0).testBit a = true ↔ k = i) ∧ ((out.getD k 0).testBit b = true ↔ k = j) := fun k hk => by
    have ck := h.cover k hk
    rw [cover_bits ok ck ha, cover_bits ok ck hb]
    exact ⟨⟨i2 k hk, fun e => by rw [e]; exact i1⟩, j2 k hk, fun e => by rw [e]; exact j1⟩
  unfold seamE
  rw [ha, hb]
  simp only [Int.toNat_natCast]
  have hany : (out.any fun m => m.testBit a && m.testBit b) = decide (i = j) := by
    rw [Bool.eq_iff_iff, List.any_eq_true, decide_eq_true_eq]
    constructor
    · rintro ⟨m, hm, hab⟩
      obtain ⟨k, hk⟩ := List.getElem?_of_mem hm
      have hlt : k < c.length := by rw [← h.len]; exact (List.getElem?_eq_some_iff.1 hk).1
      have hg : out.getD k 0 = m := by rw [List.getD_eq_getElem?_getD, hk]; rfl
      rw [Bool.and_eq_true] at hab
      have b1 := (bit k hlt).1.1 (by rw [hg]; exact hab.1)
      have b2 := (bit k hlt).2.1 (by rw [hg]; exact hab.2)
      omega
    · rintro rfl
      have hk : i < out.length := by rw [h.len]; exact hi
      have hg : out[i]? = some (out.getD i 0) := by
        rw [List.getD_eq_getElem?_getD, List.getElem?_eq_getElem hk]
        rfl
      refine ⟨out.getD i 0, List.mem_of_getElem? hg, ?_⟩
      rw [(bit i hi).1.2 rfl, (bit i hi).2.2 rfl]
      rfl
  rw [hany]
  by_cases e : i = j
  · subst e
    simp
  · have : ¬ ((i : Int) = (j : Int)) := by omega
    simp [e, this]
theorem seamB_eq {s : Shape} {l : List Plate} {c : List Laid} {out : List Nat} {all : Nat} (ok : s.Ok) (h : SetIs s l c c.length out all) (hall : all = 2 ^ fullN s.cells - 1) (x y z : Int) (inX : Bool) :
    seamB s l c x y z inX = (decide (0 ≤ s.num x y z) && (decide (0 ≤ s.num (if inX then x + 1 else x) (if inX then y else y + 1) z) && seamE out (s.num x y z, s.num (if inX then x + 1 else x) (if inX then y else y + 1) z))) := by
  unfold seamB
  have e1 := Shape.num_iff (s := s) x y z
  have e2 := Shape.num_iff (s := s) (if inX then x + 1 else x) (if inX then y else y + 1) z
  by_cases h1 : 0 ≤ s.num x y z
  · by_cases h2 : 0 ≤ s.num (if inX then x + 1 else x) (if inX then y else y + 1) z
    · rw [seam_eq ok h hall h1 h2]
      simp only [e1.1 h1, e2.1 h2, h1, h2, ne_eq, not_false_eq_true, decide_true, Bool.true_and]
    · have t1 : decide (s.colorAt (if inX then x + 1 else x) (if inX then y else y + 1) z ≠ 0) = false := decide_eq_false fun hh => h2 (e2.2 hh)
      rw [t1, decide_eq_false h2]
      simp
  · have t1 : decide (s.colorAt x y z ≠ 0) = false := decide_eq_false fun hh => h1 (e1.2 hh)
    rw [t1, decide_eq_false h1]
    simp
/-- The pair of a cell and the next one in x, or in y. -/
def pairAt (s : Shape) (x y z : Int) (inX : Bool) : Int × Int := (s.num x y z, s.num (if inX then x + 1 else x) (if inX then y else y + 1) z)
theorem pair_mem {s : Shape} (ok : s.Ok) {x y z : Int} {inX : Bool} : pairAt s x y z inX ∈ eds s ↔ 0 ≤ s.num x y z ∧ 0 ≤ s.num (if inX then x + 1 else x) (if inX then y else y + 1) z := by
  constructor
  · intro h
    have := edges_bd ok (Nat.le_refl _) _ h
    exact ⟨this.1.1, this.2.1⟩
  · rintro ⟨h1, h2⟩
    have hin : s.inside x y z = true := num_in (by omega)
    have hid := s.idx_in ok hin
    obtain ⟨p1, p2, p3⟩ := s.place_of ok hin
    have hne : s.num x y z = numOf s.cells (s.idx x y z).toNat := s.num_eq hin
    have key : ∀ k, (s.idx x y z).toNat < k → pairAt s x y z inX ∈ edgesS s k := by
      intro k
      induction k with
      | zero => intro h; omega
      | succ k ih =>
        intro hk
        unfold edgesS
        rcases Nat.lt_or_ge (s.idx x y z).toNat k with h | h
        · split
          · exact ih h
          · exact List.mem_append_left _ (ih h)
        · have e : k = (s.idx x y z).toNat := by omega
          rw [if_neg (by rw [e]; omega)]
          apply List.mem_append_right
          unfold edgesAt pairAt
          rw [e, p1, p2, p3, ← hne]
          cases inX
          · have h2 : 0 ≤ s.num x (y + 1) z := h2
            rw [if_pos h2]
            simp
          · have h2 : 0 ≤ s.num (x + 1) y z := h2
            rw [if_pos h2]
            simp
    exact key _ (by omega)
theorem weakP_eq {s : Shape} {l : List Plate} {c : List Laid} {out : List Nat} {all : Nat} (ok : s.Ok) (h : SetIs s l c c.length out all) (hall : all = 2 ^ fullN s.cells - 1) {x y z : Int} {inX : Bool} (h1 : 0 ≤ s.num x y z)
    (h2 : 0 ≤ s.num (if inX then x + 1 else x) (if inX then y else y + 1) z) : weakP s out (pairAt s x y z inX) = (seamB s l c x y z inX && seamB s l c x y (z + 1) inX) := by
  obtain ⟨a, ha⟩ := Int.eq_ofNat_of_zero_le h1
  obtain ⟨b, hb⟩ := Int.eq_ofNat_of_zero_le h2
  have la : a < (abv s).length := by
    have := num_lt_full ok x y z
    rw [abv_len]
    omega
  have lb : b < (abv s).length := by
    have := num_lt_full ok (if inX then x + 1 else x) (if inX then y else y + 1) z
    rw [abv_len]
    omega
  have ga : (abv s).getD a 0 = s.num x y (z + 1) := by
    have := abv_of ok ha
    rw [List.getD_eq_getElem?_getD, List.getElem?_eq_getElem la] at this ⊢
    exact this
  have gb : (abv s).getD b 0 = s.num (if inX then x + 1 else x) (if inX then y else y + 1) (z + 1) := by
    have := abv_of ok hb
    rw [List.getD_eq_getElem?_getD, List.getElem?_eq_getElem lb] at this ⊢
    exact this
  have hq : ((abv s).getD (pairAt s x y z inX).1.toNat 0, (abv s).getD (pairAt s x y z inX).2.toNat 0) = pairAt s x y (z + 1) inX := by
    show ((abv s).getD (s.num x y z).toNat 0, (abv s).getD (s.num (if inX then x + 1 else x) (if inX then y else y + 1) z).toNat 0) = _
    rw [ha, hb, Int.toNat_natCast, Int.toNat_natCast, ga, gb]
    rfl
  unfold weakP
  have hov := over_iff (ab := abv s) (es := eds s) (p := pairAt s x y z inX)
  rw [hq, pair_mem ok] at hov
  rw [seamB_eq ok h hall x y z inX, seamB_eq ok h hall x y (z + 1) inX]
  by_cases ho : 0 ≤ overAt (abv s) (eds s) (pairAt s x y z inX)
  · have hlt := over_lt ho
    rw [hq] at hlt
    have hg : (eds s).getD (overAt (abv s) (eds s) (pairAt s x y z inX)).toNat (0, 0) = pairAt s x y (z + 1) inX := by
      rw [List.getD_eq_getElem?_getD, hlt]
      rfl
    obtain ⟨o1, o2⟩ := hov.1 ho
    rw [hg]
    simp only [ho, h1, h2, o1, o2, decide_true, Bool.true_and]
    rfl
  · have hn : ¬ (0 ≤ s.num x y (z + 1) ∧ 0 ≤ s.num (if inX then x + 1 else x) (if inX then y else y + 1) (z + 1)) := fun e => ho (hov.2 e)
    rw [decide_eq_false ho, Bool.false_and]
    symm
    rw [Bool.and_eq_false_iff]
    right
    by_cases o1 : 0 ≤ s.num x y (z + 1)
    · have o2 : ¬ 0 ≤ s.num (if inX then x + 1 else x) (if inX then y else y + 1) (z + 1) := fun e => hn ⟨o1, e⟩
      simp only [o2, decide_false, Bool.false_and, Bool.and_false]
    · simp only [o1, decide_false, Bool.false_and]
theorem weak_to {s : Shape} {l : List Plate} {c : List Laid} {out : List Nat} {all : Nat} (ok : s.Ok) (h : SetIs s l c c.length out all) (hall : all = 2 ^ fullN s.cells - 1) : ∀ {k : Nat}, k ≤ s.cells.length →
    (edgesS s k).countP (weakP s out) = weakTo s l c k
  | 0, _ => rfl
  | k + 1, hk => by
    have ih := weak_to ok h hall (show k ≤ s.cells.length by omega)
    have hn := num_place ok (show k < s.cells.length by omega)
    unfold edgesS weakTo weakAt
    have dead : ∀ (z : Int) (inX : Bool), s.num (s.px k) (s.py k) (s.pz k) < 0 → seamB s l c (s.px k) (s.py k) (s.pz k) inX = false := fun z inX hh => by
      rw [seamB_eq ok h hall, decide_eq_false (by omega), Bool.false_and]
    split
    · rename_i h0
      rw [← hn] at h0
      rw [ih, dead 0 true h0, dead 0 false h0]
      simp
    · rename_i h0
      rw [← hn] at h0
      rw [List.countP_append, ih]
      congr 1
      unfold edgesAt
      rw [List.countP_append, ← hn]
      have side : ∀ inX : Bool, (if 0 ≤ s.num (if inX then s.px k + 1 else s.px k) (if inX then s.py k else s.py k + 1) (s.pz k) then [pairAt s (s.px k) (s.py k) (s.pz k) inX] else []).countP (weakP s out) =
          if seamB s l c (s.px k) (s.py k) (s.pz k) inX = true ∧ seamB s l c (s.px k) (s.py k) (s.pz k + 1) inX = true then 1 else 0 := fun inX => by
        by_cases h2 : 0 ≤ s.num (if inX then s.px k + 1 else s.px k) (if inX then s.py k else s.py k + 1) (s.pz k)
        · have := weakP_eq (l := l) (c := c) ok h hall (x := s.px k) (y := s.py k) (z := s.pz k) (inX := inX) (by omega) h2
          rw [if_pos h2, List.countP_singleton, this]
          simp only [Bool.and_eq_true]
        · rw [if_neg h2]
          have : seamB s l c (s.px k) (s.py k) (s.pz k) inX = false := by
            rw [seamB_eq ok h hall, decide_eq_false h2, Bool.false_and, Bool.and_false]
          rw [this]
          simp
      have s1 := side true
      have s2 := side false
      exact congr (congrArg _ s1) s2
theorem weak_eq {s : Shape} {l : List Plate} {c : List Laid} {out : List Nat} {all : Nat} (ok : s.Ok) (h : SetIs s l c c.length out all) (hall : all = 2 ^ fullN s.cells - 1) : weakN s out = weakTo s l c s.cells.length :=
  weak_to ok h hall (Nat.le_refl _)
end Go.Proofs.YtpikemglnnjemaaDoor

namespace Go.Proofs.YtpikemglnnjemaaDoor
open Go.RowKit

theorem by_is7 {A : Option Addr} {cap : Nat} {l : List Plate} {CA : Option Addr} {ccap : Nat} {c : List Laid} {x y z r : Int} (h : byI l c x y z = r) (okl : platesB l = true) (hc : ∀ (k : Nat) (a : Laid), c[k]? = some a → a.Ok l) (hlen : c.length ≤ 1000) (w : World) (hl : Plates w A cap l) (hcs : Laids w CA ccap c) :
    Calls Tryd.prog 98 #[.slice A l.length cap, .slice CA c.length ccap, .int .i64 x, .int .i64 y, .int .i64 z] w fun e w' => e = .returned (.int .i64 r) ∧ Ext w w' := by
  rw [← h]
  exact by_c A cap l CA ccap c x y z okl hc hlen w hl hcs
theorem rAt_is {s : Shape} {A : Option Addr} {cap : Nat} {x y z a : Int} (h : s.colorAt x y z = a) (ok : s.Ok) (w : World) (hb : Bytes w A cap s.cells) :
    Calls Tryd.prog 45 #[.agg #[.int .i64 s.W, .int .i64 s.D, .int .i64 s.H, .slice A s.cells.length cap], .int .i64 x, .int .i64 y, .int .i64 z] w fun e w' => e = .returned (.int .u8 a) ∧ Ext w w' := by
  rw [← h]
  exact rAt_c s A cap x y z ok w hb

set_option maxHeartbeats 2000000 in
theorem seam_c (s : Shape) (A : Option Addr) (cap : Nat) (l : List Plate) (PA : Option Addr) (pcap : Nat) (c : List Laid) (CA : Option Addr) (ccap : Nat) (x y z : Int) (inX : Bool) (ok : s.Ok) (okl : platesB l = true) (hc : ∀ (k : Nat) (a : Laid), c[k]? = some a → a.Ok l)
    (hlen : c.length ≤ 1000) (hx : 0 ≤ x ∧ x ≤ 1000) (hy : 0 ≤ y ∧ y ≤ 1000) (w : World) (hs : Bytes w A cap s.cells) (hl : Plates w PA pcap l) (hcs : Laids w CA ccap c) :
    Calls Tryd.prog 92 #[.agg #[.int .i64 s.W, .int .i64 s.D, .int .i64 s.H, .slice A s.cells.length cap], .slice PA l.length pcap, .slice CA c.length ccap, .int .i64 x, .int .i64 y, .int .i64 z, .bool inX] w fun e w' =>
      e = .returned (.bool (seamB s l c x y z inX)) ∧ Ext w w' := by
  obtain ⟨W1, hW1, E1, B1, hz1⟩ := box_ w #[.int .i64 s.W, .int .i64 s.D, .int .i64 s.H, .slice A s.cells.length cap] 24
  clear hz1
  have b1 := B1.cell
  obtain ⟨x1, x2⟩ := hx
  obtain ⟨y1, y2⟩ := hy
  obtain ⟨a, ha⟩ : ∃ a, s.colorAt x y z = a := ⟨_, rfl⟩
  obtain ⟨p, hp⟩ : ∃ p, byI l c x y z = p := ⟨_, rfl⟩
  have Ha := Lib.hid ha
  have Hp := Lib.hid hp
  clear ha hp
  cases inX
  · obtain ⟨b, hb⟩ : ∃ b, s.colorAt x (y + 1) z = b := ⟨_, rfl⟩
    obtain ⟨q, hq⟩ : ∃ q, byI l c x (y + 1) z = q := ⟨_, rfl⟩
    have Hv : Hid (seamB s l c x y z false = (decide (a ≠ 0) && (decide (b ≠ 0) && decide (p ≠ q)))) := Lib.hid (by
      unfold seamB
      simp only [reduceIte, Bool.false_eq_true]
      rw [Ha.out, Hp.out, hb, hq])
    have Hb := Lib.hid hb
    have Hq := Lib.hid hq
    clear hb hq
    by_cases ha : a = 0
    · have Hr : Hid (seamB s l c x y z false = false) := Lib.hid (by rw [Hv.out, decide_eq_false (by simpa using ha)]; rfl)
      subst ha
      go_enter Tryd.func92, Tryd.ntmps92
      go_wp2_with fail
      refine (rAt_is Ha.out ok _ (hs.ext E1)).mono ?_
      rintro e W2 ⟨rfl, E2⟩
      go_wp2_with fail
      go_ret
      exact ⟨by rw [Hr.out] <;> rfl, E1.trans E2⟩
    · have a1 : (a != 0) = true := by simpa using ha
      have a2 : (a == 0) = false := by simpa using ha
      by_cases hb : b = 0
      · have Hr : Hid (seamB s l c x y z false = false) := Lib.hid (by rw [Hv.out, decide_eq_false (show ¬ b ≠ 0 by simpa using hb)]; simp)
        subst hb
        clear ha
        go_enter Tryd.func92, Tryd.ntmps92
        go_wp2_with fail
        refine (rAt_is Ha.out ok _ (hs.ext E1)).mono ?_
        rintro e W2 ⟨rfl, E2⟩
        obtain ⟨hc2, hf2, hz2⟩ := ext_facts E2
        go_wp2_with fail
        refine (rAt_is Hb.out ok _ (hs.ext (E1.trans E2))).mono ?_
        rintro e W3 ⟨rfl, E3⟩
        go_wp2_with fail
        go_ret
        exact ⟨by rw [Hr.out] <;> rfl, (E1.trans E2).trans E3⟩
      · have nb1 : (b != 0) = true := by simpa using hb
        have nb2 : (b == 0) = false := by simpa using hb
        have Hr : Hid (seamB s l c x y z false = (p != q)) := Lib.hid (by rw [Hv.out, decide_eq_true ha, decide_eq_true hb, Bool.true_and, Bool.true_and]; by_cases h : p = q <;> simp [h])
        clear ha hb
        go_enter Tryd.func92, Tryd.ntmps92
        go_wp2_with fail
        refine (rAt_is Ha.out ok _ (hs.ext E1)).mono ?_
        rintro e W2 ⟨rfl, E2⟩
        obtain ⟨hc2, hf2, hz2⟩ := ext_facts E2
        go_wp2_with fail
        refine (rAt_is Hb.out ok _ (hs.ext (E1.trans E2))).mono ?_
        rintro e W3 ⟨rfl, E3⟩
        go_wp2_with fail
        refine (by_is7 Hp.out okl hc hlen _ (hl.ext ((E1.trans E2).trans E3)) (hcs.ext ((E1.trans E2).trans E3))).mono ?_
        rintro e W4 ⟨rfl, E4⟩
        go_wp2_with fail
        refine (by_is7 Hq.out okl hc hlen _ (hl.ext (((E1.trans E2).trans E3).trans E4)) (hcs.ext (((E1.trans E2).trans E3).trans E4))).mono ?_
        rintro e W5 ⟨rfl, E5⟩
        go_wp2_with fail
        go_ret
        exact ⟨by rw [Hr.out] <;> rfl, (((E1.trans E2).trans E3).trans E4).trans E5⟩
  · obtain ⟨b, hb⟩ : ∃ b, s.colorAt (x + 1) y z = b := ⟨_, rfl⟩
    obtain ⟨q, hq⟩ : ∃ q, byI l c (x + 1) y z = q := ⟨_, rfl⟩
    have Hv : Hid (seamB s l c x y z true = (decide (a ≠ 0) && (decide (b ≠ 0) && decide (p ≠ q)))) := Lib.hid (by
      unfold seamB
      simp only [reduceIte]
      rw [Ha.out, Hp.out, hb, hq])
    have Hb := Lib.hid hb
    have Hq := Lib.hid hq
    clear hb hq
    by_cases ha : a = 0
    · have Hr : Hid (seamB s l c x y z true = false) := Lib.hid (by rw [Hv.out, decide_eq_false (by simpa using ha)]; rfl)
      subst ha
      go_enter Tryd.func92, Tryd.ntmps92
      go_wp2_with fail
      refine (rAt_is Ha.out ok _ (hs.ext E1)).mono ?_
      rintro e W2 ⟨rfl, E2⟩
      go_wp2_with fail
      go_ret
      exact ⟨by rw [Hr.out] <;> rfl, E1.trans E2⟩
    · have a1 : (a != 0) = true := by simpa using ha
      have a2 : (a == 0) = false := by simpa using ha
      by_cases hb : b = 0
      · have Hr : Hid (seamB s l c x y z true = false) := Lib.hid (by rw [Hv.out, decide_eq_false (show ¬ b ≠ 0 by simpa using hb)]; simp)
        subst hb
        clear ha
        go_enter Tryd.func92, Tryd.ntmps92
        go_wp2_with fail
        refine (rAt_is Ha.out ok _ (hs.ext E1)).mono ?_
        rintro e W2 ⟨rfl, E2⟩
        obtain ⟨hc2, hf2, hz2⟩ := ext_facts E2
        go_wp2_with fail
        refine (rAt_is Hb.out ok _ (hs.ext (E1.trans E2))).mono ?_
        rintro e W3 ⟨rfl, E3⟩
        go_wp2_with fail
        go_ret
        exact ⟨by rw [Hr.out] <;> rfl, (E1.trans E2).trans E3⟩
      · have nb1 : (b != 0) = true := by simpa using hb
        have nb2 : (b == 0) = false := by simpa using hb
        have Hr : Hid (seamB s l c x y z true = (p != q)) := Lib.hid (by rw [Hv.out, decide_eq_true ha, decide_eq_true hb, Bool.true_and, Bool.true_and]; by_cases h : p = q <;> simp [h])
        clear ha hb
        go_enter Tryd.func92, Tryd.ntmps92
        go_wp2_with fail
        refine (rAt_is Ha.out ok _ (hs.ext E1)).mono ?_
        rintro e W2 ⟨rfl, E2⟩
        obtain ⟨hc2, hf2, hz2⟩ := ext_facts E2
        go_wp2_with fail
        refine (rAt_is Hb.out ok _ (hs.ext (E1.trans E2))).mono ?_
        rintro e W3 ⟨rfl, E3⟩
        go_wp2_with fail
        refine (by_is7 Hp.out okl hc hlen _ (hl.ext ((E1.trans E2).trans E3)) (hcs.ext ((E1.trans E2).trans E3))).mono ?_
        rintro e W4 ⟨rfl, E4⟩
        go_wp2_with fail
        refine (by_is7 Hq.out okl hc hlen _ (hl.ext (((E1.trans E2).trans E3).trans E4)) (hcs.ext (((E1.trans E2).trans E3).trans E4))).mono ?_
        rintro e W5 ⟨rfl, E5⟩
        go_wp2_with fail
        go_ret
        exact ⟨by rw [Hr.out] <;> rfl, (((E1.trans E2).trans E3).trans E4).trans E5⟩
end Go.Proofs.YtpikemglnnjemaaDoor

namespace Go.Proofs.YtpikemglnnjemaaDoor
open Go.RowKit

theorem comp_ok {s : Shape} {l : List Plate} {c : List Laid} (h : compErr s l c = 0) : s.Ok ∧ platesB l = true ∧ compB s l c = true ∧ ∀ (k : Nat) (a : Laid), c[k]? = some a → liesB s l a = true ∧ a.Ok l := by
  have h3 : s.valid = true ∧ platesB l = true ∧ compB s l c = true := by
    unfold compErr at h
    by_cases h1 : s.valid = true
    · rw [if_pos h1] at h
      by_cases h2 : platesB l = true
      · rw [if_pos h2] at h
        by_cases h3 : compB s l c = true
        · exact ⟨h1, h2, h3⟩
        · rw [if_neg h3] at h; omega
      · rw [if_neg h2] at h; omega
    · rw [if_neg h1] at h; omega
  refine ⟨Shape.ok_of h3.1, h3.2.1, h3.2.2, fun k a ha => ?_⟩
  have hlt := (List.getElem?_eq_some_iff.1 ha).1
  have hli : liesB s l a = true := by
    by_cases hh : liesB s l a = true
    · exact hh
    · have : compB s l c = false := comp_bad hlt (by unfold compAt; rw [laidAt_eq ha, Bool.eq_false_iff.2 hh]; rfl)
      rw [h3.2.2] at this
      cases this
  exact ⟨hli, laid_ok (Shape.ok_of h3.1) hli⟩

theorem seam_is {s : Shape} {A : Option Addr} {cap : Nat} {l : List Plate} {PA : Option Addr} {pcap : Nat} {c : List Laid} {CA : Option Addr} {ccap : Nat} {x y z : Int} {inX b : Bool} (h : seamB s l c x y z inX = b) (ok : s.Ok) (okl : platesB l = true) (hc : ∀ (k : Nat) (a : Laid), c[k]? = some a → a.Ok l)
    (hlen : c.length ≤ 1000) (hx : 0 ≤ x ∧ x ≤ 1000) (hy : 0 ≤ y ∧ y ≤ 1000) (w : World) (hs : Bytes w A cap s.cells) (hl : Plates w PA pcap l) (hcs : Laids w CA ccap c) :
    Calls Tryd.prog 92 #[.agg #[.int .i64 s.W, .int .i64 s.D, .int .i64 s.H, .slice A s.cells.length cap], .slice PA l.length pcap, .slice CA c.length ccap, .int .i64 x, .int .i64 y, .int .i64 z, .bool inX] w fun e w' => e = .returned (.bool b) ∧ Ext w w' := by
  rw [← h]
  exact seam_c s A cap l PA pcap c CA ccap x y z inX ok okl hc hlen hx hy w hs hl hcs
theorem weakTo_le (s : Shape) (l : List Plate) (c : List Laid) : ∀ k, weakTo s l c k ≤ 2 * k
  | 0 => by simp [weakTo]
  | k + 1 => by
    have := weakTo_le s l c k
    have h : weakAt s l c k ≤ 2 := by unfold weakAt; split <;> split <;> omega
    unfold weakTo
    omega

set_option maxRecDepth 100000 in
set_option maxHeartbeats 4000000 in
theorem weakness_c (s : Shape) (A : Option Addr) (cap : Nat) (l : List Plate) (PA : Option Addr) (pcap : Nat) (c : List Laid) (CA : Option Addr) (ccap : Nat) (ok : s.Ok) (okl : platesB l = true) (hc : ∀ (k : Nat) (a : Laid), c[k]? = some a → a.Ok l) (hlen : c.length ≤ 1000) (w : World)
    (hs : Bytes w A cap s.cells) (hl : Plates w PA pcap l) (hcs : Laids w CA ccap c) :
    Calls Tryd.prog 52 #[.agg #[.int .i64 s.W, .int .i64 s.D, .int .i64 s.H, .slice A s.cells.length cap], .slice PA l.length pcap, .slice CA c.length ccap] w fun e w' =>
      e = .returned (.int .i64 (weakTo s l c s.cells.length)) ∧ Ext w w' := by
  obtain ⟨W1, hW1, E1, B1, hz1⟩ := box_ w #[.int .i64 s.W, .int .i64 s.D, .int .i64 s.H, .slice A s.cells.length cap] 24
  have b1 := B1.cell
  have hl256 := s.len_le ok
  obtain ⟨w1, w2⟩ := ok.w
  obtain ⟨d1, d2⟩ := ok.d
  obtain ⟨h1, h2⟩ := ok.h
  have Hc := Lib.hid hc
  clear hc
  go_enter Tryd.func52, Tryd.ntmps52
  go_wp2_with fail
  clear hz1 hW1 b1
  go_loopw [7, 8] (fun v i wr => ∃ k m : Nat, k ≤ s.cells.length ∧ i = .int .i64 k ∧ v = .int .i64 m ∧ weakTo s l c k = m ∧ Ext W1 wr) (fun _ i _ => s.cells.length - (intOf i).toNat)
  case atStart => exact ⟨0, 0, by omega, rfl, rfl, rfl, Ext.refl _⟩
  case round =>
    obtain ⟨k, m, hk, rfl, rfl, hm, E⟩ := hrel
    have hm2 := weakTo_le s l c k
    rw [hm] at hm2
    have Hm := Lib.hid hm
    clear hm
    have C1 := B1.ext E
    have b1 := C1.cell
    have hsr := hs.ext (E1.trans E)
    have hlr := hl.ext (E1.trans E)
    have hcr := hcs.ext (E1.trans E)
    by_cases hlt : k < s.cells.length
    · have b3 := Int.emod_nonneg (k : Int) (show s.W ≠ 0 by omega)
      have b4 := Int.emod_lt_of_pos (k : Int) (show 0 < s.W by omega)
      have c0 : 0 ≤ (k : Int) / s.W := Int.ediv_nonneg (by omega) (by omega)
      have b5 := Int.emod_nonneg ((k : Int) / s.W) (show s.D ≠ 0 by omega)
      have b6 := Int.emod_lt_of_pos ((k : Int) / s.W) (show 0 < s.D by omega)
      have c1 : 0 ≤ (k : Int) / s.W / s.D := Int.ediv_nonneg c0 (by omega)
      have c2 : (k : Int) / s.W ≤ k := Int.ediv_le_self _ (by omega)
      have c3 : (k : Int) / s.W / s.D ≤ (k : Int) / s.W := Int.ediv_le_self _ c0
      have e1 : (k : Int).tmod s.W = (k : Int) % s.W := Int.tmod_eq_emod_of_nonneg (by omega)
      have e2 : (k : Int).tdiv s.W = (k : Int) / s.W := Int.tdiv_eq_ediv_of_nonneg (by omega)
      have e3 : ((k : Int) / s.W).tmod s.D = (k : Int) / s.W % s.D := Int.tmod_eq_emod_of_nonneg c0
      have e4 : ((k : Int) / s.W).tdiv s.D = (k : Int) / s.W / s.D := Int.tdiv_eq_ediv_of_nonneg c0
      have f1 : IntKind.i64.wrap ((k : Int) % s.W) = (k : Int) % s.W := IntWalk.i64_in _ (by omega)
      have f2 : IntKind.i64.wrap ((k : Int) / s.W) = (k : Int) / s.W := IntWalk.i64_in _ (by omega)
      have f3 : IntKind.i64.wrap ((k : Int) / s.W % s.D) = (k : Int) / s.W % s.D := IntWalk.i64_in _ (by omega)
      have f4 : IntKind.i64.wrap ((k : Int) / s.W / s.D) = (k : Int) / s.W / s.D := IntWalk.i64_in _ (by omega)
      have f5 : IntKind.i64.wrap ((k : Int) / s.W / s.D + 1) = (k : Int) / s.W / s.D + 1 := IntWalk.i64_in _ (by omega)
      have n1 : (s.W == 0) = false := by simp; omega
      have n2 : (s.D == 0) = false := by simp; omega
      have Hstep : Hid (weakTo s l c (k + 1) = m + weakAt s l c k) := Lib.hid (by rw [weakTo, Hm.out])
      obtain ⟨t1, h1⟩ : ∃ t, seamB s l c ((k : Int) % s.W) ((k : Int) / s.W % s.D) ((k : Int) / s.W / s.D) true = t := ⟨_, rfl⟩
      obtain ⟨t2, h2⟩ : ∃ t, seamB s l c ((k : Int) % s.W) ((k : Int) / s.W % s.D) ((k : Int) / s.W / s.D + 1) true = t := ⟨_, rfl⟩
      obtain ⟨t3, h3⟩ : ∃ t, seamB s l c ((k : Int) % s.W) ((k : Int) / s.W % s.D) ((k : Int) / s.W / s.D) false = t := ⟨_, rfl⟩
      obtain ⟨t4, h4⟩ : ∃ t, seamB s l c ((k : Int) % s.W) ((k : Int) / s.W % s.D) ((k : Int) / s.W / s.D + 1) false = t := ⟨_, rfl⟩
      have Hat : Hid (weakAt s l c k = (if t1 = true ∧ t2 = true then 1 else 0) + (if t3 = true ∧ t4 = true then 1 else 0)) := Lib.hid (by
        unfold weakAt Shape.px Shape.py Shape.pz
        rw [h1, h2, h3, h4])
      have H1 := Lib.hid h1
      have H2 := Lib.hid h2
      have H3 := Lib.hid h3
      have H4 := Lib.hid h4
      clear h1 h2 h3 h4
      go_wp2_with fail
      refine wp_region_grow (by kernel_rfl) (by kernel_rfl) ?_
      repeat (go_big_quiet_step (fail))
      refine wpQuiet_nil ?_
      intro W3 hW3
      have E3 : Ext wr W3 := by
        obtain ⟨x, rfl⟩ := hW3
        exact (Ext.refl _).grow x
      clear hW3
      obtain ⟨hcW3, hfW3, hzW3⟩ := ext_facts E3
      clear hcW3 hfW3 hzW3 b1
      have b1 := (C1.ext E3).cell
      cases t1
      · go_wp2_with fail
        refine (seam_is H1.out ok okl Hc.out hlen (by omega) (by omega) _ (hsr.ext E3) (hlr.ext E3) (hcr.ext E3)).mono ?_
        rintro e V1 ⟨rfl, F1⟩
        have F := E3.trans F1
        clear b1
        have b1 := (C1.ext F).cell
        have hs3 := hsr.ext F
        have hl3 := hlr.ext F
        have hc3 := hcr.ext F
        cases t3
        · go_wp2_with fail
          refine (seam_is H3.out ok okl Hc.out hlen (by omega) (by omega) _ hs3 hl3 hc3).mono ?_
          rintro e V3 ⟨rfl, F3⟩
          have G := E.trans (F.trans F3)
          go_wp2_with fail
          go_roundw
          case rel => exact ⟨k + 1, m + 0, by omega, by go_num, by go_num, by simp [Hstep.out, Hat.out], G⟩
          case measure => simp only [intOf]; omega
        · cases t4
          · go_wp2_with fail
            refine (seam_is H3.out ok okl Hc.out hlen (by omega) (by omega) _ hs3 hl3 hc3).mono ?_
            rintro e V3 ⟨rfl, F3⟩
            clear b1
            have b1 := ((C1.ext F).ext F3).cell
            go_wp2_with fail
            refine (seam_is H4.out ok okl Hc.out hlen (by omega) (by omega) _ (hs3.ext F3) (hl3.ext F3) (hc3.ext F3)).mono ?_
            rintro e V4 ⟨rfl, F4⟩
            have G := E.trans ((F.trans F3).trans F4)
            go_wp2_with fail
            go_roundw
            case rel => exact ⟨k + 1, m + 0, by omega, by go_num, by go_num, by simp [Hstep.out, Hat.out], G⟩
            case measure => simp only [intOf]; omega
          · go_wp2_with fail
            refine (seam_is H3.out ok okl Hc.out hlen (by omega) (by omega) _ hs3 hl3 hc3).mono ?_
            rintro e V3 ⟨rfl, F3⟩
            clear b1
            have b1 := ((C1.ext F).ext F3).cell
            go_wp2_with fail
            refine (seam_is H4.out ok okl Hc.out hlen (by omega) (by omega) _ (hs3.ext F3) (hl3.ext F3) (hc3.ext F3)).mono ?_
            rintro e V4 ⟨rfl, F4⟩
            have G := E.trans ((F.trans F3).trans F4)
            go_wp2_with fail
            go_roundw
            case rel => exact ⟨k + 1, m + 1, by omega, by go_num, by go_num, by simp [Hstep.out, Hat.out], G⟩
            case measure => simp only [intOf]; omega
      · cases t2
        · go_wp2_with fail
          refine (seam_is H1.out ok okl Hc.out hlen (by omega) (by omega) _ (hsr.ext E3) (hlr.ext E3) (hcr.ext E3)).mono ?_
          rintro e V1 ⟨rfl, F1⟩
          clear b1
          have b1 := ((C1.ext E3).ext F1).cell
          go_wp2_with fail
          refine (seam_is H2.out ok okl Hc.out hlen (by omega) (by omega) _ ((hsr.ext E3).ext F1) ((hlr.ext E3).ext F1) ((hcr.ext E3).ext F1)).mono ?_
          rintro e V2 ⟨rfl, F2⟩
          have F := (E3.trans F1).trans F2
          clear b1
          have b1 := (C1.ext F).cell
          have hs3 := hsr.ext F
          have hl3 := hlr.ext F
          have hc3 := hcr.ext F
          cases t3
          · go_wp2_with fail
            refine (seam_is H3.out ok okl Hc.out hlen (by omega) (by omega) _ hs3 hl3 hc3).mono ?_
            rintro e V3 ⟨rfl, F3⟩
            have G := E.trans (F.trans F3)
            go_wp2_with fail
            go_roundw
            case rel => exact ⟨k + 1, m + 0, by omega, by go_num, by go_num, by simp [Hstep.out, Hat.out], G⟩
            case measure => simp only [intOf]; omega
          · cases t4
            · go_wp2_with fail
              refine (seam_is H3.out ok okl Hc.out hlen (by omega) (by omega) _ hs3 hl3 hc3).mono ?_
              rintro e V3 ⟨rfl, F3⟩
              clear b1
              have b1 := ((C1.ext F).ext F3).cell
              go_wp2_with fail
              refine (seam_is H4.out ok okl Hc.out hlen (by omega) (by omega) _ (hs3.ext F3) (hl3.ext F3) (hc3.ext F3)).mono ?_
              rintro e V4 ⟨rfl, F4⟩
              have G := E.trans ((F.trans F3).trans F4)
              go_wp2_with fail
              go_roundw
              case rel => exact ⟨k + 1, m + 0, by omega, by go_num, by go_num, by simp [Hstep.out, Hat.out], G⟩
              case measure => simp only [intOf]; omega
            · go_wp2_with fail
              refine (seam_is H3.out ok okl Hc.out hlen (by omega) (by omega) _ hs3 hl3 hc3).mono ?_
              rintro e V3 ⟨rfl, F3⟩
              clear b1
              have b1 := ((C1.ext F).ext F3).cell
              go_wp2_with fail
              refine (seam_is H4.out ok okl Hc.out hlen (by omega) (by omega) _ (hs3.ext F3) (hl3.ext F3) (hc3.ext F3)).mono ?_
              rintro e V4 ⟨rfl, F4⟩
              have G := E.trans ((F.trans F3).trans F4)
              go_wp2_with fail
              go_roundw
              case rel => exact ⟨k + 1, m + 1, by omega, by go_num, by go_num, by simp [Hstep.out, Hat.out], G⟩
              case measure => simp only [intOf]; omega
        · go_wp2_with fail
          refine (seam_is H1.out ok okl Hc.out hlen (by omega) (by omega) _ (hsr.ext E3) (hlr.ext E3) (hcr.ext E3)).mono ?_
          rintro e V1 ⟨rfl, F1⟩
          clear b1
          have b1 := ((C1.ext E3).ext F1).cell
          go_wp2_with fail
          refine (seam_is H2.out ok okl Hc.out hlen (by omega) (by omega) _ ((hsr.ext E3).ext F1) ((hlr.ext E3).ext F1) ((hcr.ext E3).ext F1)).mono ?_
          rintro e V2 ⟨rfl, F2⟩
          have F := (E3.trans F1).trans F2
          clear b1
          have b1 := (C1.ext F).cell
          have hs3 := hsr.ext F
          have hl3 := hlr.ext F
          have hc3 := hcr.ext F
          cases t3
          · go_wp2_with fail
            refine (seam_is H3.out ok okl Hc.out hlen (by omega) (by omega) _ hs3 hl3 hc3).mono ?_
            rintro e V3 ⟨rfl, F3⟩
            have G := E.trans (F.trans F3)
            go_wp2_with fail
            go_roundw
            case rel => exact ⟨k + 1, m + 1, by omega, by go_num, by go_num, by simp [Hstep.out, Hat.out], G⟩
            case measure => simp only [intOf]; omega
          · cases t4
            · go_wp2_with fail
              refine (seam_is H3.out ok okl Hc.out hlen (by omega) (by omega) _ hs3 hl3 hc3).mono ?_
              rintro e V3 ⟨rfl, F3⟩
              clear b1
              have b1 := ((C1.ext F).ext F3).cell
              go_wp2_with fail
              refine (seam_is H4.out ok okl Hc.out hlen (by omega) (by omega) _ (hs3.ext F3) (hl3.ext F3) (hc3.ext F3)).mono ?_
              rintro e V4 ⟨rfl, F4⟩
              have G := E.trans ((F.trans F3).trans F4)
              go_wp2_with fail
              go_roundw
              case rel => exact ⟨k + 1, m + 1, by omega, by go_num, by go_num, by simp [Hstep.out, Hat.out], G⟩
              case measure => simp only [intOf]; omega
            · go_wp2_with fail
              refine (seam_is H3.out ok okl Hc.out hlen (by omega) (by omega) _ hs3 hl3 hc3).mono ?_
              rintro e V3 ⟨rfl, F3⟩
              clear b1
              have b1 := ((C1.ext F).ext F3).cell
              go_wp2_with fail
              refine (seam_is H4.out ok okl Hc.out hlen (by omega) (by omega) _ (hs3.ext F3) (hl3.ext F3) (hc3.ext F3)).mono ?_
              rintro e V4 ⟨rfl, F4⟩
              have G := E.trans ((F.trans F3).trans F4)
              go_wp2_with fail
              go_roundw
              case rel => exact ⟨k + 1, m + 2, by omega, by go_num, by go_num, by simp [Hstep.out, Hat.out], G⟩
              case measure => simp only [intOf]; omega
    · obtain rfl : k = s.cells.length := by omega
      go_wp2_with fail
      go_ret
      exact ⟨by rw [Hm.out] <;> rfl, E1.trans E⟩
end Go.Proofs.YtpikemglnnjemaaDoor
