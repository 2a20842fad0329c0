/- Composition and Check of the reference. -/
import Derived.Test.YtpikemglnnjemaaIntsA
import Derived.Test.YtpikemglnnjemaaRValid
import Derived.Test.YtpikemglnnjemaaRCheckPlates
namespace Go.Proofs.Ytpikemglnnjemaa
open Go.RowKit

theorem lies_is {s : Shape} {A : Option Addr} {cap : Nat} {l : List Plate} {PA : Option Addr} {pcap : Nat} {a : Laid} {r : Bool} (h : liesB s l a = r) (ok : s.Ok) (okl : platesB l = true) (w : World) (hs : Bytes w A cap s.cells) (hl : Plates w PA pcap l) :
    Calls Try.prog 43 #[.agg #[.int .i64 s.W, .int .i64 s.D, .int .i64 s.H, .slice A s.cells.length cap], .slice PA l.length pcap, .agg #[.int .i64 a.plate, .int .i64 a.x, .int .i64 a.y, .int .i64 a.z, .bool a.turned]] w fun e w' =>
      e = .returned (.bool r) ∧ Ext w w' := by
  subst h
  exact lies_f s A cap l PA pcap _ _ _ _ _ ok okl w hs hl
theorem by_is {l : List Plate} {A : Option Addr} {cap : Nat} {CA : Option Addr} {ccap : Nat} {c : List Laid} {x y z r : Int} (h : byI l c x y z = r) (okl : platesB l = true) (hc : ∀ (k : Nat) (a : Laid), c[k]? = some a → a.Ok l) (hlen : c.length ≤ 1000) (w : World) (hl : Plates w A cap l) (hcs : Laids w CA ccap c) :
    Calls Try.prog 45 #[.slice A l.length cap, .slice CA c.length ccap, .int .i64 x, .int .i64 y, .int .i64 z] w fun e w' => e = .returned (.int .i64 r) ∧ Ext w w' := by
  subst h
  exact by_c A cap l CA ccap c x y z okl hc hlen w hl hcs
theorem comp_bad {s : Shape} {l : List Plate} {c : List Laid} {k : Nat} (hk : k < c.length) (h : compAt s l c k = false) : compB s l c = false := by
  unfold compB
  rw [Bool.and_eq_false_iff]
  left
  rw [List.all_eq_false]
  exact ⟨k, List.mem_range.2 hk, by simp [h]⟩
theorem comp_open {s : Shape} {l : List Plate} {c : List Laid} {k : Nat} (hk : k < s.cells.length) (h : coveredAt s l c k = false) : compB s l c = false := by
  unfold compB
  rw [Bool.and_eq_false_iff]
  right
  rw [List.all_eq_false]
  exact ⟨k, List.mem_range.2 hk, by simp [h]⟩
theorem comp_good {s : Shape} {l : List Plate} {c : List Laid} (h1 : ∀ j, j < c.length → compAt s l c j = true) (h2 : ∀ j, j < s.cells.length → coveredAt s l c j = true) : compB s l c = true := by
  unfold compB
  rw [Bool.and_eq_true, List.all_eq_true, List.all_eq_true]
  exact ⟨fun j hj => h1 j (List.mem_range.1 hj), fun j hj => h2 j (List.mem_range.1 hj)⟩

set_option maxRecDepth 100000 in
set_option maxHeartbeats 8000000 in
theorem rComp_c (s : Shape) (A : Option Addr) (cap : Nat) (l : List Plate) (PA : Option Addr) (pcap : Nat) (c : List Laid) (CA : Option Addr) (ccap : Nat) (ok : s.Ok) (okl : platesB l = true) (hclen : c.length ≤ 1000) (w : World)
    (hs : Bytes w A cap s.cells) (hl : Plates w PA pcap l) (hcs : Laids w CA ccap c) :
    Calls Try.prog 34 #[.agg #[.int .i64 s.W, .int .i64 s.D, .int .i64 s.H, .slice A s.cells.length cap], .slice PA l.length pcap, .slice CA c.length ccap] w fun e w' =>
      e = .returned (.bool (compB s l c)) ∧ Ext w w' := by
  have hmk := make_ints l.length (by have := plates_len okl; omega)
  obtain ⟨W1, hW1, E1, B1, hz1⟩ := box_ w #[.int .i64 s.W, .int .i64 s.D, .int .i64 s.H, .slice A s.cells.length cap] 25
  obtain ⟨W2, hW2, E2, B2, hz2⟩ := box_ W1 (intsA (List.replicate l.length 0)) 3
  have hl8 := plates_len okl
  have hl256 := s.len_le ok
  obtain ⟨w1, w2⟩ := ok.w
  obtain ⟨d1, d2⟩ := ok.d
  obtain ⟨h1, h2⟩ := ok.h
  rw [hz1] at B2
  rw [← usedL_zero l c] at B2
  have B1 := B1.ext E2
  have b1 := B1.cell
  have E12 := E1.trans E2
  obtain ⟨S, hS⟩ : ∃ S, w.heap.size = S := ⟨_, rfl⟩
  rw [hS] at B1 B2 b1
  go_enter Try.func34, Try.ntmps34
  go_wp2_with fail
  clear hmk
  have HS := Lib.hid hS
  clear hS
  go_loopw [8] (fun i wr => ∃ k : Nat, k ≤ c.length ∧ i = .int .i64 k ∧ Ext w wr ∧ Blk wr S 25 #[.int .i64 s.W, .int .i64 s.D, .int .i64 s.H, .slice A s.cells.length cap] ∧
      Blk wr (S + 1) 3 (intsA (usedL l c k)) ∧ ∀ j, j < k → compAt s l c j = true) (fun i _ => c.length - (intOf i).toNat)
  case atStart => exact ⟨0, by omega, rfl, E12, B1, B2, fun j hj => by omega⟩
  case round =>
    obtain ⟨k, hk, rfl, E, BS, BU, hall⟩ := hrel
    have Hall := Lib.hid hall
    clear hall b1 B1 B2
    have bs := BS.cell
    have hsr := hs.ext E
    have hlr := hl.ext E
    by_cases hlt : k < c.length
    · obtain ⟨b, off, a, rfl, ha, hb, a0, a1, a2, a3, a4⟩ := hcs.at_ hlt
      obtain ⟨q0, q1, q2, q3, q4⟩ := E.five a0 a1 a2 a3 a4
      have hbr : b < wr.heap.size := Nat.lt_of_lt_of_le hb E.size
      have Ha := Lib.hid ha
      have Hla := Lib.hid (laidAt_eq ha)
      clear ha
      cases hli : liesB s l a
      · have Hbad : Hid (compB s l c = false) := Lib.hid (comp_bad hlt (by unfold compAt; rw [Hla.out, hli]; rfl))
        have Hli := Lib.hid hli
        clear hli
        go_wp2_with fail
        refine wp_region_grow (by kernel_rfl) (by kernel_rfl) ?_
        repeat (go_big_quiet_step ((go_at_call 43; exact quiet_ext (lies_is Hli.out ok okl _ (hsr.grow_ _) (hlr.grow_ _)))))
        refine wpQuiet_nil ?_
        intro W3 hW3
        have E3 : Ext wr W3 := by
          obtain ⟨x, rfl⟩ := hW3
          exact (Ext.refl _).grow x
        clear hW3
        obtain ⟨hcW3, hfW3, hzW3⟩ := ext_facts E3
        go_wp2_with fail
        go_ret
        exact ⟨by rw [Hbad.out]; rfl, E.trans E3⟩
      · have hok := laid_ok ok hli
        have hin : s.inside a.x a.y a.z = true := (lies_iff.1 hli).2.1
        obtain ⟨hp1, hp2⟩ := hok.p
        clear hok
        obtain ⟨pb, poff, p, rfl, hpl, hpb, p0, p1, p2, p3⟩ := hl.at_ (k := a.plate.toNat) (by omega)
        have okp := (plate_ok okl hpl).n
        have Hp := Lib.hid (plateAt_eq hpl)
        clear hpl
        have hun : usedN c k a.plate ≤ 1000 := by have := usedN_le c k a.plate; omega
        have hpt : ((a.plate.toNat : Nat) : Int) = a.plate := by omega
        have Hget : Hid ((usedL l c k)[a.plate.toNat]? = some (usedN c k a.plate : Int)) := Lib.hid (by
          have := usedL_get (l := l) (c := c) (k := k) (p := a.plate.toNat) (by omega)
          rwa [hpt] at this)
        have Hset : Hid ((usedL l c k).set a.plate.toNat ((usedN c k a.plate : Int) + 1) = usedL l c (k + 1)) := Lib.hid (by
          have := usedL_succ (l := l) (p := a.plate.toNat) Ha.out hpt.symm
          rwa [hpt] at this)
        have Hsucc : Hid (usedN c (k + 1) a.plate = usedN c k a.plate + 1) := Lib.hid (by
          have := usedN_succ Ha.out a.plate
          rwa [if_pos rfl] at this)
        clear hpt
        have Hli := Lib.hid hli
        clear hli
        by_cases hk0 : k = 0
        · subst hk0
          simp only [Nat.zero_mul, Nat.add_zero] at q0 q1 q2 q3 q4 a0 a1 a2 a3 a4
          have Hord : Hid ((decide (0 = 0) || decide (idxL s (laidAt c (0 - 1)) < idxL s a)) = true) := Lib.hid (by simp)
          go_wp2_with fail
          refine wp_region_grow (by kernel_rfl) (by kernel_rfl) ?_
          repeat (go_big_quiet_step ((go_at_call 43; exact quiet_ext (lies_is Hli.out ok okl _ (hsr.grow_ _) (hlr.grow_ _)))))
          refine wpQuiet_nil ?_
          intro W3 hW3
          have E3 : Ext wr W3 := by
            obtain ⟨x, rfl⟩ := hW3
            exact (Ext.refl _).grow x
          clear hW3
          obtain ⟨hcW3, hfW3, hzW3⟩ := ext_facts E3
          have E03 := E.trans E3
          obtain ⟨c0, c1, c2, c3, c4⟩ := E03.five a0 a1 a2 a3 a4
          have BU3 := BU.ext E3
          have bu3 : W3.cell? ⟨S + 1, a.plate.toNat, none⟩ = some (.int .i64 (usedN c 0 a.plate)) := by rw [BU3.cell, intsA_get, Hget.out]; rfl
          have fu3 := BU3.frozen a.plate.toNat
          obtain ⟨W4, hW4, BU4, keep4, ext4, hz4⟩ := BU3.store1 a.plate.toNat (.int .i64 ((usedN c 0 a.plate : Int) + 1))
          rw [intsA_set, Hset.out] at BU4
          have E04 : Ext w W4 := ext4 w E03 (by rw [HS.out]; omega)
          have BS4 := keep4 S _ _ (by omega) (BS.ext E3)
          obtain ⟨r0, r1, r2, r3, r4⟩ := E04.five a0 a1 a2 a3 a4
          obtain ⟨t0, t1, t2, t3⟩ := E04.four p0 p1 p2 p3
          have bu4 : W4.cell? ⟨S + 1, a.plate.toNat, none⟩ = some (.int .i64 ((usedN c 0 a.plate : Int) + 1)) := by
            have hg := usedL_get (l := l) (c := c) (k := 0 + 1) (p := a.plate.toNat) (by omega)
            rw [show ((a.plate.toNat : Nat) : Int) = a.plate by omega, Hsucc.out] at hg
            rw [BU4.cell, intsA_get, hg]
            simp [iv]
          by_cases hu : p.N < (usedN c 0 a.plate : Int) + 1
          · have hub : decide (p.N < (usedN c 0 a.plate : Int) + 1) = true := by simpa using hu
            have Hbad : Hid (compB s l c = false) := Lib.hid (comp_bad hlt (by
              unfold compAt
              rw [Hla.out, Hp.out, Hsucc.out, decide_eq_false (p := (((usedN c 0 a.plate + 1 : Nat) : Int) ≤ p.N)) (by omega), Bool.and_false, Bool.and_false]))
            clear hu
            go_wp2_with fail
            refine wp_region_grow (by kernel_rfl) (by kernel_rfl) ?_
            repeat (go_big_quiet_step (fail))
            refine wpQuiet_nil ?_
            intro W5 hW5
            have E5 : Ext W4 W5 := by
              obtain ⟨x, rfl⟩ := hW5
              exact (Ext.refl _).grow x
            clear hW5
            obtain ⟨hcW5, hfW5, hzW5⟩ := ext_facts E5
            go_wp2_with fail
            go_ret
            exact ⟨by rw [Hbad.out]; rfl, E04.trans E5⟩
          · have hub : decide (p.N < (usedN c 0 a.plate : Int) + 1) = false := by simpa using hu
            have Hgood : Hid (compAt s l c 0 = true) := Lib.hid (by
              unfold compAt
              rw [Hla.out, Hp.out, Hsucc.out, Hli.out, decide_eq_true (p := (((usedN c 0 a.plate + 1 : Nat) : Int) ≤ p.N)) (by omega), Bool.and_true, Bool.true_and]
              exact Hord.out)
            clear hu
            go_wp2_with fail
            refine wp_region_grow (by kernel_rfl) (by kernel_rfl) ?_
            repeat (go_big_quiet_step (fail))
            refine wpQuiet_nil ?_
            intro W5 hW5
            have E5 : Ext W4 W5 := by
              obtain ⟨x, rfl⟩ := hW5
              exact (Ext.refl _).grow x
            clear hW5
            obtain ⟨hcW5, hfW5, hzW5⟩ := ext_facts E5
            go_wp2_with fail
            go_roundw
            case rel =>
              refine ⟨0 + 1, by omega, by go_num, E04.trans E5, BS4.ext E5, BU4.ext E5, fun j hj => ?_⟩
              rcases Nat.lt_or_ge j 0 with h | h
              · exact Hall.out j h
              · obtain rfl : j = 0 := by omega
                exact Hgood.out
            case measure => simp only [intOf]; omega
        · obtain ⟨b', off', a', hA', ha', hb', a0', a1', a2', a3', a4'⟩ := hcs.at_ (k := k - 1) (by omega)
          cases hA'
          obtain ⟨q0', q1', q2', q3', q4'⟩ := E.five a0' a1' a2' a3' a4'
          have Hla' := Lib.hid (laidAt_eq ha')
          clear ha'
          have hin' : s.inside a'.x a'.y a'.z = true := by
            have := Hall.out (k - 1) (by omega)
            unfold compAt at this
            rw [Bool.and_eq_true, Hla'.out] at this
            exact (lies_iff.1 this.1).2.1
          have hkc : (((k - 1 : Nat) : Nat) : Int) = (k : Int) - 1 := by omega
          have ht : ((k : Int) - 1).toNat = k - 1 := by omega
          have hk1 : (1 : Int) ≤ k := by omega
          have hk2 : 0 < k := by omega
          by_cases hidx : s.idx a.x a.y a.z ≤ s.idx a'.x a'.y a'.z
          · have hdec : decide (s.idx a.x a.y a.z ≤ s.idx a'.x a'.y a'.z) = true := by simpa using hidx
            have Hbad : Hid (compB s l c = false) := Lib.hid (comp_bad hlt (by
              unfold compAt idxL
              rw [Hla.out, Hla'.out, decide_eq_false hk0, decide_eq_false (p := s.idx a'.x a'.y a'.z < s.idx a.x a.y a.z) (by omega)]
              simp))
            clear hidx hk0
            go_wp2_with fail
            refine wp_region_grow (by kernel_rfl) (by kernel_rfl) ?_
            repeat (go_big_quiet_step ((first | (go_at_call 43; exact quiet_ext (lies_is Hli.out ok okl _ (hsr.grow_ _) (hlr.grow_ _))) | (go_at_call 44; exact quiet_ext (index_c s A cap _ _ _ ok (by assumption) _)))))
            refine wpQuiet_nil ?_
            intro W3 hW3
            have E3 : Ext wr W3 := by
              obtain ⟨x, rfl⟩ := hW3
              exact (Ext.refl _).grow x
            clear hW3
            obtain ⟨hcW3, hfW3, hzW3⟩ := ext_facts E3
            go_wp2_with fail
            go_ret
            exact ⟨by rw [Hbad.out]; rfl, E.trans E3⟩
          · have hdec : decide (s.idx a.x a.y a.z ≤ s.idx a'.x a'.y a'.z) = false := by simpa using hidx
            have Hord : Hid ((decide (k = 0) || decide (idxL s (laidAt c (k - 1)) < idxL s a)) = true) := Lib.hid (by
              unfold idxL
              rw [Hla'.out, decide_eq_true (p := s.idx a'.x a'.y a'.z < s.idx a.x a.y a.z) (by omega), Bool.or_true])
            clear hidx hk0
            go_wp2_with fail
            refine wp_region_grow (by kernel_rfl) (by kernel_rfl) ?_
            repeat (go_big_quiet_step ((first | (go_at_call 43; exact quiet_ext (lies_is Hli.out ok okl _ (hsr.grow_ _) (hlr.grow_ _))) | (go_at_call 44; exact quiet_ext (index_c s A cap _ _ _ ok (by assumption) _)))))
            refine wpQuiet_nil ?_
            intro W3 hW3
            have E3 : Ext wr W3 := by
              obtain ⟨x, rfl⟩ := hW3
              exact (Ext.refl _).grow x
            clear hW3
            obtain ⟨hcW3, hfW3, hzW3⟩ := ext_facts E3
            clear hkc ht q0' q1' q2' q3' q4'
            have E03 := E.trans E3
            obtain ⟨c0, c1, c2, c3, c4⟩ := E03.five a0 a1 a2 a3 a4
            have BU3 := BU.ext E3
            have bu3 : W3.cell? ⟨S + 1, a.plate.toNat, none⟩ = some (.int .i64 (usedN c k a.plate)) := by rw [BU3.cell, intsA_get, Hget.out]; rfl
            have fu3 := BU3.frozen a.plate.toNat
            obtain ⟨W4, hW4, BU4, keep4, ext4, hz4⟩ := BU3.store1 a.plate.toNat (.int .i64 ((usedN c k a.plate : Int) + 1))
            rw [intsA_set, Hset.out] at BU4
            have E04 : Ext w W4 := ext4 w E03 (by rw [HS.out]; omega)
            have BS4 := keep4 S _ _ (by omega) (BS.ext E3)
            obtain ⟨r0, r1, r2, r3, r4⟩ := E04.five a0 a1 a2 a3 a4
            obtain ⟨t0, t1, t2, t3⟩ := E04.four p0 p1 p2 p3
            have bu4 : W4.cell? ⟨S + 1, a.plate.toNat, none⟩ = some (.int .i64 ((usedN c k a.plate : Int) + 1)) := by
              have hg := usedL_get (l := l) (c := c) (k := k + 1) (p := a.plate.toNat) (by omega)
              rw [show ((a.plate.toNat : Nat) : Int) = a.plate by omega, Hsucc.out] at hg
              rw [BU4.cell, intsA_get, hg]
              simp [iv]
            by_cases hu : p.N < (usedN c k a.plate : Int) + 1
            · have hub : decide (p.N < (usedN c k a.plate : Int) + 1) = true := by simpa using hu
              have Hbad : Hid (compB s l c = false) := Lib.hid (comp_bad hlt (by
                unfold compAt
                rw [Hla.out, Hp.out, Hsucc.out, decide_eq_false (p := (((usedN c k a.plate + 1 : Nat) : Int) ≤ p.N)) (by omega), Bool.and_false, Bool.and_false]))
              clear hu
              go_wp2_with fail
              refine wp_region_grow (by kernel_rfl) (by kernel_rfl) ?_
              repeat (go_big_quiet_step (fail))
              refine wpQuiet_nil ?_
              intro W5 hW5
              have E5 : Ext W4 W5 := by
                obtain ⟨x, rfl⟩ := hW5
                exact (Ext.refl _).grow x
              clear hW5
              obtain ⟨hcW5, hfW5, hzW5⟩ := ext_facts E5
              go_wp2_with fail
              go_ret
              exact ⟨by rw [Hbad.out]; rfl, E04.trans E5⟩
            · have hub : decide (p.N < (usedN c k a.plate : Int) + 1) = false := by simpa using hu
              have Hgood : Hid (compAt s l c k = true) := Lib.hid (by
                unfold compAt
                rw [Hla.out, Hp.out, Hsucc.out, Hli.out, decide_eq_true (p := (((usedN c k a.plate + 1 : Nat) : Int) ≤ p.N)) (by omega), Bool.and_true, Bool.true_and]
                exact Hord.out)
              clear hu
              go_wp2_with fail
              refine wp_region_grow (by kernel_rfl) (by kernel_rfl) ?_
              repeat (go_big_quiet_step (fail))
              refine wpQuiet_nil ?_
              intro W5 hW5
              have E5 : Ext W4 W5 := by
                obtain ⟨x, rfl⟩ := hW5
                exact (Ext.refl _).grow x
              clear hW5
              obtain ⟨hcW5, hfW5, hzW5⟩ := ext_facts E5
              go_wp2_with fail
              go_roundw
              case rel =>
                refine ⟨k + 1, by omega, by go_num, E04.trans E5, BS4.ext E5, BU4.ext E5, fun j hj => ?_⟩
                rcases Nat.lt_or_ge j k with h | h
                · exact Hall.out j h
                · obtain rfl : j = k := by omega
                  exact Hgood.out
              case measure => simp only [intOf]; omega
    · obtain rfl : k = c.length := by omega
      have hlok : ∀ (k : Nat) (a : Laid), c[k]? = some a → a.Ok l := fun k a ha => by
        have := Hall.out k (List.getElem?_eq_some_iff.1 ha).1
        unfold compAt at this
        rw [Bool.and_eq_true, laidAt_eq ha] at this
        exact laid_ok ok this.1
      have Hlok := Lib.hid hlok
      clear hlok bs
      go_wp2_with fail
      go_loopw [9] (fun i wr => ∃ k : Nat, k ≤ s.cells.length ∧ i = .int .i64 k ∧ Ext w wr ∧ Blk wr S 25 #[.int .i64 s.W, .int .i64 s.D, .int .i64 s.H, .slice A s.cells.length cap] ∧
          ∀ j, j < k → coveredAt s l c j = true) (fun i _ => s.cells.length - (intOf i).toNat)
      case atStart => exact ⟨0, by omega, rfl, E, BS, fun j hj => by omega⟩
      case round =>
        clear E BS BU hsr hlr
        obtain ⟨k, hk, rfl, E, BS, hcov⟩ := hrel
        have Hcov := Lib.hid hcov
        clear hcov
        have bs := BS.cell
        have hlr := hl.ext E
        have hcr := hcs.ext E
        by_cases hlt : k < s.cells.length
        · obtain ⟨b, off, col, rfl, hcol, hok, hbl, hcell⟩ := (hs.ext E).at_ hlt
          have Hcol : Hid (s.cells.getD k 0 = col) := Lib.hid (by rw [List.getD_eq_getElem?_getD, hcol]; rfl)
          clear hcol
          have b3 := Int.emod_nonneg (k : Int) (show s.W ≠ 0 by omega)
          have b4 := Int.emod_lt_of_pos (k : Int) (show 0 < s.W by omega)
          have c0 : 0 ≤ (k : Int) / s.W := Int.ediv_nonneg (by omega) (by omega)
          have b5 := Int.emod_nonneg ((k : Int) / s.W) (show s.D ≠ 0 by omega)
          have b6 := Int.emod_lt_of_pos ((k : Int) / s.W) (show 0 < s.D by omega)
          have c1 : 0 ≤ (k : Int) / s.W / s.D := Int.ediv_nonneg c0 (by omega)
          have c2 : (k : Int) / s.W ≤ k := Int.ediv_le_self _ (by omega)
          have c3 : (k : Int) / s.W / s.D ≤ (k : Int) / s.W := Int.ediv_le_self _ c0
          by_cases h0 : col = 0
          · subst h0
            have Hgood : Hid (coveredAt s l c k = true) := Lib.hid (by unfold coveredAt; rw [decide_eq_true Hcol.out]; rfl)
            go_wp2_with fail
            refine wp_region_grow (by kernel_rfl) (by kernel_rfl) ?_
            repeat (go_big_quiet_step (fail))
            refine wpQuiet_nil ?_
            intro W3 hW3
            have E3 : Ext wr W3 := by
              obtain ⟨x, rfl⟩ := hW3
              exact (Ext.refl _).grow x
            clear hW3
            obtain ⟨hcW3, hfW3, hzW3⟩ := ext_facts E3
            go_wp2_with fail
            go_roundw
            case rel =>
              refine ⟨k + 1, by omega, by go_num, E.trans E3, BS.ext E3, fun j hj => ?_⟩
              rcases Nat.lt_or_ge j k with h | h
              · exact Hcov.out j h
              · obtain rfl : j = k := by omega
                exact Hgood.out
            case measure => simp only [intOf]; omega
          · have hb0 : (col != 0) = true := by simpa using h0
            have hb1 : (col == 0) = false := by simpa using h0
            have e1 : (k : Int).tmod s.W = (k : Int) % s.W := Int.tmod_eq_emod_of_nonneg (by omega)
            have e2 : (k : Int).tdiv s.W = (k : Int) / s.W := Int.tdiv_eq_ediv_of_nonneg (by omega)
            have e3 : ((k : Int) / s.W).tmod s.D = (k : Int) / s.W % s.D := Int.tmod_eq_emod_of_nonneg c0
            have e4 : ((k : Int) / s.W).tdiv s.D = (k : Int) / s.W / s.D := Int.tdiv_eq_ediv_of_nonneg c0
            have f1 : IntKind.i64.wrap ((k : Int) % s.W) = (k : Int) % s.W := IntWalk.i64_in _ (by omega)
            have f2 : IntKind.i64.wrap ((k : Int) / s.W) = (k : Int) / s.W := IntWalk.i64_in _ (by omega)
            have f3 : IntKind.i64.wrap ((k : Int) / s.W % s.D) = (k : Int) / s.W % s.D := IntWalk.i64_in _ (by omega)
            have f4 : IntKind.i64.wrap ((k : Int) / s.W / s.D) = (k : Int) / s.W / s.D := IntWalk.i64_in _ (by omega)
            have n1 : (s.W == 0) = false := by simp; omega
            have n2 : (s.D == 0) = false := by simp; omega
            obtain ⟨r, hr⟩ : ∃ r, byI l c ((k : Int) % s.W) ((k : Int) / s.W % s.D) ((k : Int) / s.W / s.D) = r := ⟨_, rfl⟩
            have Hr := Lib.hid hr
            clear hr
            by_cases hr0 : r < 0
            · have hd : decide (r < 0) = true := by simpa using hr0
              have Hbad : Hid (compB s l c = false) := Lib.hid (comp_open hlt (by
                unfold coveredAt Shape.px Shape.py Shape.pz
                rw [Hr.out, decide_eq_false (show ¬ s.cells.getD k 0 = 0 by rw [Hcol.out]; exact h0), decide_eq_false (show ¬ 0 ≤ r by omega)]
                rfl))
              clear hr0 h0
              go_wp2_with fail
              refine wp_region_grow (by kernel_rfl) (by kernel_rfl) ?_
              repeat (go_big_quiet_step ((go_at_call 45; exact quiet_ext (by_is Hr.out okl Hlok.out hclen _ (hlr.grow_ _) (hcr.grow_ _)))))
              refine wpQuiet_nil ?_
              intro W3 hW3
              have E3 : Ext wr W3 := by
                obtain ⟨x, rfl⟩ := hW3
                exact (Ext.refl _).grow x
              clear hW3
              obtain ⟨hcW3, hfW3, hzW3⟩ := ext_facts E3
              go_wp2_with fail
              go_ret
              exact ⟨by rw [Hbad.out]; rfl, E.trans E3⟩
            · have hd : decide (r < 0) = false := by simpa using hr0
              have Hgood : Hid (coveredAt s l c k = true) := Lib.hid (by
                unfold coveredAt Shape.px Shape.py Shape.pz
                rw [Hr.out, decide_eq_true (show 0 ≤ r by omega), Bool.or_true])
              clear hr0 h0
              go_wp2_with fail
              refine wp_region_grow (by kernel_rfl) (by kernel_rfl) ?_
              repeat (go_big_quiet_step ((go_at_call 45; exact quiet_ext (by_is Hr.out okl Hlok.out hclen _ (hlr.grow_ _) (hcr.grow_ _)))))
              refine wpQuiet_nil ?_
              intro W3 hW3
              have E3 : Ext wr W3 := by
                obtain ⟨x, rfl⟩ := hW3
                exact (Ext.refl _).grow x
              clear hW3
              obtain ⟨hcW3, hfW3, hzW3⟩ := ext_facts E3
              go_wp2_with fail
              go_roundw
              case rel =>
                refine ⟨k + 1, by omega, by go_num, E.trans E3, BS.ext E3, fun j hj => ?_⟩
                rcases Nat.lt_or_ge j k with h | h
                · exact Hcov.out j h
                · obtain rfl : j = k := by omega
                  exact Hgood.out
              case measure => simp only [intOf]; omega
        · obtain rfl : k = s.cells.length := by omega
          have Hgood : Hid (compB s l c = true) := Lib.hid (comp_good Hall.out Hcov.out)
          go_wp2_with fail
          go_ret
          exact ⟨by rw [Hgood.out]; rfl, E⟩

/-- The error of a composition. -/
def compErr (s : Shape) (l : List Plate) (c : List Laid) : Int := if s.valid = true then (if platesB l = true then (if compB s l c = true then 0 else 8) else 71) else 70
def askedErr (s : Shape) (l : List Plate) : Int := if s.valid = true then platesErr l else 70
set_option maxHeartbeats 1000000 in
theorem asked_c (s : Shape) (A : Option Addr) (cap : Nat) (l : List Plate) (PA : Option Addr) (pcap : Nat) (w : World) (hs : Bytes w A cap s.cells) (hl : Plates w PA pcap l) :
    Calls Try.prog 33 #[.agg #[.int .i64 s.W, .int .i64 s.D, .int .i64 s.H, .slice A s.cells.length cap], .slice PA l.length pcap] w fun e w' =>
      e = .returned (.int .i64 (askedErr s l)) ∧ Ext w w' := by
  obtain ⟨W1, hW1, E1, B1, hz1⟩ := box_ w #[.int .i64 s.W, .int .i64 s.D, .int .i64 s.H, .slice A s.cells.length cap] 25
  have b1 := B1.cell
  obtain ⟨v, hv⟩ : ∃ v, s.valid = v := ⟨_, rfl⟩
  go_enter Try.func33, Try.ntmps33
  go_wp2_with fail
  refine (validShape_c A cap s.W s.D s.H s.cells _ (hs.ext E1)).mono ?_
  rintro e w2 ⟨rfl, E2⟩
  rw [show (⟨s.W, s.D, s.H, s.cells⟩ : Shape) = s from rfl]
  rw [hv]
  have Hv := Lib.hid hv
  clear hv
  cases v
  · go_wp2_with fail
    go_ret
    exact ⟨by rw [askedErr, Hv.out]; rfl, E1.trans E2⟩
  · go_wp2_with fail
    refine (rCheckPlates_c PA pcap l _ ((hl.ext E1).ext E2)).mono ?_
    rintro e w3 ⟨rfl, E3⟩
    go_wp2_with fail
    go_ret
    exact ⟨by rw [askedErr, Hv.out, if_pos rfl]; rfl, (E1.trans E2).trans E3⟩
set_option maxHeartbeats 1000000 in
theorem rCheck_c (s : Shape) (A : Option Addr) (cap : Nat) (l : List Plate) (PA : Option Addr) (pcap : Nat) (c : List Laid) (CA : Option Addr) (ccap : Nat) (hclen : c.length ≤ 1000) (w : World)
    (hs : Bytes w A cap s.cells) (hl : Plates w PA pcap l) (hcs : Laids w CA ccap c) :
    Calls Try.prog 24 #[.agg #[.int .i64 s.W, .int .i64 s.D, .int .i64 s.H, .slice A s.cells.length cap], .slice PA l.length pcap, .slice CA c.length ccap] w fun e w' =>
      e = .returned (.int .i64 (compErr s l c)) ∧ Ext w w' := by
  obtain ⟨W1, hW1, E1, B1, hz1⟩ := box_ w #[.int .i64 s.W, .int .i64 s.D, .int .i64 s.H, .slice A s.cells.length cap] 25
  have b1 := B1.cell
  obtain ⟨r, hr⟩ : ∃ r, askedErr s l = r := ⟨_, rfl⟩
  by_cases hv : s.valid = true
  · by_cases hp : platesB l = true
    · have hr0 : r = 0 := by rw [← hr, askedErr, if_pos hv, platesErr, if_pos hp]
      subst hr0
      have ok := Shape.ok_of hv
      obtain ⟨v, hvv⟩ : ∃ v, compB s l c = v := ⟨_, rfl⟩
      have He : Hid (compErr s l c = if v = true then 0 else 8) := Lib.hid (by rw [compErr, if_pos hv, if_pos hp, hvv])
      have Hr := Lib.hid hr
      have Hvv := Lib.hid hvv
      clear hr hvv hv
      go_enter Try.func24, Try.ntmps24
      go_wp2_with fail
      refine (asked_c s A cap l PA pcap _ (hs.ext E1) (hl.ext E1)).mono ?_
      rintro e w2 ⟨rfl, E2⟩
      rw [Hr.out]
      have B1 := B1.ext E2
      clear b1
      have b1 := B1.cell
      go_wp2_with fail
      refine (rComp_c s A cap l PA pcap c CA ccap ok hp hclen _ ((hs.ext E1).ext E2) ((hl.ext E1).ext E2) ((hcs.ext E1).ext E2)).mono ?_
      rintro e w3 ⟨rfl, E3⟩
      rw [Hvv.out]
      cases v
      · go_wp2_with fail
        go_ret
        exact ⟨by rw [He.out]; rfl, (E1.trans E2).trans E3⟩
      · go_wp2_with fail
        go_ret
        exact ⟨by rw [He.out]; rfl, (E1.trans E2).trans E3⟩
    · have hr0 : r = 71 := by rw [← hr, askedErr, if_pos hv, platesErr, if_neg hp]
      subst hr0
      have He : Hid (compErr s l c = 71) := Lib.hid (by rw [compErr, if_pos hv, if_neg hp])
      have Hr := Lib.hid hr
      clear hr hv hp
      go_enter Try.func24, Try.ntmps24
      go_wp2_with fail
      refine (asked_c s A cap l PA pcap _ (hs.ext E1) (hl.ext E1)).mono ?_
      rintro e w2 ⟨rfl, E2⟩
      rw [Hr.out]
      go_wp2_with fail
      go_ret
      exact ⟨by rw [He.out]; rfl, E1.trans E2⟩
  · have hr0 : r = 70 := by rw [← hr, askedErr, if_neg hv]
    subst hr0
    have He : Hid (compErr s l c = 70) := Lib.hid (by rw [compErr, if_neg hv])
    have Hr := Lib.hid hr
    clear hr hv
    go_enter Try.func24, Try.ntmps24
    go_wp2_with fail
    refine (asked_c s A cap l PA pcap _ (hs.ext E1) (hl.ext E1)).mono ?_
    rintro e w2 ⟨rfl, E2⟩
    rw [Hr.out]
    go_wp2_with fail
    go_ret
    exact ⟨by rw [He.out]; rfl, E1.trans E2⟩
end Go.Proofs.Ytpikemglnnjemaa
