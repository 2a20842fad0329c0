/- search: the whole search, from nothing laid. Count: how many compositions there are. Compose: the best composition that hangs together. -/
import Derived.Test.YtaaeapjnjjbglaaGreatDoorCd10
import Derived.Test.YtaaeapjnjjbglaaGreatDoorCd38
import Derived.Test.YtaaeapjnjjbglaaGreatDoorCd39
import Derived.Test.YtaaeapjnjjbglaaGreatDoorCd40
import Derived.Laws.EntriesVeiled

namespace Go.Proofs.YtaaeapjnjjbglaaGreatDoor
open Go.RowKit

/-- What is left when the first i plates have been counted. -/
def leftI (l : List Plate) (i : Nat) : List Int := (List.range l.length).map fun p => if p < i then (plateAt l p).N else 0
theorem leftI_zero (l : List Plate) : leftI l 0 = List.replicate l.length 0 := by
  unfold leftI
  apply List.ext_getElem?
  intro j
  rw [List.getElem?_map, List.getElem?_replicate]
  by_cases h : j < l.length
  · rw [List.getElem?_range h, if_pos h]
    rfl
  · rw [List.getElem?_eq_none (by simp; omega), if_neg h]
    rfl
theorem leftI_succ {l : List Plate} {i : Nat} {p : Plate} (hi : l[i]? = some p) : (leftI l i).set i p.N = leftI l (i + 1) := by
  unfold leftI
  apply List.ext_getElem?
  intro j
  rw [List.getElem?_set, List.getElem?_map, List.getElem?_map]
  have hil : i < l.length := (List.getElem?_eq_some_iff.1 hi).1
  by_cases h : j < l.length
  · rw [List.getElem?_range h]
    simp only [Option.map_some, List.length_map, List.length_range]
    by_cases hij : i = j
    · subst hij
      rw [if_pos rfl, if_pos hil, if_pos (by omega), plateAt_eq hi]
    · rw [if_neg hij]
      by_cases hlt : j < i
      · rw [if_pos hlt, if_pos (by omega)]
      · rw [if_neg hlt, if_neg (by omega)]
  · rw [List.getElem?_eq_none (l := List.range l.length) (by simp; omega)]
    simp only [Option.map_none, List.length_map, List.length_range]
    by_cases hij : i = j
    · rw [if_pos hij, if_neg (by omega)]
    · rw [if_neg hij]
theorem leftI_all (l : List Plate) : leftI l l.length = leftL l [] := by
  unfold leftI leftL
  apply List.map_congr_left
  intro p hp
  rw [List.mem_range] at hp
  rw [if_pos hp]
  unfold leftN usedN
  simp
theorem leftI_len (l : List Plate) (i : Nat) : (leftI l i).length = l.length := by simp [leftI]

set_option maxRecDepth 100000 in
set_option maxHeartbeats 8000000 in
theorem searchCount_c {σ : Type} {J : σ → (Nat → Prop) → World → Prop} {longF : σ → Nat → Bool} {seeF : σ → List Laid → List Nat → σ} {wT : World} (nb mb : Nat) (g : Nat) (s : Shape) (A : Option Addr) (cap : Nat) (l : List Plate) (PA : Option Addr) (pcap : Nat) (NA : Option Addr) (ncap : Nat) (AA : Option Addr) (acap : Nat) (EA : Option Addr) (ec : Nat) (OA : Option Addr) (oc : Nat) (LA : Option Addr) (lc : Nat) (ms : List Nat)
    (cl : Client s l J wT 30 #[ ] 31 #[.pointer (some ⟨nb, 0, none⟩)] longF seeF) (ok : s.Ok) (okl : platesB l = true) (hB : Board wT g s A cap l PA pcap NA ncap AA acap EA ec OA oc LA lc ms) (hT : TzTab wT)
    (w : World) (st : σ) (Fp : Nat → Prop) (E : Ext wT w) (hj : J st Fp w) (hfp : ∀ r, Fp r → wT.heap.size ≤ r ∧ r < w.heap.size) :
    Calls Tryz.prog 29 #[.pointer (some ⟨g, 0, none⟩), .func (.func 30) #[] #[ ], .func (.func 31) #[] #[.pointer (some ⟨nb, 0, none⟩)]] w fun e w' =>
      (∃ v, e = .returned v) ∧ ∃ Fp', J (growS longF seeF s l (fullN s.cells + 1) st [] [] 0) Fp' w' ∧ (∀ r, Fp' r → Fp r ∨ w.heap.size ≤ r) ∧ (∀ r, Fp' r → r < w'.heap.size) ∧ Only Fp w w' := by
  have hl8 := plates_len okl
  obtain ⟨S, hS⟩ : ∃ S, w.heap.size = S := ⟨_, rfl⟩
  obtain ⟨W1, hW1, E1, B1, hz1⟩ := box_ w #[.pointer (some ⟨g, 0, none⟩)] 65
  obtain ⟨W2, hW2, E2, B2, hz2⟩ := box_ W1 #[.func (.func 30) #[] #[ ]] 92
  obtain ⟨W3, hW3, E3, B3, hz3⟩ := box_ W2 #[.func (.func 31) #[] #[.pointer (some ⟨nb, 0, none⟩)]] 93
  obtain ⟨W4, hW4, E4, B4, hz4⟩ := box_ W3 (intsA (List.replicate l.length 0)) 3
  obtain ⟨W5, hW5, E5, B5, hz5⟩ := box_ W4 #[.slice (some ⟨W3.heap.size, 0, none⟩) l.length l.length] 41
  rw [hS] at B1 hz1
  rw [hz1] at B2 hz2
  rw [hz2] at B3 hz3
  rw [hz3] at B4 hz4 B5 hW5
  rw [hz4] at B5 hz5
  have hmk := make_ints l.length (by omega)
  have E05 := (((E1.trans E2).trans E3).trans E4).trans E5
  have E15 := ((E2.trans E3).trans E4).trans E5
  have D1 := B1.ext E15
  have D2 := B2.ext ((E3.trans E4).trans E5)
  have D3 := B3.ext (E4.trans E5)
  have D4 := B4.ext E5
  have c4w := (hB.ext E).brd.c4
  have c43 := (hB.ext (E.trans ((E1.trans E2).trans E3))).brd.c4
  have c45 := (hB.ext (E.trans E05)).brd.c4
  have b3 := (B1.ext (E2.trans E3)).cell
  have b5 := D1.cell
  have lg := World.block_lt_of_cell? w _ c4w
  go_enter Tryz.func29, Tryz.ntmps29
  go_wp2_with fail
  have HE := Lib.hid E
  have Hj := Lib.hid hj
  have Hfp := Lib.hid hfp
  have HS := Lib.hid hS
  have hwS : wT.heap.size ≤ S := by rw [← hS]; exact E.size
  have E5 : Ext w W5 := E05
  have HET : Hid (Ext wT W5) := Lib.hid (E.trans E05)
  have hz55 : S + 1 + 1 + 1 + 1 + 1 ≤ W5.heap.size := Nat.le_of_eq hz5.symm
  rw [← leftI_zero] at D4
  clear hW1 hW2 hW3 hW4 hW5 hmk c4w c43 c45 b3 b5 hz1 hz2 hz3 hz4 hz5 hS B1 B2 B3 B4 E1 E2 E3 E4 E15 E05 E hj hfp
  go_loopw [21] (fun iv wr => ∃ i : Nat, i ≤ l.length ∧ iv = .int .i64 i ∧ Blk wr (S + 1 + 1 + 1) 3 (intsA (leftI l i)) ∧ Only (fun r => r = S + 1 + 1 + 1) W5 wr) (fun iv _ => l.length - (intOf iv).toNat)
  case atStart => exact ⟨0, by omega, rfl, D4, Only.refl _ _⟩
  case round =>
    clear D4
    obtain ⟨i, hi, rfl, D4, o⟩ := hrel
    have hext : Ext wT wr := Only.below HET.out o fun r hr => by rw [hr]; omega
    have hzr := o.size
    by_cases hlt : i < l.length
    · obtain ⟨pb, poff, p, rfl, hpl, hpb, p0, p1, p2, p3⟩ := (hB.ext hext).brd.plates.at_ hlt
      have Hset := Lib.hid (leftI_succ hpl)
      obtain ⟨W6, hW6, E6, B6, hz6⟩ := box_ wr #[.int .i64 p.W, .int .i64 p.D, .int .i64 p.N, .int .u8 p.color] 64
      have b6 := B6.cell
      have F6 := (B5.only o (by omega)).ext E6
      have f6 := F6.cell
      have d6 := (D4.ext E6).frozen i
      have c6 : W6.cell? ⟨S + 1 + 1 + 1, i, none⟩ = some (.int .i64 ((leftI l i).getD i 0)) := by
        rw [(D4.ext E6).cell, intsA_get, List.getD_eq_getElem?_getD, List.getElem?_eq_getElem (by rw [leftI_len]; exact hlt)]
        rfl
      clear hpl hz6
      go_wp2_with fail
      go_roundw
      case rel =>
        refine ⟨i + 1, by omega, by go_num, ?_, (o.ext E6).setCell (fun _ => rfl) _⟩
        have := (D4.ext E6).set_ i (.int .i64 p.N)
        rw [intsA_set, Hset.out] at this
        exact this
      case measure => simp only [intOf]; omega
    · obtain rfl : i = l.length := by omega
      rw [leftI_all] at D4
      obtain ⟨G, hG⟩ : ∃ G, wr.heap.size = G := ⟨_, rfl⟩
      obtain ⟨k, hk⟩ : ∃ k : Spots, k = ⟨S + 1, S, S + 1 + 1, S + 1 + 1 + 1, S + 1 + 1 + 1 + 1, G⟩ := ⟨_, rfl⟩
      obtain ⟨W8, hW8, E8, B8, hz8⟩ := box_ wr #[.func (.func 64) #[] #[.pointer (some ⟨S + 1, 0, none⟩), .pointer (some ⟨S, 0, none⟩), .pointer (some ⟨S + 1 + 1, 0, none⟩), .pointer (some ⟨S + 1 + 1 + 1 + 1, 0, none⟩), .pointer (some ⟨G, 0, none⟩)]] 143
      rw [hG] at B8
      have b8 := B8.cell
      have oW : Only Fp w W8 := ((Only.of_ext (fun _ => False) E5).trans o (K' := fun r => r = S + 1 + 1 + 1) (fun r hr e => by rw [HS.out] at hr; omega)).ext E8 |>.mono fun _ _ e => e.elim
      have hh : Here J wT S k g (.func (.func 30) #[] #[ ]) (.func (.func 31) #[] #[.pointer (some ⟨nb, 0, none⟩)]) (leftL l []) W8 [] [] (.slice none 0 0) (.slice none 0 0) st Fp := by
        have hspots : ∀ r, k.has r → S ≤ r := fun r hr => by
          rw [hk] at hr
          unfold Spots.has at hr
          simp only at hr
          omega
        have hE8 := E8.size
        refine ⟨hext.trans E8, ⟨hwS, by omega⟩, ?_, World.ownsRow_nil _ _ _ _, World.ownsRow_nil _ _ _ _, cl.keep _ _ _ _ Hj.out fun r hr => ?_, fun r hr => ?_, fun r hr => Nat.le_trans hwS (hspots r hr)⟩
        · rw [hk]
          refine ⟨(D2.only o (by omega)).ext E8, (D1.only o (by omega)).ext E8, (D3.only o (by omega)).ext E8, D4.ext E8, ?_, B8⟩
          rw [leftL_len]
          exact (B5.only o (by omega)).ext E8
        · have h1 := (Hfp.out r hr).2
          have h2 : (W8.heap)[r]? = wr.heap[r]? := E8.block r (by rw [HS.out] at h1; omega)
          have h3 : wr.heap[r]? = W5.heap[r]? := o.block r (by rw [HS.out] at h1; omega) (by rw [HS.out] at h1; omega)
          rw [h2, h3]
          exact E5.block r h1
        · obtain ⟨h1, h2⟩ := Hfp.out r hr
          rw [HS.out] at h2
          refine ⟨h1, by omega, fun e => ?_, (fun e => by cases e), (fun e => by cases e)⟩
          have := hspots r e
          omega
      have Hh := Lib.hid hh
      have HoW := Lib.hid oW
      have hcall := growCount_c S k nb mb g s A cap l _ pcap NA ncap AA acap EA ec OA oc LA lc ms cl ok okl hB hT (fullN s.cells + 1) [] [] 0 none 0 0 none 0 0 W8 st Fp rfl rfl (by omega) (Part.nil s l) hh
      rw [hk] at hcall
      have Hcall := Lib.hid hcall
      clear hh oW hcall
      go_wp2_with fail
      refine Hcall.out.mono ?_
      rintro e w9 ⟨⟨v9, rfl⟩, Fp9, h9, s9, o9⟩
      go_wp2_with fail
      go_end0
      refine ⟨⟨_, rfl⟩, Fp9, h9.j, fun r hr => ?_, fun r hr => (h9.fp r hr).2.1, HoW.out.trans o9 fun r hr e => ?_⟩
      · rcases s9 r hr with e | e
        · exact Or.inl e
        · exact Or.inr (Nat.le_trans HoW.out.size e)
      · rcases e with e | e | e | e
        · exact e
        · cases e
        · cases e
        · rw [HS.out] at hr
          simp only at e
          omega
set_option maxRecDepth 100000 in
set_option maxHeartbeats 8000000 in
theorem searchBest_c {σ : Type} {J : σ → (Nat → Prop) → World → Prop} {longF : σ → Nat → Bool} {seeF : σ → List Laid → List Nat → σ} {wT : World} (nb mb : Nat) (g : Nat) (s : Shape) (A : Option Addr) (cap : Nat) (l : List Plate) (PA : Option Addr) (pcap : Nat) (NA : Option Addr) (ncap : Nat) (AA : Option Addr) (acap : Nat) (EA : Option Addr) (ec : Nat) (OA : Option Addr) (oc : Nat) (LA : Option Addr) (lc : Nat) (ms : List Nat)
    (cl : Client s l J wT 32 #[.pointer (some ⟨mb, 0, none⟩)] 33 #[.pointer (some ⟨nb, 0, none⟩), .pointer (some ⟨mb, 0, none⟩)] longF seeF) (ok : s.Ok) (okl : platesB l = true) (hB : Board wT g s A cap l PA pcap NA ncap AA acap EA ec OA oc LA lc ms) (hT : TzTab wT)
    (w : World) (st : σ) (Fp : Nat → Prop) (E : Ext wT w) (hj : J st Fp w) (hfp : ∀ r, Fp r → wT.heap.size ≤ r ∧ r < w.heap.size) :
    Calls Tryz.prog 29 #[.pointer (some ⟨g, 0, none⟩), .func (.func 32) #[] #[.pointer (some ⟨mb, 0, none⟩)], .func (.func 33) #[] #[.pointer (some ⟨nb, 0, none⟩), .pointer (some ⟨mb, 0, none⟩)]] w fun e w' =>
      (∃ v, e = .returned v) ∧ ∃ Fp', J (growS longF seeF s l (fullN s.cells + 1) st [] [] 0) Fp' w' ∧ (∀ r, Fp' r → Fp r ∨ w.heap.size ≤ r) ∧ (∀ r, Fp' r → r < w'.heap.size) ∧ Only Fp w w' := by
  have hl8 := plates_len okl
  obtain ⟨S, hS⟩ : ∃ S, w.heap.size = S := ⟨_, rfl⟩
  obtain ⟨W1, hW1, E1, B1, hz1⟩ := box_ w #[.pointer (some ⟨g, 0, none⟩)] 65
  obtain ⟨W2, hW2, E2, B2, hz2⟩ := box_ W1 #[.func (.func 32) #[] #[.pointer (some ⟨mb, 0, none⟩)]] 92
  obtain ⟨W3, hW3, E3, B3, hz3⟩ := box_ W2 #[.func (.func 33) #[] #[.pointer (some ⟨nb, 0, none⟩), .pointer (some ⟨mb, 0, none⟩)]] 93
  obtain ⟨W4, hW4, E4, B4, hz4⟩ := box_ W3 (intsA (List.replicate l.length 0)) 3
  obtain ⟨W5, hW5, E5, B5, hz5⟩ := box_ W4 #[.slice (some ⟨W3.heap.size, 0, none⟩) l.length l.length] 41
  rw [hS] at B1 hz1
  rw [hz1] at B2 hz2
  rw [hz2] at B3 hz3
  rw [hz3] at B4 hz4 B5 hW5
  rw [hz4] at B5 hz5
  have hmk := make_ints l.length (by omega)
  have E05 := (((E1.trans E2).trans E3).trans E4).trans E5
  have E15 := ((E2.trans E3).trans E4).trans E5
  have D1 := B1.ext E15
  have D2 := B2.ext ((E3.trans E4).trans E5)
  have D3 := B3.ext (E4.trans E5)
  have D4 := B4.ext E5
  have c4w := (hB.ext E).brd.c4
  have c43 := (hB.ext (E.trans ((E1.trans E2).trans E3))).brd.c4
  have c45 := (hB.ext (E.trans E05)).brd.c4
  have b3 := (B1.ext (E2.trans E3)).cell
  have b5 := D1.cell
  have lg := World.block_lt_of_cell? w _ c4w
  go_enter Tryz.func29, Tryz.ntmps29
  go_wp2_with fail
  have HE := Lib.hid E
  have Hj := Lib.hid hj
  have Hfp := Lib.hid hfp
  have HS := Lib.hid hS
  have hwS : wT.heap.size ≤ S := by rw [← hS]; exact E.size
  have E5 : Ext w W5 := E05
  have HET : Hid (Ext wT W5) := Lib.hid (E.trans E05)
  have hz55 : S + 1 + 1 + 1 + 1 + 1 ≤ W5.heap.size := Nat.le_of_eq hz5.symm
  rw [← leftI_zero] at D4
  clear hW1 hW2 hW3 hW4 hW5 hmk c4w c43 c45 b3 b5 hz1 hz2 hz3 hz4 hz5 hS B1 B2 B3 B4 E1 E2 E3 E4 E15 E05 E hj hfp
  go_loopw [21] (fun iv wr => ∃ i : Nat, i ≤ l.length ∧ iv = .int .i64 i ∧ Blk wr (S + 1 + 1 + 1) 3 (intsA (leftI l i)) ∧ Only (fun r => r = S + 1 + 1 + 1) W5 wr) (fun iv _ => l.length - (intOf iv).toNat)
  case atStart => exact ⟨0, by omega, rfl, D4, Only.refl _ _⟩
  case round =>
    clear D4
    obtain ⟨i, hi, rfl, D4, o⟩ := hrel
    have hext : Ext wT wr := Only.below HET.out o fun r hr => by rw [hr]; omega
    have hzr := o.size
    by_cases hlt : i < l.length
    · obtain ⟨pb, poff, p, rfl, hpl, hpb, p0, p1, p2, p3⟩ := (hB.ext hext).brd.plates.at_ hlt
      have Hset := Lib.hid (leftI_succ hpl)
      obtain ⟨W6, hW6, E6, B6, hz6⟩ := box_ wr #[.int .i64 p.W, .int .i64 p.D, .int .i64 p.N, .int .u8 p.color] 64
      have b6 := B6.cell
      have F6 := (B5.only o (by omega)).ext E6
      have f6 := F6.cell
      have d6 := (D4.ext E6).frozen i
      have c6 : W6.cell? ⟨S + 1 + 1 + 1, i, none⟩ = some (.int .i64 ((leftI l i).getD i 0)) := by
        rw [(D4.ext E6).cell, intsA_get, List.getD_eq_getElem?_getD, List.getElem?_eq_getElem (by rw [leftI_len]; exact hlt)]
        rfl
      clear hpl hz6
      go_wp2_with fail
      go_roundw
      case rel =>
        refine ⟨i + 1, by omega, by go_num, ?_, (o.ext E6).setCell (fun _ => rfl) _⟩
        have := (D4.ext E6).set_ i (.int .i64 p.N)
        rw [intsA_set, Hset.out] at this
        exact this
      case measure => simp only [intOf]; omega
    · obtain rfl : i = l.length := by omega
      rw [leftI_all] at D4
      obtain ⟨G, hG⟩ : ∃ G, wr.heap.size = G := ⟨_, rfl⟩
      obtain ⟨k, hk⟩ : ∃ k : Spots, k = ⟨S + 1, S, S + 1 + 1, S + 1 + 1 + 1, S + 1 + 1 + 1 + 1, G⟩ := ⟨_, rfl⟩
      obtain ⟨W8, hW8, E8, B8, hz8⟩ := box_ wr #[.func (.func 64) #[] #[.pointer (some ⟨S + 1, 0, none⟩), .pointer (some ⟨S, 0, none⟩), .pointer (some ⟨S + 1 + 1, 0, none⟩), .pointer (some ⟨S + 1 + 1 + 1 + 1, 0, none⟩), .pointer (some ⟨G, 0, none⟩)]] 143
      rw [hG] at B8
      have b8 := B8.cell
      have oW : Only Fp w W8 := ((Only.of_ext (fun _ => False) E5).trans o (K' := fun r => r = S + 1 + 1 + 1) (fun r hr e => by rw [HS.out] at hr; omega)).ext E8 |>.mono fun _ _ e => e.elim
      have hh : Here J wT S k g (.func (.func 32) #[] #[.pointer (some ⟨mb, 0, none⟩)]) (.func (.func 33) #[] #[.pointer (some ⟨nb, 0, none⟩), .pointer (some ⟨mb, 0, none⟩)]) (leftL l []) W8 [] [] (.slice none 0 0) (.slice none 0 0) st Fp := by
        have hspots : ∀ r, k.has r → S ≤ r := fun r hr => by
          rw [hk] at hr
          unfold Spots.has at hr
          simp only at hr
          omega
        have hE8 := E8.size
        refine ⟨hext.trans E8, ⟨hwS, by omega⟩, ?_, World.ownsRow_nil _ _ _ _, World.ownsRow_nil _ _ _ _, cl.keep _ _ _ _ Hj.out fun r hr => ?_, fun r hr => ?_, fun r hr => Nat.le_trans hwS (hspots r hr)⟩
        · rw [hk]
          refine ⟨(D2.only o (by omega)).ext E8, (D1.only o (by omega)).ext E8, (D3.only o (by omega)).ext E8, D4.ext E8, ?_, B8⟩
          rw [leftL_len]
          exact (B5.only o (by omega)).ext E8
        · have h1 := (Hfp.out r hr).2
          have h2 : (W8.heap)[r]? = wr.heap[r]? := E8.block r (by rw [HS.out] at h1; omega)
          have h3 : wr.heap[r]? = W5.heap[r]? := o.block r (by rw [HS.out] at h1; omega) (by rw [HS.out] at h1; omega)
          rw [h2, h3]
          exact E5.block r h1
        · obtain ⟨h1, h2⟩ := Hfp.out r hr
          rw [HS.out] at h2
          refine ⟨h1, by omega, fun e => ?_, (fun e => by cases e), (fun e => by cases e)⟩
          have := hspots r e
          omega
      have Hh := Lib.hid hh
      have HoW := Lib.hid oW
      have hcall := growBest_c S k nb mb g s A cap l _ pcap NA ncap AA acap EA ec OA oc LA lc ms cl ok okl hB hT (fullN s.cells + 1) [] [] 0 none 0 0 none 0 0 W8 st Fp rfl rfl (by omega) (Part.nil s l) hh
      rw [hk] at hcall
      have Hcall := Lib.hid hcall
      clear hh oW hcall
      go_wp2_with fail
      refine Hcall.out.mono ?_
      rintro e w9 ⟨⟨v9, rfl⟩, Fp9, h9, s9, o9⟩
      go_wp2_with fail
      go_end0
      refine ⟨⟨_, rfl⟩, Fp9, h9.j, fun r hr => ?_, fun r hr => (h9.fp r hr).2.1, HoW.out.trans o9 fun r hr e => ?_⟩
      · rcases s9 r hr with e | e
        · exact Or.inl e
        · exact Or.inr (Nat.le_trans HoW.out.size e)
      · rcases e with e | e | e | e
        · exact e
        · cases e
        · cases e
        · rw [HS.out] at hr
          simp only at e
          omega
end Go.Proofs.YtaaeapjnjjbglaaGreatDoor

namespace Go.Proofs.YtaaeapjnjjbglaaGreatDoor
open Go.RowKit

/-- The error of a shape and plates. -/
def askErr (s : Shape) (l : List Plate) : Int := if s.valid = true then platesErr l else 70
def countI (s : Shape) (l : List Plate) : Int := if askErr s l = 0 then wrap64 ((allComps s l).length : Int) else 0
def CountJ (nb : Nat) (n : Int) (Fp : Nat → Prop) (w : World) : Prop := Blk w nb 3 #[.int .i64 n] ∧ (∀ r, Fp r ↔ r = nb) ∧ (-9223372036854775808 ≤ n ∧ n ≤ 9223372036854775807)
def countF (n : Int) (_ : List Laid) (_ : List Nat) : Int := wrap64 (n + 1)
theorem countF_len (xs : List (List Laid × List Nat)) : ∀ n : Int, xs.foldl (fun st p => countF st p.1 p.2) (wrap64 n) = wrap64 (n + xs.length) := by
  induction xs with
  | nil => intro n; simp
  | cons x xs ih =>
    intro n
    rw [List.foldl_cons]
    have e : countF (wrap64 n) x.1 x.2 = wrap64 (n + 1) := by
      unfold countF wrap64
      omega
    rw [e, ih, List.length_cons]
    congr 1
    push_cast
    omega
theorem countLong_c (n : Int) (w : World) : Calls Tryz.prog 30 #[.int .i64 n] w fun e w' => e = .returned (.bool false) ∧ w = w' := by
  go_enter Tryz.func30, Tryz.ntmps30
  go_wp2_with fail
  go_ret
  exact ⟨rfl, rfl⟩
set_option maxHeartbeats 1000000 in
theorem countSee_c (a b : Value) (nb : Nat) (n : Int) (w : World) (h : Blk w nb 3 #[.int .i64 n]) : Calls Tryz.prog 31 #[a, b, .pointer (some ⟨nb, 0, none⟩)] w fun e w' => (∃ v, e = .returned v) ∧ w' = w.setCell ⟨nb, 0, none⟩ (.int .i64 (wrap64 (n + 1))) := by
  have b0 := h.cell
  have f0 := h.frozen
  go_enter Tryz.func31, Tryz.ntmps31
  go_wp2_with fail
  go_end0
  exact ⟨⟨_, rfl⟩, rfl⟩
theorem count_client (s : Shape) (l : List Plate) (nb : Nat) (wT : World) : Client s l (CountJ nb) wT 30 #[] 31 #[.pointer (some ⟨nb, 0, none⟩)] (fun _ _ => false) countF := by
  refine ⟨fun st Fp w w' h hk => ⟨(hk nb ((h.2.1 nb).2 rfl)).trans h.1, h.2⟩, fun st Fp w n _ _ _ => ?_, fun st Fp w c out CA cc SA sc _ _ _ _ h hlt _ _ => ?_⟩
  · exact (countLong_c n w).mono fun e w' ⟨h1, h2⟩ => ⟨h1, by rw [h2]; exact Ext.refl _⟩
  · refine (countSee_c _ _ nb st w h.1).mono ?_
    rintro e w' ⟨h1, rfl⟩
    have hsz : (w.setCell ⟨nb, 0, none⟩ (.int .i64 (wrap64 (st + 1)))).heap.size = w.heap.size := by simp [World.setCell]
    refine ⟨h1, Fp, ⟨h.1.set_ 0 _, h.2.1, ?_⟩, fun r hr => Or.inl hr, fun r hr => by rw [hsz]; exact hlt r hr, (Only.refl Fp w).setCell (p := ⟨nb, 0, none⟩) (fun _ => (h.2.1 nb).2 rfl) _⟩
    unfold countF wrap64
    omega
set_option maxRecDepth 100000 in
set_option maxHeartbeats 4000000 in
theorem count_c (s : Shape) (A : Option Addr) (cap : Nat) (l : List Plate) (PA : Option Addr) (pcap : Nat) (w : World) (hs : Bytes w A cap s.cells) (hl : Plates w PA pcap l) (hT : TzTab w) :
    Calls Tryz.prog 12 #[.agg #[.int .i64 s.W, .int .i64 s.D, .int .i64 s.H, .slice A s.cells.length cap], .slice PA l.length pcap] w fun e w' =>
      e = .returned (.tuple #[.int .i64 (countI s l), .int .i64 (askErr s l)]) ∧ Ext w w' := by
  obtain ⟨W1, hW1, E1, B1, hz1⟩ := box_ w #[.int .i64 s.W, .int .i64 s.D, .int .i64 s.H, .slice A s.cells.length cap] 24
  have b1 := B1.cell
  obtain ⟨e0, he⟩ : ∃ e0, askErr s l = e0 := ⟨_, rfl⟩
  by_cases h0 : e0 = 0
  · subst h0
    have hv : s.valid = true ∧ platesB l = true := by
      unfold askErr platesErr at he
      split at he
      · split at he
        · exact ⟨by assumption, by assumption⟩
        · omega
      · omega
    have He := Lib.hid he
    have Hr : Hid (countI s l = wrap64 ((allComps s l).length : Int)) := Lib.hid (by unfold countI; rw [if_pos he])
    have Hv := Lib.hid hv
    have ok := Shape.ok_of hv.1
    clear he hv
    go_enter Tryz.func12, Tryz.ntmps12
    go_wp2_with fail
    refine (look_ok s l A cap PA pcap Hv.out.1 Hv.out.2 _ (hs.ext E1) (hl.ext E1)).mono ?_
    rintro e w2 ⟨g, NA, ncap, AA, acap, EA, ec, OA, oc, LA, lc, ms, rfl, hB, E2⟩
    go_wp2_with fail
    have B3 := Blk.new w2 #[.int .i64 0] 3
    have E3 : Ext w2 (w2.alloc (.cells #[.int .i64 0] 3)) := ext_alloc _ _
    have hz3 : (w2.alloc (.cells #[.int .i64 0] 3)).heap.size = w2.heap.size + 1 := by simp
    refine (searchCount_c w2.heap.size 0 g s A cap l PA pcap NA ncap AA acap EA ec OA oc LA lc ms (count_client s l w2.heap.size w2) ok Hv.out.2 hB (hT.ext (E1.trans E2)) _ 0 (fun r => r = w2.heap.size) E3 ⟨B3, fun r => Iff.rfl, by omega⟩ (fun r hr => by rw [hr, hz3]; omega)).mono ?_
    rintro e w4 ⟨⟨v4, rfl⟩, Fp4, hj4, f1, f2, o4⟩
    rw [growS_eq (fun st k c out h _ => by cases h)] at hj4
    have hv4 : (comps s l (fullN s.cells + 1) [] [] 0).foldl (fun st p => countF st p.1 p.2) (0 : Int) = wrap64 ((allComps s l).length : Int) := by
      have := countF_len (allComps s l) 0
      rw [show wrap64 0 = 0 by unfold wrap64; omega] at this
      rw [Int.zero_add] at this
      exact this
    rw [hv4] at hj4
    obtain ⟨vI, hvI⟩ : ∃ vI, wrap64 ((allComps s l).length : Int) = vI := ⟨_, rfl⟩
    rw [hvI] at hj4
    have HvI := Lib.hid hvI
    have E4 : Ext w w4 := (E1.trans E2).trans (Only.below E3 o4 (fun r hr => by rw [hr]; exact Nat.le_refl _))
    have b4 := hj4.1.cell
    clear hv4 hvI hj4
    go_wp2_with fail
    go_ret2
    exact ⟨by rw [Hr.out, He.out, HvI.out] <;> rfl, E4⟩
  · have Hr : Hid (countI s l = 0) := Lib.hid (by unfold countI; rw [he, if_neg h0])
    have e1 : (e0 != 0) = true := by simpa using h0
    have e2 : (e0 == 0) = false := by simpa using h0
    have He := Lib.hid he
    have H0 := Lib.hid h0
    clear he h0
    go_enter Tryz.func12, Tryz.ntmps12
    go_wp2_with fail
    refine (look_bad s l A cap PA pcap e0 He.out H0.out _ (hs.ext E1) (hl.ext E1)).mono ?_
    rintro e w2 ⟨rfl, E2⟩
    go_wp2_with fail
    go_ret2
    exact ⟨by rw [Hr.out, He.out] <;> rfl, E1.trans E2⟩
end Go.Proofs.YtaaeapjnjjbglaaGreatDoor

namespace Go.Proofs.YtaaeapjnjjbglaaGreatDoor
open Go.RowKit

theorem best_client (s : Shape) (l : List Plate) (nb mb g : Nat) (A : Option Addr) (cap : Nat) (PA : Option Addr) (pcap : Nat) (NA : Option Addr) (ncap : Nat) (AA : Option Addr) (acap : Nat) (EA : Option Addr) (ec : Nat) (OA : Option Addr) (oc : Nat) (LA : Option Addr) (lc : Nat) (ms : List Nat) (ok : s.Ok) (okl : platesB l = true) (wT : World)
    (hB : Board wT g s A cap l PA pcap NA ncap AA acap EA ec OA oc LA lc ms) (hT : TzTab wT) (hN : Blk wT nb 65 #[.pointer (some ⟨g, 0, none⟩)]) :
    Client s l (BestJ mb) wT 32 #[.pointer (some ⟨mb, 0, none⟩)] 33 #[.pointer (some ⟨nb, 0, none⟩), .pointer (some ⟨mb, 0, none⟩)] longB (seeB s l) := by
  refine ⟨fun st Fp w w' h hk => h.keep hk, fun st Fp w n hn _ h => bestLong_c mb st Fp n hn w h, fun st Fp w c out CA cc SA sc hc hlen hr E h hlt hC hS => ?_⟩
  have hset := setRun_is hr
  have hpos := comp_pos ok (hset.comp ok rfl)
  exact bestSee_c nb mb g s A cap l PA pcap NA ncap AA acap EA ec OA oc LA lc ms st Fp c out CA cc SA sc ok (apart_of ok okl hpos hset rfl) hc w (hB.ext E) (hT.ext E) (hN.ext E) h hlt hC hS

theorem laids_nil (w : World) : Laids w none 0 [] := ⟨rfl, Nat.le_refl _, Nat.zero_le _, fun r hr => absurd hr (by simp), fun h => absurd h (by simp)⟩
/-- What Compose answers. -/
noncomputable def composeE (s : Shape) (l : List Plate) : Int := if askErr s l = 0 then (match bestB s l with | none => 6 | some _ => 0) else askErr s l
noncomputable def composeL (s : Shape) (l : List Plate) : List Laid := if askErr s l = 0 then (match bestB s l with | none => [] | some b => b.1) else []

set_option maxRecDepth 100000 in
set_option maxHeartbeats 4000000 in
theorem compose_c (s : Shape) (A : Option Addr) (cap : Nat) (l : List Plate) (PA : Option Addr) (pcap : Nat) (w : World) (hs : Bytes w A cap s.cells) (hl : Plates w PA pcap l) (hT : TzTab w) :
    Calls Tryz.prog 15 #[.agg #[.int .i64 s.W, .int .i64 s.D, .int .i64 s.H, .slice A s.cells.length cap], .slice PA l.length pcap] w fun e w' =>
      ∃ CA cc, e = .returned (.tuple #[.slice CA (composeL s l).length cc, .int .i64 (composeE s l)]) ∧ Laids w' CA cc (composeL s l) ∧ (composeL s l).length ≤ 100 ∧ Ext w w' := by
  obtain ⟨W1, hW1, E1, B1, hz1⟩ := box_ w #[.int .i64 s.W, .int .i64 s.D, .int .i64 s.H, .slice A s.cells.length cap] 24
  have b1 := B1.cell
  obtain ⟨e0, he⟩ : ∃ e0, askErr s l = e0 := ⟨_, rfl⟩
  by_cases h0 : e0 = 0
  · subst h0
    have hv : s.valid = true ∧ platesB l = true := by
      unfold askErr platesErr at he
      split at he
      · split at he
        · exact ⟨by assumption, by assumption⟩
        · omega
      · omega
    have He := Lib.hid he
    have Hv := Lib.hid hv
    have ok := Shape.ok_of hv.1
    clear he hv
    go_enter Tryz.func15, Tryz.ntmps15
    go_wp2_with fail
    refine (look_ok s l A cap PA pcap Hv.out.1 Hv.out.2 _ (hs.ext E1) (hl.ext E1)).mono ?_
    rintro e w2 ⟨g, NA, ncap, AA, acap, EA, ec, OA, oc, LA, lc, ms, rfl, hB, E2⟩
    have B3 := Blk.new w2 #[.pointer (some ⟨g, 0, none⟩)] 65
    have E3 := ext_alloc w2 (.cells #[.pointer (some ⟨g, 0, none⟩)] 65)
    obtain ⟨nb, hnb⟩ : ∃ nb, w2.heap.size = nb := ⟨_, rfl⟩
    have Hnb := Lib.hid hnb
    go_wp2_with fail
    have hE4 := ext_alloc (w2.alloc (.cells #[.pointer (some ⟨g, 0, none⟩)] 65)) (.cells #[.pointer none] 94)
    have B4 := Blk.new (w2.alloc (.cells #[.pointer (some ⟨g, 0, none⟩)] 65)) #[.pointer none] 94
    have hz3 : (w2.alloc (.cells #[.pointer (some ⟨g, 0, none⟩)] 65)).heap.size = nb + 1 := by rw [World.size_alloc, Hnb.out]
    have hz4 : ((w2.alloc (.cells #[.pointer (some ⟨g, 0, none⟩)] 65)).alloc (.cells #[.pointer none] 94)).heap.size = nb + 2 := by rw [World.size_alloc, hz3]
    rw [hz3] at B4
    rw [Hnb.out] at B3
    have cl := best_client s l nb (nb + 1) g A cap PA pcap NA ncap AA acap EA ec OA oc LA lc ms ok Hv.out.2 _ (hB.ext E3) (hT.ext ((E1.trans E2).trans E3)) B3
    refine (searchBest_c nb (nb + 1) g s A cap l PA pcap NA ncap AA acap EA ec OA oc LA lc ms cl ok Hv.out.2 (hB.ext E3) (hT.ext ((E1.trans E2).trans E3)) _ none (fun r => r = nb + 1) hE4 ⟨B4, fun r => Iff.rfl⟩ (fun r hr => by rw [hr, hz3, hz4]; omega)).mono ?_
    rintro e w5 ⟨⟨v5, rfl⟩, Fp5, hj5, f1, f2, o5⟩
    rw [growS_eq (fun st k c out h hk => longB_see st k c out h hk)] at hj5
    have E5 : Ext w w5 := ((E1.trans E2).trans E3).trans (Only.below hE4 o5 (fun r hr => by rw [hr, hz3]; exact Nat.le_refl _))
    obtain ⟨bb, hbb⟩ : ∃ bb, bestB s l = bb := ⟨_, rfl⟩
    have hj5' : BestJ (nb + 1) bb Fp5 w5 := by rw [← hbb]; exact hj5
    have HE5 := Lib.hid E5
    clear hj5 cl
    cases bb with
    | none =>
      have Hr : Hid (composeE s l = 6 ∧ composeL s l = []) := Lib.hid ⟨by unfold composeE; rw [He.out, hbb, if_pos rfl], by unfold composeL; rw [He.out, hbb, if_pos rfl]⟩
      have b5 := hj5'.1.cell
      clear hj5' hbb B3 B4 hz3 hz4
      go_wp2_with fail
      go_ret2
      refine ⟨none, 0, by rw [Hr.out.1, Hr.out.2] <;> rfl, ?_, by rw [Hr.out.2]; simp, HE5.out⟩
      rw [Hr.out.2]
      exact laids_nil _
    | some b =>
      have Hr : Hid (composeE s l = 0 ∧ composeL s l = b.1) := Lib.hid ⟨by unfold composeE; rw [He.out, hbb, if_pos rfl], by unfold composeL; rw [He.out, hbb, if_pos rfl]⟩
      obtain ⟨M, D, bcap, h1, h2, h3, h4, h5, h6, h7⟩ := hj5'
      have b5 := h1.cell
      have m5 := h2.cell
      obtain ⟨k, hk⟩ : ∃ k, b.1.length = k := ⟨_, rfl⟩
      have Hk := Lib.hid hk
      rw [hk] at m5
      have h3' := Lib.hid h3
      clear h1 h2 h3 hbb B3 B4 hz3 hz4 hk
      go_wp2_with fail
      go_ret2
      refine ⟨some ⟨D, 0, none⟩, bcap, by rw [Hr.out.1, Hr.out.2, Hk.out] <;> rfl, ?_, by rw [Hr.out.2]; exact h6, HE5.out⟩
      rw [Hr.out.2]
      rw [Hk.out] at h3'
      have h := own_any (rows := b.1.map Laid.cells) (by decide) ?_ (by rw [List.length_map, Hk.out]) h3'.out
      · rw [← Hk.out] at h
        exact h
      · intro r hr
        obtain ⟨x, _, rfl⟩ := List.mem_map.1 hr
        rfl
  · have Hr : Hid (composeE s l = e0 ∧ composeL s l = []) := Lib.hid ⟨by unfold composeE; rw [he, if_neg h0], by unfold composeL; rw [he, if_neg h0]⟩
    have e1 : (e0 != 0) = true := by simpa using h0
    have e2 : (e0 == 0) = false := by simpa using h0
    have He := Lib.hid he
    have H0 := Lib.hid h0
    clear he h0
    go_enter Tryz.func15, Tryz.ntmps15
    go_wp2_with fail
    refine (look_bad s l A cap PA pcap e0 He.out H0.out _ (hs.ext E1) (hl.ext E1)).mono ?_
    rintro e w2 ⟨rfl, E2⟩
    go_wp2_with fail
    go_ret2
    refine ⟨none, 0, by rw [Hr.out.1, Hr.out.2] <;> rfl, ?_, by rw [Hr.out.2]; simp, (E1.trans E2).trans (ext_alloc _ _)⟩
    rw [Hr.out.2]
    exact laids_nil _
end Go.Proofs.YtaaeapjnjjbglaaGreatDoor
