/- up: the cells above those of a set. hangs of the program. Small facts for the walk of the search. The search: what it makes of the caller's word. -/
import Derived.Test.YtaaeapjnjjbglaaDoorCm8
import Derived.BigRegionIn
import Derived.Deep.Cut
import Derived.Deep.DeepCutAuto
import Derived.Deep.CutRange

namespace Go.Proofs.YtaaeapjnjjbglaaDoor
open Go.RowKit Go.Shelf
attribute [local go_sem] Oper.semAt_some

theorem upL_snoc (ab : List Int) (pre : List Nat) (x : Nat) : upL ab (pre ++ [x]) = upStep ab (upL ab pre) x := by simp [upL]

set_option maxRecDepth 100000 in
set_option maxHeartbeats 4000000 in
theorem up_c (g : Nat) (s : Shape) (A : Option Addr) (cap : Nat) (l : List Plate) (PA : Option Addr) (pcap : Nat) (NA : Option Addr) (ncap : Nat) (AA : Option Addr) (acap : Nat) (EA : Option Addr) (ec : Nat) (OA : Option Addr) (oc : Nat) (LA : Option Addr) (lc : Nat) (ms : List Nat)
    (ok : s.Ok) (m : Nat) (hm32 : m < 4294967296) (hm : ∀ b, m.testBit b = true → b < fullN s.cells) (w : World) (hB : Board w g s A cap l PA pcap NA ncap AA acap EA ec OA oc LA lc ms) (hT : TzTab w) :
    Calls Tryd.prog 68 #[.pointer (some ⟨g, 0, none⟩), .int .u32 (m : Int)] w fun e w' => e = .returned (.int .u32 (upN (abv s) m : Nat)) ∧ Ext w w' := by
  refine (callsIn_wide (n := 5)).1 ?_
  refine callsIn_of_wp_marks Tryd.func68 rfl trivial ?_ rfl
  simp only [Tryd.ntmps68, List.size_toArray, List.length_cons, List.length_nil, Nat.reduceAdd, Nat.reduceSub, Array.replicate_succ, Array.replicate_zero, List.push_toArray, List.append_toArray, List.nil_append, List.cons_append]
  obtain ⟨W1, hW1, E1, B1, hz1⟩ := box_ w #[.pointer (some ⟨g, 0, none⟩)] 78
  obtain ⟨W2, hW2, E2, B2, hz2⟩ := box_ W1 #[.int .u32 0] 130
  rw [hz1] at B2 hz2
  have B1 := B1.ext E2
  have E02 := E1.trans E2
  gi_wp2_with fail
  refine ⟨trivial, ?_⟩
  gi_at_call 100
  refine (callsIn_wide.2 (cells_c m _)).mono ?_
  rintro e W3 ⟨rfl, E3, B3, hz3⟩
  rw [hz2] at B3 hz3
  gi_wp2_with fail
  have C1 := B1.ext E3
  have C2 := B2.ext E3
  have E03 := E02.trans E3
  clear B1 B2 hW1 hW2
  have hsz := hz3
  refine wpIn_rangeFunc_box (by omega) (gf := 127) (lb := #[.pointer (some ⟨w.heap.size + 1 + 1, 0, none⟩)]) rfl (enters_of Tryd.func127 (by kernel_rfl) rfl)
    (cells1_c m hm32 _ (w.heap.size + 1 + 1) (by omega)) B3 (fun _ => rfl)
    (fun pre X => ((Blk X w.heap.size 78 #[.pointer (some ⟨g, 0, none⟩)] ∧ Blk X (w.heap.size + 1) 130 #[.int .u32 (upL (abv s) pre : Nat)]) ∧ Ext w X) ∧ upL (abv s) pre < 65536)
    ⟨fun pre X Y h E => ⟨⟨⟨h.1.1.1.ext E, h.1.1.2.ext E⟩, h.1.2.trans E⟩, h.2⟩, fun pre X v h => ⟨⟨⟨h.1.1.1.far (by show w.heap.size ≠ w.heap.size + 1 + 1; omega) v, h.1.1.2.far (by show w.heap.size + 1 ≠ w.heap.size + 1 + 1; omega) v⟩, h.1.2.setCell (by show w.heap.size ≤ w.heap.size + 1 + 1; omega) v⟩, h.2⟩,
      fun pre X h => hT.ext h.1.2⟩
    (fun pre X l' o o' h hl ho hc => ⟨⟨⟨h.1.1.1.grown (grownBy_putObj' X l' o') (fun e => by cases e; rw [show X.heap[w.heap.size]? = _ from h.1.1.1] at ho; cases ho; cases hc),
      h.1.1.2.grown (grownBy_putObj' X l' o') (fun e => by cases e; rw [show X.heap[w.heap.size + 1]? = _ from h.1.1.2] at ho; cases ho; cases hc)⟩, Ext.grown h.1.2 (grownBy_putObj' X l' o') (fun k e => by cases e; omega)⟩, h.2⟩)
    ⟨⟨⟨C1, C2⟩, E03⟩, by show 0 < 65536; omega⟩
    (fun x => { tmps := #[.pointer (some ⟨g, 0, none⟩), .int .u32 (m : Int), .pointer (some ⟨w.heap.size, 0, none⟩), undef, .int .u32 0, .pointer (some ⟨w.heap.size + 1, 0, none⟩), .int .i64 (x : Int), .int .u32 (m : Int),
          .func (.func 127) #[] #[.pointer (some ⟨w.heap.size + 1 + 1, 0, none⟩)], .int .i64 (x : Int), undef, undef, undef, undef, undef, undef, undef, undef, undef, undef, undef, undef, undef, undef, undef, undef, undef, undef, undef], defers := [] })
    ?assign ?body ?done
  case assign =>
    rintro l' x X K hK
    dsimp only [encBit]
    gi_wp2
    exact hK
  case body =>
    rintro l' pre x X v hl ⟨⟨⟨D1, D2⟩, hE⟩, hlt⟩ hb hpre
    have hxm : x ∈ bitsOf m := hpre.subset (by simp)
    have hx : x < fullN s.cells := hm x (by unfold bitsOf at hxm; exact (List.mem_filter.1 hxm).2)
    have hxl : x < (abv s).length := by rw [abv_len]; exact hx
    obtain ⟨a, ha⟩ : ∃ a, (abv s)[x]? = some a := ⟨_, List.getElem?_eq_getElem hxl⟩
    have ha2 : (abv s).getD x (-1) = a := by rw [List.getD_eq_getElem?_getD, ha]; rfl
    have hBX := hB.ext hE
    obtain ⟨ab, aoff, rfl, hab, hac⟩ := hBX.above.at_ ha
    have c6 := hBX.c6
    have d1 := D1.cell
    have d2 := D2.cell
    have f2 := D2.frozen
    have hF := ok.full
    have hstep := upL_snoc (abv s) pre x
    have hsx := hE.size
    unfold upStep at hstep
    rw [ha2] at hstep
    have hahi : a < 16 := by
      rcases abv_lo ha with h | h
      · omega
      · exact absurd ok h
    by_cases h0 : 0 ≤ a
    · rw [if_pos h0] at hstep
      obtain ⟨k, rfl⟩ := Int.eq_ofNat_of_zero_le h0
      have Hstep := Lib.hid hstep
      have hor := or_lt hlt (show k < 16 by omega)
      have hval : bits .or .u32 ((upL (abv s) pre : Nat) : Int) (IntKind.u32.wrap (2 ^ k)) = ((upL (abv s) (pre ++ [x]) : Nat) : Int) := by
        rw [Hstep.out]
        exact or_bit hlt (by omega)
      have Hval := Lib.hid hval
      clear hval
      have fin : ∀ u, u = Value.int .u32 ((upL (abv s) (pre ++ [x]) : Nat) : Int) → KeepsFrom W3.heap.size X ((X.setCell ⟨w.heap.size + 1, 0, none⟩ u).drew) ∧
          (((Blk (X.setCell ⟨w.heap.size + 1, 0, none⟩ u).drew w.heap.size 78 #[.pointer (some ⟨g, 0, none⟩)] ∧ Blk (X.setCell ⟨w.heap.size + 1, 0, none⟩ u).drew (w.heap.size + 1) 130 #[.int .u32 (upL (abv s) (pre ++ [x]) : Nat)]) ∧ Ext w (X.setCell ⟨w.heap.size + 1, 0, none⟩ u).drew) ∧ upL (abv s) (pre ++ [x]) < 65536) ∧
          Blk (X.setCell ⟨w.heap.size + 1, 0, none⟩ u).drew (w.heap.size + 1 + 1) 130 #[v] := by
        rintro u rfl
        have hk := (KeepsOthers.setCell X ⟨w.heap.size + 1, 0, none⟩ (.int .u32 ((upL (abv s) (pre ++ [x]) : Nat) : Int))).from W3.heap.size
        refine ⟨⟨hk.size, hk.same⟩, ⟨⟨⟨D1.far (by show w.heap.size ≠ w.heap.size + 1; omega) _, D2.set_ 0 _⟩, (hE.setCell (by show w.heap.size ≤ w.heap.size + 1; omega) _).drew⟩, by rw [Hstep.out]; exact hor⟩, hb.far (by show w.heap.size + 1 + 1 ≠ w.heap.size + 1; omega) _⟩
      have Fin := Lib.hid fin
      clear hstep ha ha2 hpre hxm hm hb fin hor
      gi_wp2_with fail
      gi_region
      all_goals exact Fin.out _ (by rw [Hval.out])
    · rw [if_neg h0] at hstep
      have h0' : decide (0 ≤ a) = false := by simpa using h0
      have Hstep := Lib.hid hstep
      have Hb := Lib.hid hb
      clear hstep ha ha2 hpre hxm hm hb
      gi_wp2
      exact ⟨KeepsFrom.refl _ _, ⟨⟨⟨D1, by rw [Hstep.out]; exact D2⟩, hE⟩, by rw [Hstep.out]; exact hlt⟩, Hb.out⟩
  case done =>
    rintro D X hD ⟨⟨⟨D1, D2⟩, hE⟩, hlt⟩ hK
    have d2 := D2.cell
    gi_wp2
    refine ⟨by simp, .inl ⟨_, _, rfl, run_takeDeferred hK, ?_⟩⟩
    exact ⟨_, results_tmp rfl _ _ _, rfl, Below.trans hE (belowK_b (w := w) (Nat.le_refl _) X D _ _ (by omega) hK rfl rfl)⟩
end Go.Proofs.YtaaeapjnjjbglaaDoor

namespace Go.Proofs.YtaaeapjnjjbglaaDoor
open Go.RowKit

theorem sets_at {w : World} {SA : Option Addr} {sc : Nat} {out : List Nat} (h : SliceIs w SA out.length sc 1 (out.map fun m => [uv m])) {k : Nat} (hk : k < out.length) :
    ∃ b off, SA = some ⟨b, off, none⟩ ∧ b < w.heap.size ∧ w.cell? ⟨b, off + k, none⟩ = some (.int .u32 (outAt out k : Nat)) := by
  obtain ⟨b, off, hA, hb, hc⟩ := SliceIs.cells h (by omega)
  have hr : (out.map fun m => [uv m])[k]? = some [uv (outAt out k)] := by
    rw [List.getElem?_map, List.getElem?_eq_getElem hk]
    unfold outAt
    rw [List.getD_eq_getElem?_getD, List.getElem?_eq_getElem hk]
    rfl
  have := hc k _ hr 0 _ rfl
  simp only [Nat.mul_one, Nat.add_zero] at this
  exact ⟨b, off, hA, hb, this⟩
theorem upN_small {s : Shape} (ok : s.Ok) {m : Nat} (hm : m < 4294967296) : upN (abv s) m < 65536 := by
  have : upN (abv s) m < 2 ^ 16 := by
    apply Nat.lt_pow_two_of_testBit
    intro i hi
    cases hb : (upN (abv s) m).testBit i
    · rfl
    · rw [upN_bits (by omega)] at hb
      obtain ⟨n, hn, e⟩ := hb
      have hg : (abv s)[n]? = some (i : Int) := by
        rw [List.getD_eq_getElem?_getD] at e
        cases h : (abv s)[n]? with
        | none => rw [h] at e; simp at e
        | some a => rw [h] at e; simp at e; rw [e]
      rcases abv_lo hg with h | h
      · have := ok.full
        omega
      · exact absurd ok h
  omega
theorem band_eq {a b r : Nat} (h : a &&& b = r) (ha : a < 65536) (hb : b < 65536) : bits .and .u32 (a : Int) (b : Int) = (r : Int) := by rw [bits_and ha hb, h]

set_option maxRecDepth 100000 in
set_option maxHeartbeats 8000000 in
theorem hangs_c (g : Nat) (s : Shape) (A : Option Addr) (cap : Nat) (l : List Plate) (PA : Option Addr) (pcap : Nat) (NA : Option Addr) (ncap : Nat) (AA : Option Addr) (acap : Nat) (EA : Option Addr) (ec : Nat) (OA : Option Addr) (oc : Nat) (LA : Option Addr) (lc : Nat) (ms : List Nat)
    (c : List Laid) (out : List Nat) (SA : Option Addr) (sc : Nat) (ha : Apart s l c out) (hclen : c.length ≤ 1000) (w : World) (hB : Board w g s A cap l PA pcap NA ncap AA acap EA ec OA oc LA lc ms) (hS : SliceIs w SA out.length sc 1 (out.map fun m => [uv m])) (hT : TzTab w) :
    Calls Tryd.prog 35 #[.pointer (some ⟨g, 0, none⟩), .slice SA out.length sc] w fun e w' => e = .returned (.bool (hangB s l c)) ∧ Ext w w' := by
  have ok := ha.ok
  have hol := ha.len
  have hpos : 0 < out.length := by rw [hol]; exact ha.pos
  have hol1 : out.length ≤ 1000 := by omega
  obtain ⟨sb, soff, hSA, hsb, s0⟩ := sets_at hS hpos
  subst hSA
  have Hol := Lib.hid hol
  rw [Nat.add_zero] at s0
  clear hol
  have HA := Lib.hid ha
  clear ha
  go_enter Tryd.func35, Tryd.ntmps35
  go_wp2_with fail
  go_loopw [5, 6] (fun iv ch wr => ∃ (m : Nat) (b : Bool), iv = .int .u32 (m : Int) ∧ ch = .bool b ∧ Hid (InU s l c out m ∧ (b = false → ∀ k, k < c.length → condU (abv s) (outAt out k) m = false)) ∧ m < 65536 ∧ Ext w wr) (fun iv ch _ => 2 * (65536 - (intOf iv).toNat) + flag ch)
  case atStart => exact ⟨outAt out 0, true, rfl, rfl, Lib.hid ⟨InU.start HA.out, fun h => by cases h⟩, HA.out.small (by rw [← Hol.out]; exact hpos), Ext.refl _⟩
  case round =>
    clear s0
    obtain ⟨m, b, rfl, rfl, HI, hm, E⟩ := hrel
    cases b
    · have Hr := Lib.hid (InU.done HA.out HI.out.1 (HI.out.2 rfl))
      have c6 := (hB.ext E).c6
      by_cases he : pop m = fullN s.cells
      · have He := Lib.hid he
        have e1 : ((pop m : Int) == (fullN s.cells : Int)) = true := by simp [he]
        clear he
        go_wp2_with fail
        refine wp_region_grow (by kernel_rfl) (by kernel_rfl) ?_
        repeat (go_big_quiet_step (((go_at_call 69; exact quiet_ext (ones_c m (by omega) _)))))
        refine wpQuiet_nil ?_
        intro W7 hW7
        have E7 : Ext wr W7 := by
          obtain ⟨x, rfl⟩ := hW7
          exact (Ext.refl _).grow x
        clear hW7
        obtain ⟨hcW7, hfW7, hzW7⟩ := ext_facts E7
        go_wp2_with fail
        go_ret
        exact ⟨by rw [Hr.out, decide_eq_true He.out] <;> rfl, E.trans E7⟩
      · have He := Lib.hid he
        have e1 : ((pop m : Int) == (fullN s.cells : Int)) = false := by simp; omega
        clear he
        go_wp2_with fail
        refine wp_region_grow (by kernel_rfl) (by kernel_rfl) ?_
        repeat (go_big_quiet_step (((go_at_call 69; exact quiet_ext (ones_c m (by omega) _)))))
        refine wpQuiet_nil ?_
        intro W7 hW7
        have E7 : Ext wr W7 := by
          obtain ⟨x, rfl⟩ := hW7
          exact (Ext.refl _).grow x
        clear hW7
        obtain ⟨hcW7, hfW7, hzW7⟩ := ext_facts E7
        go_wp2_with fail
        go_ret
        exact ⟨by rw [Hr.out, decide_eq_false He.out] <;> rfl, E.trans E7⟩
    · obtain ⟨wo, rfl⟩ : ∃ wo : World, wo = wr := ⟨_, rfl⟩
      go_wp2_with fail
      go_loopw [5, 6, 15] (fun iv ch kv wr => ∃ (m' k : Nat) (b : Bool), k ≤ out.length ∧ iv = .int .u32 (m' : Int) ∧ ch = .bool b ∧ kv = .int .i64 k ∧ Hid (PassU s l c out m m' b k) ∧ m' < 65536 ∧ Ext w wr) (fun _ _ kv _ => out.length - (intOf kv).toNat)
      case atStart => exact ⟨m, 0, false, by omega, rfl, rfl, rfl, Lib.hid (PassU.start HI.out.1), hm, E⟩
      case round =>
        clear E
        obtain ⟨m', k, b, hk, rfl, rfl, rfl, HP, hm', E⟩ := hrel
        by_cases hlt : k < out.length
        · obtain ⟨sb', soff', hA', hsb', sk⟩ := sets_at (hS.ext E) hlt
          cases hA'
          have hkc : k < c.length := by rw [← Hol.out]; exact hlt
          have hks := HA.out.small hkc
          obtain ⟨x, hx⟩ : ∃ x, outAt out k = x := ⟨_, rfl⟩
          rw [hx] at sk hks
          have Hx := Lib.hid hx
          have hxF : ∀ b, x.testBit b = true → b < fullN s.cells := fun b hb => HA.out.lt k b hkc (by rw [Hx.out]; exact hb)
          have HxF := Lib.hid hxF
          have HmF : Hid (∀ b, m'.testBit b = true → b < fullN s.cells) := Lib.hid (fun b hb => InU.lt HA.out HP.out.inu hb)
          clear hx hxF
          obtain ⟨r0, hr0⟩ : ∃ r0, x &&& m' = r0 := ⟨_, rfl⟩
          have hb0 := band_eq hr0 hks hm'
          by_cases h0 : r0 = 0
          · have H0 : Hid (x &&& m' = 0) := Lib.hid (by rw [hr0, h0])
            have e0 : ((r0 : Int) == 0) = true := by simp [h0]
            clear hr0 h0
            have hum := upN_small ok (m := m') (by omega)
            have hux := upN_small ok (m := x) (by omega)
            obtain ⟨r1, hr1⟩ : ∃ r1, x &&& upN (abv s) m' = r1 := ⟨_, rfl⟩
            have hb1 := band_eq hr1 hks hum
            obtain ⟨r2, hr2⟩ : ∃ r2, upN (abv s) x &&& m' = r2 := ⟨_, rfl⟩
            have hb2 := band_eq hr2 hux hm'
            by_cases h1 : r1 = 0
            · have H1 : Hid (x &&& upN (abv s) m' = 0) := Lib.hid (by rw [hr1, h1])
              have e1 : ((r1 : Int) != 0) = false := by simp [h1]
              clear hr1 h1
              by_cases h2 : r2 = 0
              · have Hno : Hid (condU (abv s) (outAt out k) m' = false) := Lib.hid (by
                  rw [Hx.out]
                  unfold condU
                  simp [H1.out, hr2, h2])
                have e2 : ((r2 : Int) != 0) = false := by simp [h2]
                clear hr2 h2
                go_wp2_with fail
                refine (up_c g s A cap l PA pcap NA ncap AA acap EA ec OA oc LA lc ms ok m' (by omega) HmF.out _ (hB.ext E) (hT.ext E)).mono ?_
                rintro e w2 ⟨rfl, E2⟩
                obtain ⟨hcw2, hfw2, hzw2⟩ := ext_facts E2
                go_wp2_with fail
                refine (up_c g s A cap l PA pcap NA ncap AA acap EA ec OA oc LA lc ms ok x (by omega) HxF.out _ (hB.ext (E.trans E2)) (hT.ext (E.trans E2))).mono ?_
                rintro e w3 ⟨rfl, E3⟩
                obtain ⟨hcw3, hfw3, hzw3⟩ := ext_facts E3
                go_wp2_with fail
                go_roundw
                case rel => exact ⟨m', k + 1, b, by omega, rfl, rfl, by go_num, Lib.hid (HP.out.same Hno.out), hm', (E.trans E2).trans E3⟩
                case measure => simp only [intOf]; omega
              · have Hyes : Hid (condU (abv s) x m' = true) := Lib.hid (condU_iff.2 ⟨H0.out, Or.inr (by rw [hr2]; exact h2)⟩)
                have e2 : ((r2 : Int) != 0) = true := by simp; omega
                clear hr2 h2
                go_wp2_with fail
                refine (up_c g s A cap l PA pcap NA ncap AA acap EA ec OA oc LA lc ms ok m' (by omega) HmF.out _ (hB.ext E) (hT.ext E)).mono ?_
                rintro e w2 ⟨rfl, E2⟩
                obtain ⟨hcw2, hfw2, hzw2⟩ := ext_facts E2
                go_wp2_with fail
                refine (up_c g s A cap l PA pcap NA ncap AA acap EA ec OA oc LA lc ms ok x (by omega) HxF.out _ (hB.ext (E.trans E2)) (hT.ext (E.trans E2))).mono ?_
                rintro e w3 ⟨rfl, E3⟩
                obtain ⟨hcw3, hfw3, hzw3⟩ := ext_facts E3
                have hor : bits .or .u32 (m' : Int) (x : Int) = ((m' ||| x : Nat) : Int) := bits_or hm' hks
                have hsm : m' ||| x < 65536 := by
                  have := Nat.or_lt_two_pow (x := m') (y := x) (n := 16) (by omega) (by omega)
                  omega
                go_wp2_with fail
                go_roundw
                case rel => exact ⟨m' ||| x, k + 1, true, by omega, rfl, rfl, by go_num, Lib.hid (by have := HP.out.more HA.out hkc (by rw [Hx.out]; exact Hyes.out); rw [Hx.out] at this; exact this), hsm, (E.trans E2).trans E3⟩
                case measure => simp only [intOf]; omega
            · have Hyes : Hid (condU (abv s) x m' = true) := Lib.hid (condU_iff.2 ⟨H0.out, Or.inl (by rw [hr1]; exact h1)⟩)
              have e1 : ((r1 : Int) != 0) = true := by simp; omega
              clear hr1 hr2 h1
              go_wp2_with fail
              refine (up_c g s A cap l PA pcap NA ncap AA acap EA ec OA oc LA lc ms ok m' (by omega) HmF.out _ (hB.ext E) (hT.ext E)).mono ?_
              rintro e w2 ⟨rfl, E2⟩
              obtain ⟨hcw2, hfw2, hzw2⟩ := ext_facts E2
              have hor : bits .or .u32 (m' : Int) (x : Int) = ((m' ||| x : Nat) : Int) := bits_or hm' hks
              have hsm : m' ||| x < 65536 := by
                have := Nat.or_lt_two_pow (x := m') (y := x) (n := 16) (by omega) (by omega)
                omega
              go_wp2_with fail
              go_roundw
              case rel => exact ⟨m' ||| x, k + 1, true, by omega, rfl, rfl, by go_num, Lib.hid (by have := HP.out.more HA.out hkc (by rw [Hx.out]; exact Hyes.out); rw [Hx.out] at this; exact this), hsm, E.trans E2⟩
              case measure => simp only [intOf]; omega
          · have Hno : Hid (condU (abv s) (outAt out k) m' = false) := Lib.hid (by
              rw [Hx.out]
              unfold condU
              simp [hr0, h0])
            have e0 : ((r0 : Int) == 0) = false := by simp; omega
            clear hr0 h0
            go_wp2_with fail
            go_roundw
            case rel => exact ⟨m', k + 1, b, by omega, rfl, rfl, by go_num, Lib.hid (HP.out.same Hno.out), hm', E⟩
            case measure => simp only [intOf]; omega
        · obtain rfl : k = out.length := by omega
          have h2 := HP.out.le
          have h3 := HP.out.yes
          have Hno : Hid (b = false → ∀ k, k < c.length → condU (abv s) (outAt out k) m' = false) := Lib.hid (fun hb j hj => HP.out.no hb j (by rw [Hol.out]; exact hj))
          go_wp2_with fail
          go_roundw
          case rel => exact ⟨m', b, rfl, rfl, Lib.hid ⟨HP.out.inu, Hno.out⟩, hm', E⟩
          case measure =>
            cases b
            · simp only [intOf, flag]; omega
            · have := h3 rfl
              simp only [intOf, flag]; omega
end Go.Proofs.YtaaeapjnjjbglaaDoor

namespace Go.Proofs.YtaaeapjnjjbglaaDoor
open Go.RowKit

theorem infoLaid : (Tryd.prog.info? 64).map (fun i => (i.zero, i.size, i.bytes)) = some (some (.agg #[.int .i64 0, .int .i64 0, .int .i64 0, .int .i64 0, .bool false]), 5, 40) := by kernel_rfl
def kidV (q : Int) (cov : Nat) : Option Nat → Option Nat
  | none => none
  | some m => if q = 0 ∨ m &&& cov ≠ 0 then none else some m
theorem kid_eq (s : Shape) (l : List Plate) (c : List Laid) (cov i : Nat) (t : Bool) : kidOk s l c cov i t = kidV (leftN l c i) cov (coverOf s l (laidN s (lowZ cov) i t)) := by
  unfold kidOk kidV leftN
  cases coverOf s l (laidN s (lowZ cov) i t) <;> rfl
theorem xor_full {cov : Nat} (h : cov < 65536) : bits .xor .u32 IntKind.u32.max (cov : Int) = ((4294967295 - cov : Nat) : Int) := by
  have e : IntKind.u32.max = ((4294967295 : Nat) : Int) := by decide
  rw [e, u32_xor_nat _ _ (by omega) (by omega)]
  congr 1
  apply Nat.eq_of_testBit_eq
  intro i
  have h1 := Nat.testBit_two_pow_sub_succ (n := 32) (x := cov) (by omega) i
  rw [show 2 ^ 32 - (cov + 1) = 4294967295 - cov by omega] at h1
  rw [Nat.testBit_xor, h1, show (4294967295 : Nat) = 2 ^ 32 - 1 from rfl, Nat.testBit_two_pow_sub_one]
  by_cases hi : i < 32
  · simp [hi]
  · have : cov < 2 ^ i := Nat.lt_of_lt_of_le (by omega : cov < 2 ^ 32) (Nat.pow_le_pow_right (by omega) (by omega))
    simp [hi, Nat.testBit_lt_two_pow this]
theorem SetIs.count {s : Shape} {l : List Plate} {c : List Laid} {k : Nat} {out : List Nat} {all : Nat} (ok : s.Ok) (h : SetIs s l c k out all) : k ≤ fullN s.cells := by
  have key : ∀ i, i < k → (i : Int) ≤ numL s (laidAt c i) := by
    intro i
    induction i with
    | zero =>
      intro hi
      have := h.num 0 hi
      have : (-1 : Int) < numL s (laidAt c 0) := this
      omega
    | succ i ih =>
      intro hi
      have h1 := ih (by omega)
      have h2 : numL s (laidAt c i) < numL s (laidAt c (i + 1)) := h.num (i + 1) hi
      push_cast
      omega
  rcases Nat.eq_zero_or_pos k with h0 | h0
  · omega
  · have h1 := key (k - 1) (by omega)
    have h2 : numL s (laidAt c (k - 1)) < fullN s.cells := num_lt_full ok _ _ _
    omega

end Go.Proofs.YtaaeapjnjjbglaaDoor

namespace Go.Proofs.YtaaeapjnjjbglaaDoor
open Go.RowKit

set_option maxRecDepth 100000 in
set_option maxHeartbeats 20000000 in
theorem growCount_c {σ : Type} {J : σ → (Nat → Prop) → World → Prop} {longF : σ → Nat → Bool} {seeF : σ → List Laid → List Nat → σ} {wT : World} (B : Nat) (k : Spots) (nb _mb : Nat) (g : Nat) (s : Shape) (A : Option Addr) (cap : Nat) (l : List Plate) (PA : Option Addr) (pcap : Nat) (NA : Option Addr) (ncap : Nat) (AA : Option Addr) (acap : Nat) (EA : Option Addr) (ec : Nat) (OA : Option Addr) (oc : Nat) (LA : Option Addr) (lc : Nat) (ms : List Nat)
    (cl : Client s l J wT 43 #[ ] 44 #[.pointer (some ⟨nb, 0, none⟩)] longF seeF) (ok : s.Ok) (okl : platesB l = true) (hB : Board wT g s A cap l PA pcap NA ncap AA acap EA ec OA oc LA lc ms) (hT : TzTab wT) :
    ∀ (f : Nat) (c : List Laid) (all : List Nat) (cov : Nat) (CA : Option Addr) (nc cc : Nat) (SA : Option Addr) (na sc : Nat) (w : World) (st : σ) (Fp : Nat → Prop), c.length = nc → all.length = na → fullN s.cells + 1 ≤ f + lowZ cov → Part s l c all cov →
      Here J wT B k g (.func (.func 43) #[] #[ ]) (.func (.func 44) #[] #[.pointer (some ⟨nb, 0, none⟩)]) (leftL l c) w c all (.slice CA nc cc) (.slice SA na sc) st Fp →
      Calls Tryd.prog 65 #[.int .u32 (cov : Int), .slice CA nc cc, .slice SA na sc, .pointer (some ⟨k.L, 0, none⟩), .pointer (some ⟨k.Bd, 0, none⟩), .pointer (some ⟨k.Se, 0, none⟩), .pointer (some ⟨k.Lf, 0, none⟩), .pointer (some ⟨k.Gr, 0, none⟩)] w
        (GrowPost J wT B k g (.func (.func 43) #[] #[ ]) (.func (.func 44) #[] #[.pointer (some ⟨nb, 0, none⟩)]) l w c all (.slice CA nc cc) (.slice SA na sc) (growS longF seeF s l f st c all cov) Fp) := by
  intro f
  induction f with
  | zero =>
    intro c all cov CA nc cc SA na sc w st Fp _ _ hf hp _
    have := lowZ_le ok hp.is
    omega
  | succ f ih =>
    intro c all cov CA nc cc SA na sc w st Fp hnc hna hf hp hh
    have IH := Lib.hid ih
    clear ih
    have hcovs := hp.is.small ok
    have hlz := lowZ_le ok hp.is
    have hF := ok.full
    have hlen1 := hp.is.len
    have hc16 : nc ≤ 16 := by have := hp.is.count ok; omega
    have hna16 : na ≤ 16 := by omega
    have HP := Lib.hid hp
    have HH := Lib.hid hh
    have Hnc := Lib.hid hnc
    have Hna := Lib.hid hna
    have Hf := Lib.hid hf
    have a1 := hh.env.long.cell
    have hExt := hh.ext
    have hJ := hh.j
    obtain ⟨z, hz⟩ : ∃ z, lowZ cov = z := ⟨_, rfl⟩
    have Hz := Lib.hid hz
    rw [hz] at hlz
    clear hp hh hnc hna hf hlen1 hz
    go_enter Tryd.func65, Tryd.ntmps65
    go_wp2_with fail
    refine (cl.long st Fp _ nc (by omega) hExt hJ).mono ?_
    rintro e w1 ⟨rfl, E1⟩
    have H1 := Lib.hid (HH.out.mono cl E1)
    obtain ⟨b, hb⟩ : ∃ b, longF st nc = b := ⟨_, rfl⟩
    have Hb := Lib.hid hb
    rw [hb]
    clear hb hExt hJ a1
    cases b
    · have hxor := xor_full hcovs
      have hT1 := hT.ext (HH.out.ext.trans E1)
      go_wp2_with fail
      refine (tz_c (4294967295 - cov) (by omega) (by omega) _ hT1).mono ?_
      rintro e w2 ⟨rfl, hw2⟩
      subst w2
      rw [show Lib.ctz 32 (4294967295 - cov) = z from Hz.out]
      have a2 := H1.out.env.brd.cell
      have hB1 := hB.ext H1.out.ext
      have c6 := hB1.c6
      by_cases hfull : fullN s.cells ≤ z
      · have hd : decide ((fullN s.cells : Int) ≤ (z : Int)) = true := by simp; omega
        have a3 := H1.out.env.see.cell
        have hsee := cl.see st Fp w1 c all CA cc SA sc (by rw [Hnc.out]; omega) HP.out.is.len (by rw [← full_of_low ok HP.out.is (by rw [Hz.out]; exact hfull)]; exact HP.out.run) H1.out.ext H1.out.j (fun r hr => (H1.out.fp r hr).2.1)
          (by have := own_any (sz := 5) (rows := c.map Laid.cells) (by decide) (by intro r hr; obtain ⟨x, _, rfl⟩ := List.mem_map.1 hr; rfl) (by simp) (show w1.ownsRow B 64 5 (.slice CA c.length cc) c.length _ by have := H1.out.rc; rw [← Hnc.out] at this; exact this); exact this)
          (own_any (by decide) (by simp) (by simp) (by rw [flat_uv]; have := H1.out.rs; rw [← Hna.out] at this; exact this))
        rw [Hnc.out, Hna.out] at hsee
        have Hsee := Lib.hid hsee
        clear hsee
        go_wp2_with fail
        refine Hsee.out.mono ?_
        rintro e w3 ⟨⟨v3, rfl⟩, Fp3, hj3, f1, f2, o3⟩
        go_wp2_with fail
        go_end0
        refine ⟨⟨_, rfl⟩, Fp3, ?_, fun r hr => ?_, ?_⟩
        · have e1 : growS longF seeF s l (f + 1) st c all cov = seeF st c all := by
            show (if _ then _ else _) = _
            rw [Hnc.out, Hb.out, if_neg (by simp), if_pos (by rw [Hz.out]; exact hfull)]
          rw [e1]
          exact H1.out.seen cl hj3 f1 f2 o3
        · rcases f1 r hr with h | h
          · exact Or.inl h
          · exact Or.inr (Nat.le_trans E1.size h)
        · exact ((Only.of_ext _ E1).trans o3 fun r _ hr => Or.inl hr)
      · have hd : decide ((fullN s.cells : Int) ≤ (z : Int)) = false := by simp; omega
        go_wp2_with fail
        refine (cell_c g s A cap NA ncap ok z (by omega) _ hB1.brd.base).mono ?_
        rintro e w2 ⟨rfl, E2⟩
        obtain ⟨px, hpx⟩ : ∃ px, s.px (placeN s z) = px := ⟨_, rfl⟩
        obtain ⟨py, hpy⟩ : ∃ py, s.py (placeN s z) = py := ⟨_, rfl⟩
        obtain ⟨pz, hpz⟩ : ∃ pz, s.pz (placeN s z) = pz := ⟨_, rfl⟩
        rw [hpx, hpy, hpz]
        have Hpx := Lib.hid hpx
        have Hpy := Lib.hid hpy
        have Hpz := Lib.hid hpz
        have H2 := Lib.hid (H1.out.mono cl E2)
        clear hpx hpy hpz hxor hT1 a2 hB1 c6 hd
        have a2 := H2.out.env.brd.cell
        have c4 := (hB.ext H2.out.ext).brd.c4
        have l1 := H2.out.env.lt (r := k.Bd) (Or.inr (Or.inl rfl))
        have l2 := World.block_lt_of_cell? w2 _ c4
        obtain ⟨W3, hW3, E3, B3, hz3⟩ := box_ w2 #[.int .i64 px, .int .i64 py, .int .i64 pz] 56
        obtain ⟨AT, hAT⟩ : ∃ AT, w2.heap.size = AT := ⟨_, rfl⟩
        rw [hAT] at B3 l1 l2
        have HAT := Lib.hid hAT
        have HS3 : Hid (Stay J wT B k g (.func (.func 43) #[] #[ ]) (.func (.func 44) #[] #[.pointer (some ⟨nb, 0, none⟩)]) l w AT #[.int .i64 px, .int .i64 py, .int .i64 pz] W3 c all (.slice CA nc cc) (.slice SA na sc) (growTo longF seeF s l f c all cov st (2 * 0)) Fp Fp) :=
          Lib.hid ⟨H2.out.mono cl E3, fun r hr => Or.inl hr, Only.of_ext _ ((E1.trans E2).trans E3), B3, fun e => by have := (H2.out.fp _ e).2.1; rw [HAT.out] at this; omega⟩
        have hl8 := plates_len okl
        have hzF : z < fullN s.cells := by omega
        clear hz3 a2 c4
        have a2 := HS3.out.here.env.brd.cell
        have c4 := (hB.ext HS3.out.here.ext).brd.c4
        go_wp2_with fail
        clear hAT hW3 a2 c4 l1 l2 B3
        go_loopw [44] (fun iv wr => ∃ (i : Nat) (Fp' : Nat → Prop), i ≤ l.length ∧ iv = .int .i64 i ∧ Hid (Stay J wT B k g (.func (.func 43) #[] #[ ]) (.func (.func 44) #[] #[.pointer (some ⟨nb, 0, none⟩)]) l w AT #[.int .i64 px, .int .i64 py, .int .i64 pz] wr c all (.slice CA nc cc) (.slice SA na sc) (growTo longF seeF s l f c all cov st (2 * i)) Fp Fp')) (fun iv _ => l.length - (intOf iv).toNat)
        case atStart => exact ⟨0, Fp, by omega, rfl, HS3⟩
        case round =>
          clear HS3
          obtain ⟨i, Fp1, hi, rfl, HS⟩ := hrel
          by_cases hlt : i < l.length
          · obtain ⟨W4, hW4, E4, B4, hz4⟩ := box_ wr #[.bool false, .bool true] 4
            have HS4 := Lib.hid (HS.out.mono cl E4)
            obtain ⟨TB, hTB⟩ : ∃ TB, wr.heap.size = TB := ⟨_, rfl⟩
            rw [hTB] at B4
            have HTB := Lib.hid hTB
            have hTF : Hid (¬ Fp1 TB) := Lib.hid (fun e => by have := (HS.out.here.fp _ e).2.1; rw [HTB.out] at this; omega)
            clear hz4
            obtain ⟨wo, rfl⟩ : ∃ wo : World, wo = wr := ⟨_, rfl⟩
            go_wp2_with fail
            clear hTB hW4
            go_loopw [49] (fun jv wr => ∃ (j : Nat) (Fp' : Nat → Prop), j ≤ 2 ∧ jv = .int .i64 j ∧ Hid (Stay J wT B k g (.func (.func 43) #[] #[ ]) (.func (.func 44) #[] #[.pointer (some ⟨nb, 0, none⟩)]) l w AT #[.int .i64 px, .int .i64 py, .int .i64 pz] wr c all (.slice CA nc cc) (.slice SA na sc) (growTo longF seeF s l f c all cov st (2 * i + j)) Fp Fp') ∧ Blk wr TB 4 #[.bool false, .bool true] ∧ Hid (¬ Fp' TB)) (fun jv _ => 2 - (intOf jv).toNat)
            case atStart => exact ⟨0, Fp1, by omega, rfl, HS4, B4, hTF⟩
            case round =>
              clear HS HS4 B4 hTF
              obtain ⟨j, Fp2, hj, rfl, HS, BT, hTF⟩ := hrel
              have tb := BT.cell
              obtain rfl | rfl | rfl : j = 0 ∨ j = 1 ∨ j = 2 := by omega
              · have hBr := hB.ext HS.out.here.ext
                have a2 := HS.out.here.env.brd.cell
                have c9 := hBr.c9
                have hzm : z < ms.length := by rw [hB.len]; exact hzF
                obtain ⟨Mz, hMz⟩ : ∃ Mz, ms[z]? = some Mz := ⟨_, List.getElem?_eq_getElem hzm⟩
                obtain ⟨mp, hmap, hget⟩ := hBr.maps z Mz hMz
                obtain ⟨lb, loff, hLA, hlb, hlc⟩ := hBr.lays.cells (by omega)
                have lcell := hlc z [mapV Mz] (by rw [List.getElem?_map, hMz]; rfl) 0 _ rfl
                simp only [Nat.mul_one, Nat.add_zero, mapV] at lcell
                subst hLA
                obtain ⟨r, hr⟩ : ∃ r, coverOf s l (laidN s z i false) = r := ⟨_, rfl⟩
                have hlk : (Instr.lookup 126 (.map (some Mz)) (.agg #[.int .i64 (i : Int), .bool false]) true).run Tryd.prog wr = .ok (sortV r) wr := by
                  rw [look_sort hmap, hget, ← hr, ← cover_laidN ok hzF]
                  rfl
                have Hkid : Hid (kidOk s l c cov i false = kidV (leftN l c i) cov r) := Lib.hid (by rw [kid_eq, Hz.out, hr])
                have Hst : Hid (growTo longF seeF s l f c all cov st (2 * i + (0 + 1)) = kidS longF seeF s l f c all cov (growTo longF seeF s l f c all cov st (2 * i + 0)) (i, false)) := Lib.hid (growTo_succ longF seeF s l hlt false)
                have Hr := Lib.hid hr
                clear hr hget hlc hMz hzm hBr
                cases r with
                | none =>
                  have Hno : Hid (kidOk s l c cov i false = none) := Lib.hid (by rw [Hkid.out]; rfl)
                  dsimp only [sortV] at hlk
                  go_wp2_with fail
                  go_roundw
                  case rel => exact ⟨0 + 1, Fp2, by omega, by go_num, by rw [Hst.out]; unfold kidS; rw [Hno.out]; exact HS, BT, hTF⟩
                  case measure => simp only [intOf]; omega
                | some m =>
                  have hms := cover_small ok Hr.out
                  have hgeti : l[i]? = some (plateAt l i) := by
                    have := List.getElem?_eq_getElem hlt
                    rw [this, plateAt_eq this]
                  have okn := (plate_ok okl hgeti).n
                  have hun := usedN_le_N okl HP.out.is hlt
                  obtain ⟨q, hq⟩ : ∃ q, leftN l c i = q := ⟨_, rfl⟩
                  have hqb : 0 ≤ q ∧ q ≤ 99 := by
                    unfold leftN at hq
                    omega
                  have a6 := HS.out.here.env.lft.cell
                  have a7 : wr.cell? ⟨k.La, i, none⟩ = some (.int .i64 q) := by
                    rw [HS.out.here.env.rest.cell, intsA_get, leftL_get hlt, hq]
                    rfl
                  have f7 := HS.out.here.env.rest.frozen i
                  rw [leftL_len] at a6
                  have Hq := Lib.hid hq
                  rw [hq] at Hkid
                  have hb0 := bits_and hms hcovs
                  dsimp only [sortV] at hlk
                  clear hq hgeti okn hun
                  by_cases h0 : q = 0
                  · have Hno : Hid (kidOk s l c cov i false = none) := Lib.hid (by rw [Hkid.out]; exact if_pos (Or.inl h0))
                    have e0 : (q == 0) = true := by simp [h0]
                    go_wp2_with fail
                    go_roundw
                    case rel => exact ⟨0 + 1, Fp2, by omega, by go_num, by rw [Hst.out]; unfold kidS; rw [Hno.out]; exact HS, BT, hTF⟩
                    case measure => simp only [intOf]; omega
                  · have e0 : (q == 0) = false := by simpa using h0
                    by_cases hand : m &&& cov = 0
                    · have e1 : (bits .and .u32 (m : Int) (cov : Int) != 0) = false := by rw [hb0, hand]; rfl
                      clear hb0
                      have hadd := HP.out.add ok okl (by rw [Hz.out]; exact hzF) (i := i) (t := false) (m := m) (by rw [Hz.out]; exact Hr.out) hand (by have h := Hq.out; unfold leftN at h; omega)
                      rw [Hz.out] at hadd
                      obtain ⟨hp2, hlz2⟩ := hadd
                      obtain ⟨x, hx⟩ : ∃ x, laidN s z i false = x := ⟨_, rfl⟩
                      have hxp : x.plate = i := by rw [← hx]; rfl
                      have hxc : x.cells = [.int .i64 (i : Int), .int .i64 px, .int .i64 py, .int .i64 pz, .bool false] := by
                        rw [← hx]
                        unfold Laid.cells laidN
                        rw [Hpx.out, Hpy.out, Hpz.out]
                      rw [hx] at hp2
                      have Hp2 := Lib.hid hp2
                      have Hlz2 := Lib.hid hlz2
                      have Hx := Lib.hid hx
                      have Hxp := Lib.hid hxp
                      have Hxc := Lib.hid hxc
                      have Hsome : Hid (kidOk s l c cov i false = some m) := Lib.hid (by rw [Hkid.out]; exact if_neg (by rintro (h | h); exact h0 h; exact h hand))
                      obtain ⟨W5, hW5⟩ : ∃ W5, wr.setCell ⟨k.La, i, none⟩ (.int .i64 (q - 1)) = W5 := ⟨_, rfl⟩
                      have hh5 := HS.out.here.write cl i (q - 1)
                      have hl5 : (leftL l c).set i (q - 1) = leftL l (c ++ [x]) := by rw [← Hq.out]; exact leftL_add hxp
                      rw [hl5, hW5] at hh5
                      have hneL : AT ≠ k.La := fun e => HS.out.here.no_turn HS.out.box (Or.inl rfl) HS.out.free (Or.inr (Or.inr (Or.inr e)))
                      have hbx5 := HS.out.box.far (p := ⟨k.La, i, none⟩) hneL (.int .i64 (q - 1))
                      rw [hW5] at hbx5
                      have H5 := Lib.hid hh5
                      have Hbx5 := Lib.hid hbx5
                      have g5 : W5.cell? ⟨k.Gr, 0, none⟩ = some (Value.func (.func 65) #[] #[.pointer (some ⟨k.L, 0, none⟩), .pointer (some ⟨k.Bd, 0, none⟩), .pointer (some ⟨k.Se, 0, none⟩), .pointer (some ⟨k.Lf, 0, none⟩), .pointer (some ⟨k.Gr, 0, none⟩)]) := by rw [hh5.env.grow.cell]; rfl
                      have x50 : W5.cell? ⟨AT, 0, none⟩ = some (.int .i64 px) := hbx5.cell 0
                      have x51 : W5.cell? ⟨AT, 1, none⟩ = some (.int .i64 py) := hbx5.cell 1
                      have x52 : W5.cell? ⟨AT, 2, none⟩ = some (.int .i64 pz) := hbx5.cell 2
                      have HW5 := Lib.hid hW5
                      have hor := bits_or hcovs hms
                      clear hp2 hlz2 hx hxp hxc hh5 hl5 hneL hbx5 hand
                      go_upto_region 14 with (fail)
                      go_cut [88] from 88 to 103 (fun s88 wx => s88 = (Value.func (.func 65) #[] #[.pointer (some ⟨k.L, 0, none⟩), .pointer (some ⟨k.Bd, 0, none⟩), .pointer (some ⟨k.Se, 0, none⟩), .pointer (some ⟨k.Lf, 0, none⟩), .pointer (some ⟨k.Gr, 0, none⟩)]) ∧ Deep J wT B k g (.func (.func 43) #[] #[ ]) (.func (.func 44) #[] #[.pointer (some ⟨nb, 0, none⟩)]) (leftL l (c ++ [x])) W5 c all (.slice CA nc cc) (.slice SA na sc) (growS longF seeF s l f (growTo longF seeF s l f c all cov st (2 * i + 0)) (c ++ [x]) (all ++ [m]) (cov ||| m)) Fp2 wx)
                      case first =>
                        have oc := H5.out.rc
                        have os := H5.out.rs
                        rw [Hnc.out] at oc
                        rw [Hna.out] at os
                        have hlow := H5.out.low.2
                        have hgr : k.has k.Gr := Or.inr (Or.inr (Or.inr (Or.inr (Or.inr rfl))))
                        have hCg := H5.out.env.row_ne hgr oc (Or.inl rfl)
                        have hSg := H5.out.env.row_ne hgr os (Or.inr rfl)
                        have hnt := HS.out.here.no_turn HS.out.box (Or.inl rfl) HS.out.free
                        have hCa : (Value.slice CA nc cc).ownBlock ≠ some AT := fun e => hnt (Or.inr (Or.inl e))
                        have hSa : (Value.slice SA na sc).ownBlock ≠ some AT := fun e => hnt (Or.inr (Or.inr (Or.inl e)))
                        obtain ⟨iL, hiL, zL0, zL1, zL2⟩ := info_parts infoLaid
                        obtain ⟨iU, hiU, zU0, zU1, zU2⟩ := info_parts infoU32
                        have b1 : nc + 1 ≤ maxLen := by unfold maxLen; omega
                        have b2 : (nc + 1) * 40 ≤ 140737488355328 := by omega
                        have b3 : na + 1 ≤ maxLen := by unfold maxLen; omega
                        have b4 : (na + 1) * 4 ≤ 140737488355328 := by omega
                        have HnT := Lib.hid hnt
                        clear hnt
                        have oc0 := oc
                        have os0 := os
                        go_region_held3 (fun w' => w'.cell? ⟨k.Gr, 0, none⟩ = some (Value.func (.func 65) #[] #[.pointer (some ⟨k.L, 0, none⟩), .pointer (some ⟨k.Bd, 0, none⟩), .pointer (some ⟨k.Se, 0, none⟩), .pointer (some ⟨k.Lf, 0, none⟩), .pointer (some ⟨k.Gr, 0, none⟩)]) ∧ w'.cell? ⟨AT, 0, none⟩ = some (.int .i64 px) ∧ w'.cell? ⟨AT, 1, none⟩ = some (.int .i64 py) ∧ w'.cell? ⟨AT, 2, none⟩ = some (.int .i64 pz))
                          (first
                            | (go_split_ands; exact ⟨(ext_alloc _ _).cell (by assumption), (ext_alloc _ _).cell (by assumption), (ext_alloc _ _).cell (by assumption), (ext_alloc _ _).cell (by assumption)⟩)
                            | (go_split_ands; exact ⟨fc.cell (by assumption) hCg, fc.cell (by assumption) hCa, fc.cell (by assumption) hCa, fc.cell (by assumption) hCa⟩)
                            | (go_split_ands; exact ⟨fs.cell (by assumption) hSg, fs.cell (by assumption) hSa, fs.cell (by assumption) hSa, fs.cell (by assumption) hSa⟩)
                            | (go_split_ands; exact ⟨ho7.cell (by assumption) nGr, ho7.cell (by assumption) nAT, ho7.cell (by assumption) nAT, ho7.cell (by assumption) nAT⟩)
                            | go_keep)
                          (first
                            | (refine at_append #[.tmp 92, .tmp 97] #[27, 27] rfl ?_; refine step_append_fate rfl (.tmp 92) (.tmp 97) 27 rfl B 64 iL _ 5 40 Tryd.underlying27 hiL zL0 zL1 zL2 rfl (by decide) (.slice CA nc cc) nc _ rfl (by first | exact oc | exact oc.alloc _ | exact (oc.alloc _).alloc _) _ 1 (#[.int .i64 (i : Int), .int .i64 px, .int .i64 py, .int .i64 pz, .bool false] : Array Value).toList rfl rfl (fun j => by rw [(show Blk _ _ 64 #[.int .i64 (i : Int), .int .i64 px, .int .i64 py, .int .i64 pz, .bool false] from by first | exact blk_new_at (by simp) | exact (blk_new_at (by simp)).alloc _ | exact kpS _ _ _ (blk_new_at (by simp)) (by decide) | exact kpS _ _ _ ((blk_new_at (by simp)).alloc _) (by decide)).cell]; simp) (by simp [Value.oneCell']) b1 b2 (by first | exact hlow | (simp; omega) | (have := fs.only.size; simp at this ⊢; omega)) ?_; intro V4 w4 fc; obtain ⟨g4, cp4, rfl, hd4⟩ := fc.2; have kpC := fun g t cs (h : Blk _ g t cs) (ht : t ≠ 64) => fc.blk (by first | exact oc | exact oc.alloc _ | exact (oc.alloc _).alloc _) h ht; try (have os := own_two (by first | exact os | exact os.alloc _ | exact (os.alloc _).alloc _) (by first | exact oc | exact oc.alloc _ | exact (oc.alloc _).alloc _) (by decide) fc.only))
                            | (refine at_append #[.tmp 99, .tmp 101] #[86, 86] rfl ?_; refine step_append_fate rfl (.tmp 99) (.tmp 101) 86 rfl B 130 iU _ 1 4 Tryd.underlying86 hiU zU0 zU1 zU2 rfl (by decide) (.slice SA na sc) na _ rfl (by first | exact os | exact os.alloc _ | exact (os.alloc _).alloc _) _ 1 (#[uv m] : Array Value).toList rfl rfl (fun j => by rw [(show Blk _ _ 130 #[uv m] from by first | exact blk_new_at (by simp) | exact (blk_new_at (by simp)).alloc _ | exact kpC _ _ _ (blk_new_at (by simp)) (by decide) | exact kpC _ _ _ ((blk_new_at (by simp)).alloc _) (by decide)).cell]; simp) (by simp [Value.oneCell', uv]) b3 b4 (by first | exact hlow | (simp; omega) | (have := fc.only.size; simp at this ⊢; omega)) ?_; intro V4 w6 fs; obtain ⟨g5, cp5, rfl, hd5⟩ := fs.2; have kpS := fun g t cs (h : Blk _ g t cs) (ht : t ≠ 130) => fs.blk (by first | exact os | exact os.alloc _ | exact (os.alloc _).alloc _) h ht; try (have oc := own_two (by first | exact oc | exact oc.alloc _ | exact (oc.alloc _).alloc _) (by first | exact os | exact os.alloc _ | exact (os.alloc _).alloc _) (by decide) fs.only))
                            | (go_simp; go_at_call 65; (first | (obtain ⟨oT, rC, rS⟩ := two_rows (by decide) oc0 os0 (by first | exact Ext.refl _ | exact (Ext.refl _).drew | exact ext_alloc _ _ | exact (ext_alloc _ _).drew | exact (ext_alloc _ _).trans (ext_alloc _ _) | exact ((ext_alloc _ _).trans (ext_alloc _ _)).drew) fc (by first | exact Ext.refl _ | exact (Ext.refl _).drew | exact ext_alloc _ _ | exact (ext_alloc _ _).drew | exact (ext_alloc _ _).trans (ext_alloc _ _) | exact ((ext_alloc _ _).trans (ext_alloc _ _)).drew) fs) | (obtain ⟨oT', rS, rC⟩ := two_rows (by decide) os0 oc0 (by first | exact Ext.refl _ | exact (Ext.refl _).drew | exact ext_alloc _ _ | exact (ext_alloc _ _).drew | exact (ext_alloc _ _).trans (ext_alloc _ _) | exact ((ext_alloc _ _).trans (ext_alloc _ _)).drew) fs (by first | exact Ext.refl _ | exact (Ext.refl _).drew | exact ext_alloc _ _ | exact (ext_alloc _ _).drew | exact (ext_alloc _ _).trans (ext_alloc _ _) | exact ((ext_alloc _ _).trans (ext_alloc _ _)).drew) fc; have oT := oT'.mono fun r _ e => Or.symm e)); have rC' : RowTo W5 _ B 64 5 (.slice CA nc cc) (.slice (some ⟨g4, 0, none⟩) (nc + 1) cp4) c.length ((c.map Laid.cells).flatten ++ x.cells) := (by rw [Hnc.out, Hxc.out]; exact rC); have rS' : RowTo W5 _ B 130 1 (.slice SA na sc) (.slice (some ⟨g5, 0, none⟩) (na + 1) cp5) all.length (all.map uv ++ [uv m]) := (by rw [Hna.out]; exact rS); have hh2 := H5.out.deeper cl oT rC' rS'; have nGr := hh2.spot_turn; have nAT := hh2.no_turn (Hbx5.out.only oT (fun e => e.elim hCa hSa)) (Or.inl rfl) HS.out.free; refine (IH.out (c ++ [x]) (all ++ [m]) (cov ||| m) _ (nc + 1) _ _ (na + 1) _ _ _ Fp2 (by rw [List.length_append, Hnc.out]; rfl) (by rw [List.length_append, Hna.out]; rfl) (by have h1 := Hlz2.out; have h2 := Hf.out; rw [Hz.out] at h2; omega) Hp2.out hh2).mono ?_; rintro e w7 hpost; have hD := H5.out.dug oT rC' rS' hpost; obtain ⟨⟨v7, rfl⟩, Fp7, hh7, hs7, ho7⟩ := hpost))
                        all_goals (go_wp2_with fail; go_meet; exact ⟨rfl, hD⟩)
                      case rest =>
                        obtain ⟨rfl, hD⟩ := hcut
                        have HD := Lib.hid hD
                        obtain ⟨Fp7, hh7, -, -⟩ := hD
                        clear a2 c9 lcell hlk a6 a7 f7 tb hlb g5 x50 x51 x52
                        have a6 := hh7.env.lft.cell
                        rw [leftL_len] at a6
                        have a7 := hh7.env.rest.cell i
                        rw [intsA_get, leftL_get hlt, leftN_snoc, if_pos Hxp.out, Hq.out] at a7
                        simp only [Option.map_some, iv] at a7
                        have f7 := hh7.env.rest.frozen i
                        clear hh7
                        go_wp2_with fail
                        go_roundw
                        case rel =>
                          obtain ⟨Fp8, hs8, hb8, hf8⟩ := HS.out.after cl Hxp.out BT hTF.out (by rw [Hq.out, HW5.out]; exact HD.out)
                          rw [leftN_snoc, if_pos Hxp.out, Hq.out, show q - 1 + 1 = q by omega] at hs8 hb8
                          refine ⟨0 + 1, Fp8, by omega, by go_num, Lib.hid ?_, hb8, Lib.hid hf8⟩
                          rw [Hst.out]
                          unfold kidS
                          simp only [Hsome.out, Hz.out, Hx.out]
                          exact hs8
                        case measure => simp only [intOf]; omega
                    · have Hno : Hid (kidOk s l c cov i false = none) := Lib.hid (by rw [Hkid.out]; exact if_pos (Or.inr hand))
                      have e1 : (bits .and .u32 (m : Int) (cov : Int) != 0) = true := by rw [hb0]; simp; omega
                      clear hb0
                      go_wp2_with fail
                      go_roundw
                      case rel => exact ⟨0 + 1, Fp2, by omega, by go_num, by rw [Hst.out]; unfold kidS; rw [Hno.out]; exact HS, BT, hTF⟩
                      case measure => simp only [intOf]; omega
              · have hBr := hB.ext HS.out.here.ext
                have a2 := HS.out.here.env.brd.cell
                have c9 := hBr.c9
                have hzm : z < ms.length := by rw [hB.len]; exact hzF
                obtain ⟨Mz, hMz⟩ : ∃ Mz, ms[z]? = some Mz := ⟨_, List.getElem?_eq_getElem hzm⟩
                obtain ⟨mp, hmap, hget⟩ := hBr.maps z Mz hMz
                obtain ⟨lb, loff, hLA, hlb, hlc⟩ := hBr.lays.cells (by omega)
                have lcell := hlc z [mapV Mz] (by rw [List.getElem?_map, hMz]; rfl) 0 _ rfl
                simp only [Nat.mul_one, Nat.add_zero, mapV] at lcell
                subst hLA
                obtain ⟨r, hr⟩ : ∃ r, coverOf s l (laidN s z i true) = r := ⟨_, rfl⟩
                have hlk : (Instr.lookup 126 (.map (some Mz)) (.agg #[.int .i64 (i : Int), .bool true]) true).run Tryd.prog wr = .ok (sortV r) wr := by
                  rw [look_sort hmap, hget, ← hr, ← cover_laidN ok hzF]
                  rfl
                have Hkid : Hid (kidOk s l c cov i true = kidV (leftN l c i) cov r) := Lib.hid (by rw [kid_eq, Hz.out, hr])
                have Hst : Hid (growTo longF seeF s l f c all cov st (2 * i + (1 + 1)) = kidS longF seeF s l f c all cov (growTo longF seeF s l f c all cov st (2 * i + 1)) (i, true)) := Lib.hid (growTo_succ longF seeF s l hlt true)
                have Hr := Lib.hid hr
                clear hr hget hlc hMz hzm hBr
                cases r with
                | none =>
                  have Hno : Hid (kidOk s l c cov i true = none) := Lib.hid (by rw [Hkid.out]; rfl)
                  dsimp only [sortV] at hlk
                  go_wp2_with fail
                  go_roundw
                  case rel => exact ⟨1 + 1, Fp2, by omega, by go_num, by rw [Hst.out]; unfold kidS; rw [Hno.out]; exact HS, BT, hTF⟩
                  case measure => simp only [intOf]; omega
                | some m =>
                  have hms := cover_small ok Hr.out
                  have hgeti : l[i]? = some (plateAt l i) := by
                    have := List.getElem?_eq_getElem hlt
                    rw [this, plateAt_eq this]
                  have okn := (plate_ok okl hgeti).n
                  have hun := usedN_le_N okl HP.out.is hlt
                  obtain ⟨q, hq⟩ : ∃ q, leftN l c i = q := ⟨_, rfl⟩
                  have hqb : 0 ≤ q ∧ q ≤ 99 := by
                    unfold leftN at hq
                    omega
                  have a6 := HS.out.here.env.lft.cell
                  have a7 : wr.cell? ⟨k.La, i, none⟩ = some (.int .i64 q) := by
                    rw [HS.out.here.env.rest.cell, intsA_get, leftL_get hlt, hq]
                    rfl
                  have f7 := HS.out.here.env.rest.frozen i
                  rw [leftL_len] at a6
                  have Hq := Lib.hid hq
                  rw [hq] at Hkid
                  have hb0 := bits_and hms hcovs
                  dsimp only [sortV] at hlk
                  clear hq hgeti okn hun
                  by_cases h0 : q = 0
                  · have Hno : Hid (kidOk s l c cov i true = none) := Lib.hid (by rw [Hkid.out]; exact if_pos (Or.inl h0))
                    have e0 : (q == 0) = true := by simp [h0]
                    go_wp2_with fail
                    go_roundw
                    case rel => exact ⟨1 + 1, Fp2, by omega, by go_num, by rw [Hst.out]; unfold kidS; rw [Hno.out]; exact HS, BT, hTF⟩
                    case measure => simp only [intOf]; omega
                  · have e0 : (q == 0) = false := by simpa using h0
                    by_cases hand : m &&& cov = 0
                    · have e1 : (bits .and .u32 (m : Int) (cov : Int) != 0) = false := by rw [hb0, hand]; rfl
                      clear hb0
                      have hadd := HP.out.add ok okl (by rw [Hz.out]; exact hzF) (i := i) (t := true) (m := m) (by rw [Hz.out]; exact Hr.out) hand (by have h := Hq.out; unfold leftN at h; omega)
                      rw [Hz.out] at hadd
                      obtain ⟨hp2, hlz2⟩ := hadd
                      obtain ⟨x, hx⟩ : ∃ x, laidN s z i true = x := ⟨_, rfl⟩
                      have hxp : x.plate = i := by rw [← hx]; rfl
                      have hxc : x.cells = [.int .i64 (i : Int), .int .i64 px, .int .i64 py, .int .i64 pz, .bool true] := by
                        rw [← hx]
                        unfold Laid.cells laidN
                        rw [Hpx.out, Hpy.out, Hpz.out]
                      rw [hx] at hp2
                      have Hp2 := Lib.hid hp2
                      have Hlz2 := Lib.hid hlz2
                      have Hx := Lib.hid hx
                      have Hxp := Lib.hid hxp
                      have Hxc := Lib.hid hxc
                      have Hsome : Hid (kidOk s l c cov i true = some m) := Lib.hid (by rw [Hkid.out]; exact if_neg (by rintro (h | h); exact h0 h; exact h hand))
                      obtain ⟨W5, hW5⟩ : ∃ W5, wr.setCell ⟨k.La, i, none⟩ (.int .i64 (q - 1)) = W5 := ⟨_, rfl⟩
                      have hh5 := HS.out.here.write cl i (q - 1)
                      have hl5 : (leftL l c).set i (q - 1) = leftL l (c ++ [x]) := by rw [← Hq.out]; exact leftL_add hxp
                      rw [hl5, hW5] at hh5
                      have hneL : AT ≠ k.La := fun e => HS.out.here.no_turn HS.out.box (Or.inl rfl) HS.out.free (Or.inr (Or.inr (Or.inr e)))
                      have hbx5 := HS.out.box.far (p := ⟨k.La, i, none⟩) hneL (.int .i64 (q - 1))
                      rw [hW5] at hbx5
                      have H5 := Lib.hid hh5
                      have Hbx5 := Lib.hid hbx5
                      have g5 : W5.cell? ⟨k.Gr, 0, none⟩ = some (Value.func (.func 65) #[] #[.pointer (some ⟨k.L, 0, none⟩), .pointer (some ⟨k.Bd, 0, none⟩), .pointer (some ⟨k.Se, 0, none⟩), .pointer (some ⟨k.Lf, 0, none⟩), .pointer (some ⟨k.Gr, 0, none⟩)]) := by rw [hh5.env.grow.cell]; rfl
                      have x50 : W5.cell? ⟨AT, 0, none⟩ = some (.int .i64 px) := hbx5.cell 0
                      have x51 : W5.cell? ⟨AT, 1, none⟩ = some (.int .i64 py) := hbx5.cell 1
                      have x52 : W5.cell? ⟨AT, 2, none⟩ = some (.int .i64 pz) := hbx5.cell 2
                      have HW5 := Lib.hid hW5
                      have hor := bits_or hcovs hms
                      clear hp2 hlz2 hx hxp hxc hh5 hl5 hneL hbx5 hand
                      go_upto_region 14 with (fail)
                      go_cut [88] from 88 to 103 (fun s88 wx => s88 = (Value.func (.func 65) #[] #[.pointer (some ⟨k.L, 0, none⟩), .pointer (some ⟨k.Bd, 0, none⟩), .pointer (some ⟨k.Se, 0, none⟩), .pointer (some ⟨k.Lf, 0, none⟩), .pointer (some ⟨k.Gr, 0, none⟩)]) ∧ Deep J wT B k g (.func (.func 43) #[] #[ ]) (.func (.func 44) #[] #[.pointer (some ⟨nb, 0, none⟩)]) (leftL l (c ++ [x])) W5 c all (.slice CA nc cc) (.slice SA na sc) (growS longF seeF s l f (growTo longF seeF s l f c all cov st (2 * i + 1)) (c ++ [x]) (all ++ [m]) (cov ||| m)) Fp2 wx)
                      case first =>
                        have oc := H5.out.rc
                        have os := H5.out.rs
                        rw [Hnc.out] at oc
                        rw [Hna.out] at os
                        have hlow := H5.out.low.2
                        have hgr : k.has k.Gr := Or.inr (Or.inr (Or.inr (Or.inr (Or.inr rfl))))
                        have hCg := H5.out.env.row_ne hgr oc (Or.inl rfl)
                        have hSg := H5.out.env.row_ne hgr os (Or.inr rfl)
                        have hnt := HS.out.here.no_turn HS.out.box (Or.inl rfl) HS.out.free
                        have hCa : (Value.slice CA nc cc).ownBlock ≠ some AT := fun e => hnt (Or.inr (Or.inl e))
                        have hSa : (Value.slice SA na sc).ownBlock ≠ some AT := fun e => hnt (Or.inr (Or.inr (Or.inl e)))
                        obtain ⟨iL, hiL, zL0, zL1, zL2⟩ := info_parts infoLaid
                        obtain ⟨iU, hiU, zU0, zU1, zU2⟩ := info_parts infoU32
                        have b1 : nc + 1 ≤ maxLen := by unfold maxLen; omega
                        have b2 : (nc + 1) * 40 ≤ 140737488355328 := by omega
                        have b3 : na + 1 ≤ maxLen := by unfold maxLen; omega
                        have b4 : (na + 1) * 4 ≤ 140737488355328 := by omega
                        have HnT := Lib.hid hnt
                        clear hnt
                        have oc0 := oc
                        have os0 := os
                        go_region_held3 (fun w' => w'.cell? ⟨k.Gr, 0, none⟩ = some (Value.func (.func 65) #[] #[.pointer (some ⟨k.L, 0, none⟩), .pointer (some ⟨k.Bd, 0, none⟩), .pointer (some ⟨k.Se, 0, none⟩), .pointer (some ⟨k.Lf, 0, none⟩), .pointer (some ⟨k.Gr, 0, none⟩)]) ∧ w'.cell? ⟨AT, 0, none⟩ = some (.int .i64 px) ∧ w'.cell? ⟨AT, 1, none⟩ = some (.int .i64 py) ∧ w'.cell? ⟨AT, 2, none⟩ = some (.int .i64 pz))
                          (first
                            | (go_split_ands; exact ⟨(ext_alloc _ _).cell (by assumption), (ext_alloc _ _).cell (by assumption), (ext_alloc _ _).cell (by assumption), (ext_alloc _ _).cell (by assumption)⟩)
                            | (go_split_ands; exact ⟨fc.cell (by assumption) hCg, fc.cell (by assumption) hCa, fc.cell (by assumption) hCa, fc.cell (by assumption) hCa⟩)
                            | (go_split_ands; exact ⟨fs.cell (by assumption) hSg, fs.cell (by assumption) hSa, fs.cell (by assumption) hSa, fs.cell (by assumption) hSa⟩)
                            | (go_split_ands; exact ⟨ho7.cell (by assumption) nGr, ho7.cell (by assumption) nAT, ho7.cell (by assumption) nAT, ho7.cell (by assumption) nAT⟩)
                            | go_keep)
                          (first
                            | (refine at_append #[.tmp 92, .tmp 97] #[27, 27] rfl ?_; refine step_append_fate rfl (.tmp 92) (.tmp 97) 27 rfl B 64 iL _ 5 40 Tryd.underlying27 hiL zL0 zL1 zL2 rfl (by decide) (.slice CA nc cc) nc _ rfl (by first | exact oc | exact oc.alloc _ | exact (oc.alloc _).alloc _) _ 1 (#[.int .i64 (i : Int), .int .i64 px, .int .i64 py, .int .i64 pz, .bool true] : Array Value).toList rfl rfl (fun j => by rw [(show Blk _ _ 64 #[.int .i64 (i : Int), .int .i64 px, .int .i64 py, .int .i64 pz, .bool true] from by first | exact blk_new_at (by simp) | exact (blk_new_at (by simp)).alloc _ | exact kpS _ _ _ (blk_new_at (by simp)) (by decide) | exact kpS _ _ _ ((blk_new_at (by simp)).alloc _) (by decide)).cell]; simp) (by simp [Value.oneCell']) b1 b2 (by first | exact hlow | (simp; omega) | (have := fs.only.size; simp at this ⊢; omega)) ?_; intro V4 w4 fc; obtain ⟨g4, cp4, rfl, hd4⟩ := fc.2; have kpC := fun g t cs (h : Blk _ g t cs) (ht : t ≠ 64) => fc.blk (by first | exact oc | exact oc.alloc _ | exact (oc.alloc _).alloc _) h ht; try (have os := own_two (by first | exact os | exact os.alloc _ | exact (os.alloc _).alloc _) (by first | exact oc | exact oc.alloc _ | exact (oc.alloc _).alloc _) (by decide) fc.only))
                            | (refine at_append #[.tmp 99, .tmp 101] #[86, 86] rfl ?_; refine step_append_fate rfl (.tmp 99) (.tmp 101) 86 rfl B 130 iU _ 1 4 Tryd.underlying86 hiU zU0 zU1 zU2 rfl (by decide) (.slice SA na sc) na _ rfl (by first | exact os | exact os.alloc _ | exact (os.alloc _).alloc _) _ 1 (#[uv m] : Array Value).toList rfl rfl (fun j => by rw [(show Blk _ _ 130 #[uv m] from by first | exact blk_new_at (by simp) | exact (blk_new_at (by simp)).alloc _ | exact kpC _ _ _ (blk_new_at (by simp)) (by decide) | exact kpC _ _ _ ((blk_new_at (by simp)).alloc _) (by decide)).cell]; simp) (by simp [Value.oneCell', uv]) b3 b4 (by first | exact hlow | (simp; omega) | (have := fc.only.size; simp at this ⊢; omega)) ?_; intro V4 w6 fs; obtain ⟨g5, cp5, rfl, hd5⟩ := fs.2; have kpS := fun g t cs (h : Blk _ g t cs) (ht : t ≠ 130) => fs.blk (by first | exact os | exact os.alloc _ | exact (os.alloc _).alloc _) h ht; try (have oc := own_two (by first | exact oc | exact oc.alloc _ | exact (oc.alloc _).alloc _) (by first | exact os | exact os.alloc _ | exact (os.alloc _).alloc _) (by decide) fs.only))
                            | (go_simp; go_at_call 65; (first | (obtain ⟨oT, rC, rS⟩ := two_rows (by decide) oc0 os0 (by first | exact Ext.refl _ | exact (Ext.refl _).drew | exact ext_alloc _ _ | exact (ext_alloc _ _).drew | exact (ext_alloc _ _).trans (ext_alloc _ _) | exact ((ext_alloc _ _).trans (ext_alloc _ _)).drew) fc (by first | exact Ext.refl _ | exact (Ext.refl _).drew | exact ext_alloc _ _ | exact (ext_alloc _ _).drew | exact (ext_alloc _ _).trans (ext_alloc _ _) | exact ((ext_alloc _ _).trans (ext_alloc _ _)).drew) fs) | (obtain ⟨oT', rS, rC⟩ := two_rows (by decide) os0 oc0 (by first | exact Ext.refl _ | exact (Ext.refl _).drew | exact ext_alloc _ _ | exact (ext_alloc _ _).drew | exact (ext_alloc _ _).trans (ext_alloc _ _) | exact ((ext_alloc _ _).trans (ext_alloc _ _)).drew) fs (by first | exact Ext.refl _ | exact (Ext.refl _).drew | exact ext_alloc _ _ | exact (ext_alloc _ _).drew | exact (ext_alloc _ _).trans (ext_alloc _ _) | exact ((ext_alloc _ _).trans (ext_alloc _ _)).drew) fc; have oT := oT'.mono fun r _ e => Or.symm e)); have rC' : RowTo W5 _ B 64 5 (.slice CA nc cc) (.slice (some ⟨g4, 0, none⟩) (nc + 1) cp4) c.length ((c.map Laid.cells).flatten ++ x.cells) := (by rw [Hnc.out, Hxc.out]; exact rC); have rS' : RowTo W5 _ B 130 1 (.slice SA na sc) (.slice (some ⟨g5, 0, none⟩) (na + 1) cp5) all.length (all.map uv ++ [uv m]) := (by rw [Hna.out]; exact rS); have hh2 := H5.out.deeper cl oT rC' rS'; have nGr := hh2.spot_turn; have nAT := hh2.no_turn (Hbx5.out.only oT (fun e => e.elim hCa hSa)) (Or.inl rfl) HS.out.free; refine (IH.out (c ++ [x]) (all ++ [m]) (cov ||| m) _ (nc + 1) _ _ (na + 1) _ _ _ Fp2 (by rw [List.length_append, Hnc.out]; rfl) (by rw [List.length_append, Hna.out]; rfl) (by have h1 := Hlz2.out; have h2 := Hf.out; rw [Hz.out] at h2; omega) Hp2.out hh2).mono ?_; rintro e w7 hpost; have hD := H5.out.dug oT rC' rS' hpost; obtain ⟨⟨v7, rfl⟩, Fp7, hh7, hs7, ho7⟩ := hpost))
                        all_goals (go_wp2_with fail; go_meet; exact ⟨rfl, hD⟩)
                      case rest =>
                        obtain ⟨rfl, hD⟩ := hcut
                        have HD := Lib.hid hD
                        obtain ⟨Fp7, hh7, -, -⟩ := hD
                        clear a2 c9 lcell hlk a6 a7 f7 tb hlb g5 x50 x51 x52
                        have a6 := hh7.env.lft.cell
                        rw [leftL_len] at a6
                        have a7 := hh7.env.rest.cell i
                        rw [intsA_get, leftL_get hlt, leftN_snoc, if_pos Hxp.out, Hq.out] at a7
                        simp only [Option.map_some, iv] at a7
                        have f7 := hh7.env.rest.frozen i
                        clear hh7
                        go_wp2_with fail
                        go_roundw
                        case rel =>
                          obtain ⟨Fp8, hs8, hb8, hf8⟩ := HS.out.after cl Hxp.out BT hTF.out (by rw [Hq.out, HW5.out]; exact HD.out)
                          rw [leftN_snoc, if_pos Hxp.out, Hq.out, show q - 1 + 1 = q by omega] at hs8 hb8
                          refine ⟨1 + 1, Fp8, by omega, by go_num, Lib.hid ?_, hb8, Lib.hid hf8⟩
                          rw [Hst.out]
                          unfold kidS
                          simp only [Hsome.out, Hz.out, Hx.out]
                          exact hs8
                        case measure => simp only [intOf]; omega
                    · have Hno : Hid (kidOk s l c cov i true = none) := Lib.hid (by rw [Hkid.out]; exact if_pos (Or.inr hand))
                      have e1 : (bits .and .u32 (m : Int) (cov : Int) != 0) = true := by rw [hb0]; simp; omega
                      clear hb0
                      go_wp2_with fail
                      go_roundw
                      case rel => exact ⟨1 + 1, Fp2, by omega, by go_num, by rw [Hst.out]; unfold kidS; rw [Hno.out]; exact HS, BT, hTF⟩
                      case measure => simp only [intOf]; omega
              · go_wp2_with fail
                go_roundw
                case rel => exact ⟨i + 1, Fp2, by omega, by go_num, by rw [show 2 * (i + 1) = 2 * i + 2 by omega]; exact HS⟩
                case measure => simp only [intOf]; omega
          · obtain rfl : i = l.length := by omega
            go_wp2_with fail
            go_end0
            refine ⟨⟨_, rfl⟩, Fp1, ?_, HS.out.sub, HS.out.only⟩
            rw [growS_go longF seeF s l (by rw [Hnc.out]; exact Hb.out) (by rw [Hz.out]; exact hzF)]
            exact HS.out.here
    · go_wp2_with fail
      go_end0
      refine ⟨⟨_, rfl⟩, Fp, ?_, fun r hr => Or.inl hr, Only.of_ext _ E1⟩
      have e1 : growS longF seeF s l (f + 1) st c all cov = st := by
        show (if _ then _ else _) = _
        rw [Hnc.out, Hb.out, if_pos rfl]
      rw [e1]
      exact H1.out
end Go.Proofs.YtaaeapjnjjbglaaDoor
