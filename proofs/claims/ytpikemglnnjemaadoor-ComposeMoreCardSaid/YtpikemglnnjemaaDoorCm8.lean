/- hangs of the program. weak of the program. firstOf: whether a composition is better than the best one so far. The search for compositions: plain. The search's order, and what is found by it: plain. -/
import Derived.Test.YtpikemglnnjemaaDoorCm7

namespace Go.Proofs.YtpikemglnnjemaaDoor
open Go.RowKit

theorem sets_at {w : World} {SA : Option Addr} {sc : Nat} {out : List Nat} (h : SliceIs w SA out.length sc 1 (out.map fun m => [uv m])) {k : Nat} (hk : k < out.length) :
    ∃ b off, SA = some ⟨b, off, none⟩ ∧ b < w.heap.size ∧ w.cell? ⟨b, off + k, none⟩ = some (.int .u32 (outAt out k : Nat)) := by
  obtain ⟨b, off, hA, hb, hc⟩ := SliceIs.cells h (by omega)
  have hr : (out.map fun m => [uv m])[k]? = some [uv (outAt out k)] := by
    rw [List.getElem?_map, List.getElem?_eq_getElem hk]
    unfold outAt
    rw [List.getD_eq_getElem?_getD, List.getElem?_eq_getElem hk]
    rfl
  have := hc k _ hr 0 _ rfl
  simp only [Nat.mul_one, Nat.add_zero] at this
  exact ⟨b, off, hA, hb, this⟩
theorem upN_small {s : Shape} (ok : s.Ok) {m : Nat} (hm : m < 4294967296) : upN (abv s) m < 65536 := by
  have : upN (abv s) m < 2 ^ 16 := by
    apply Nat.lt_pow_two_of_testBit
    intro i hi
    cases hb : (upN (abv s) m).testBit i
    · rfl
    · rw [upN_bits (by omega)] at hb
      obtain ⟨n, hn, e⟩ := hb
      have hg : (abv s)[n]? = some (i : Int) := by
        rw [List.getD_eq_getElem?_getD] at e
        cases h : (abv s)[n]? with
        | none => rw [h] at e; simp at e
        | some a => rw [h] at e; simp at e; rw [e]
      rcases abv_lo hg with h | h
      · have := ok.full
        omega
      · exact absurd ok h
  omega
theorem band_eq {a b r : Nat} (h : a &&& b = r) (ha : a < 65536) (hb : b < 65536) : bits .and .u32 (a : Int) (b : Int) = (r : Int) := by rw [bits_and ha hb, h]

set_option maxRecDepth 100000 in
set_option maxHeartbeats 8000000 in
theorem hangs_c (g : Nat) (s : Shape) (A : Option Addr) (cap : Nat) (l : List Plate) (PA : Option Addr) (pcap : Nat) (NA : Option Addr) (ncap : Nat) (AA : Option Addr) (acap : Nat) (EA : Option Addr) (ec : Nat) (OA : Option Addr) (oc : Nat) (LA : Option Addr) (lc : Nat) (ms : List Nat)
    (c : List Laid) (out : List Nat) (SA : Option Addr) (sc : Nat) (ha : Apart s l c out) (hclen : c.length ≤ 1000) (w : World) (hB : Board w g s A cap l PA pcap NA ncap AA acap EA ec OA oc LA lc ms) (hS : SliceIs w SA out.length sc 1 (out.map fun m => [uv m])) (hT : TzTab w) :
    Calls Tryd.prog 49 #[.pointer (some ⟨g, 0, none⟩), .slice SA out.length sc] w fun e w' => e = .returned (.bool (hangB s l c)) ∧ Ext w w' := by
  have ok := ha.ok
  have hol := ha.len
  have hpos : 0 < out.length := by rw [hol]; exact ha.pos
  have hol1 : out.length ≤ 1000 := by omega
  obtain ⟨sb, soff, hSA, hsb, s0⟩ := sets_at hS hpos
  subst hSA
  have Hol := Lib.hid hol
  rw [Nat.add_zero] at s0
  clear hol
  have HA := Lib.hid ha
  clear ha
  go_enter Tryd.func49, Tryd.ntmps49
  go_wp2_with fail
  go_loopw [5, 6] (fun iv ch wr => ∃ (m : Nat) (b : Bool), iv = .int .u32 (m : Int) ∧ ch = .bool b ∧ Hid (InU s l c out m ∧ (b = false → ∀ k, k < c.length → condU (abv s) (outAt out k) m = false)) ∧ m < 65536 ∧ Ext w wr) (fun iv ch _ => 2 * (65536 - (intOf iv).toNat) + flag ch)
  case atStart => exact ⟨outAt out 0, true, rfl, rfl, Lib.hid ⟨InU.start HA.out, fun h => by cases h⟩, HA.out.small (by rw [← Hol.out]; exact hpos), Ext.refl _⟩
  case round =>
    clear s0
    obtain ⟨m, b, rfl, rfl, HI, hm, E⟩ := hrel
    cases b
    · have Hr := Lib.hid (InU.done HA.out HI.out.1 (HI.out.2 rfl))
      have c6 := (hB.ext E).c6
      by_cases he : pop m = fullN s.cells
      · have He := Lib.hid he
        have e1 : ((pop m : Int) == (fullN s.cells : Int)) = true := by simp [he]
        clear he
        go_wp2_with fail
        refine wp_region_grow (by kernel_rfl) (by kernel_rfl) ?_
        repeat (go_big_quiet_step (((go_at_call 87; exact quiet_ext (ones_c m (by omega) _)))))
        refine wpQuiet_nil ?_
        intro W7 hW7
        have E7 : Ext wr W7 := by
          obtain ⟨x, rfl⟩ := hW7
          exact (Ext.refl _).grow x
        clear hW7
        obtain ⟨hcW7, hfW7, hzW7⟩ := ext_facts E7
        go_wp2_with fail
        go_ret
        exact ⟨by rw [Hr.out, decide_eq_true He.out] <;> rfl, E.trans E7⟩
      · have He := Lib.hid he
        have e1 : ((pop m : Int) == (fullN s.cells : Int)) = false := by simp; omega
        clear he
        go_wp2_with fail
        refine wp_region_grow (by kernel_rfl) (by kernel_rfl) ?_
        repeat (go_big_quiet_step (((go_at_call 87; exact quiet_ext (ones_c m (by omega) _)))))
        refine wpQuiet_nil ?_
        intro W7 hW7
        have E7 : Ext wr W7 := by
          obtain ⟨x, rfl⟩ := hW7
          exact (Ext.refl _).grow x
        clear hW7
        obtain ⟨hcW7, hfW7, hzW7⟩ := ext_facts E7
        go_wp2_with fail
        go_ret
        exact ⟨by rw [Hr.out, decide_eq_false He.out] <;> rfl, E.trans E7⟩
    · obtain ⟨wo, rfl⟩ : ∃ wo : World, wo = wr := ⟨_, rfl⟩
      go_wp2_with fail
      go_loopw [5, 6, 15] (fun iv ch kv wr => ∃ (m' k : Nat) (b : Bool), k ≤ out.length ∧ iv = .int .u32 (m' : Int) ∧ ch = .bool b ∧ kv = .int .i64 k ∧ Hid (PassU s l c out m m' b k) ∧ m' < 65536 ∧ Ext w wr) (fun _ _ kv _ => out.length - (intOf kv).toNat)
      case atStart => exact ⟨m, 0, false, by omega, rfl, rfl, rfl, Lib.hid (PassU.start HI.out.1), hm, E⟩
      case round =>
        clear E
        obtain ⟨m', k, b, hk, rfl, rfl, rfl, HP, hm', E⟩ := hrel
        by_cases hlt : k < out.length
        · obtain ⟨sb', soff', hA', hsb', sk⟩ := sets_at (hS.ext E) hlt
          cases hA'
          have hkc : k < c.length := by rw [← Hol.out]; exact hlt
          have hks := HA.out.small hkc
          obtain ⟨x, hx⟩ : ∃ x, outAt out k = x := ⟨_, rfl⟩
          rw [hx] at sk hks
          have Hx := Lib.hid hx
          have hxF : ∀ b, x.testBit b = true → b < fullN s.cells := fun b hb => HA.out.lt k b hkc (by rw [Hx.out]; exact hb)
          have HxF := Lib.hid hxF
          have HmF : Hid (∀ b, m'.testBit b = true → b < fullN s.cells) := Lib.hid (fun b hb => InU.lt HA.out HP.out.inu hb)
          clear hx hxF
          obtain ⟨r0, hr0⟩ : ∃ r0, x &&& m' = r0 := ⟨_, rfl⟩
          have hb0 := band_eq hr0 hks hm'
          by_cases h0 : r0 = 0
          · have H0 : Hid (x &&& m' = 0) := Lib.hid (by rw [hr0, h0])
            have e0 : ((r0 : Int) == 0) = true := by simp [h0]
            clear hr0 h0
            have hum := upN_small ok (m := m') (by omega)
            have hux := upN_small ok (m := x) (by omega)
            obtain ⟨r1, hr1⟩ : ∃ r1, x &&& upN (abv s) m' = r1 := ⟨_, rfl⟩
            have hb1 := band_eq hr1 hks hum
            obtain ⟨r2, hr2⟩ : ∃ r2, upN (abv s) x &&& m' = r2 := ⟨_, rfl⟩
            have hb2 := band_eq hr2 hux hm'
            by_cases h1 : r1 = 0
            · have H1 : Hid (x &&& upN (abv s) m' = 0) := Lib.hid (by rw [hr1, h1])
              have e1 : ((r1 : Int) != 0) = false := by simp [h1]
              clear hr1 h1
              by_cases h2 : r2 = 0
              · have Hno : Hid (condU (abv s) (outAt out k) m' = false) := Lib.hid (by
                  rw [Hx.out]
                  unfold condU
                  simp [H1.out, hr2, h2])
                have e2 : ((r2 : Int) != 0) = false := by simp [h2]
                clear hr2 h2
                go_wp2_with fail
                refine (up_c g s A cap l PA pcap NA ncap AA acap EA ec OA oc LA lc ms ok m' (by omega) HmF.out _ (hB.ext E) (hT.ext E)).mono ?_
                rintro e w2 ⟨rfl, E2⟩
                obtain ⟨hcw2, hfw2, hzw2⟩ := ext_facts E2
                go_wp2_with fail
                refine (up_c g s A cap l PA pcap NA ncap AA acap EA ec OA oc LA lc ms ok x (by omega) HxF.out _ (hB.ext (E.trans E2)) (hT.ext (E.trans E2))).mono ?_
                rintro e w3 ⟨rfl, E3⟩
                obtain ⟨hcw3, hfw3, hzw3⟩ := ext_facts E3
                go_wp2_with fail
                go_roundw
                case rel => exact ⟨m', k + 1, b, by omega, rfl, rfl, by go_num, Lib.hid (HP.out.same Hno.out), hm', (E.trans E2).trans E3⟩
                case measure => simp only [intOf]; omega
              · have Hyes : Hid (condU (abv s) x m' = true) := Lib.hid (condU_iff.2 ⟨H0.out, Or.inr (by rw [hr2]; exact h2)⟩)
                have e2 : ((r2 : Int) != 0) = true := by simp; omega
                clear hr2 h2
                go_wp2_with fail
                refine (up_c g s A cap l PA pcap NA ncap AA acap EA ec OA oc LA lc ms ok m' (by omega) HmF.out _ (hB.ext E) (hT.ext E)).mono ?_
                rintro e w2 ⟨rfl, E2⟩
                obtain ⟨hcw2, hfw2, hzw2⟩ := ext_facts E2
                go_wp2_with fail
                refine (up_c g s A cap l PA pcap NA ncap AA acap EA ec OA oc LA lc ms ok x (by omega) HxF.out _ (hB.ext (E.trans E2)) (hT.ext (E.trans E2))).mono ?_
                rintro e w3 ⟨rfl, E3⟩
                obtain ⟨hcw3, hfw3, hzw3⟩ := ext_facts E3
                have hor : bits .or .u32 (m' : Int) (x : Int) = ((m' ||| x : Nat) : Int) := bits_or hm' hks
                have hsm : m' ||| x < 65536 := by
                  have := Nat.or_lt_two_pow (x := m') (y := x) (n := 16) (by omega) (by omega)
                  omega
                go_wp2_with fail
                go_roundw
                case rel => exact ⟨m' ||| x, k + 1, true, by omega, rfl, rfl, by go_num, Lib.hid (by have := HP.out.more HA.out hkc (by rw [Hx.out]; exact Hyes.out); rw [Hx.out] at this; exact this), hsm, (E.trans E2).trans E3⟩
                case measure => simp only [intOf]; omega
            · have Hyes : Hid (condU (abv s) x m' = true) := Lib.hid (condU_iff.2 ⟨H0.out, Or.inl (by rw [hr1]; exact h1)⟩)
              have e1 : ((r1 : Int) != 0) = true := by simp; omega
              clear hr1 hr2 h1
              go_wp2_with fail
              refine (up_c g s A cap l PA pcap NA ncap AA acap EA ec OA oc LA lc ms ok m' (by omega) HmF.out _ (hB.ext E) (hT.ext E)).mono ?_
              rintro e w2 ⟨rfl, E2⟩
              obtain ⟨hcw2, hfw2, hzw2⟩ := ext_facts E2
              have hor : bits .or .u32 (m' : Int) (x : Int) = ((m' ||| x : Nat) : Int) := bits_or hm' hks
              have hsm : m' ||| x < 65536 := by
                have := Nat.or_lt_two_pow (x := m') (y := x) (n := 16) (by omega) (by omega)
                omega
              go_wp2_with fail
              go_roundw
              case rel => exact ⟨m' ||| x, k + 1, true, by omega, rfl, rfl, by go_num, Lib.hid (by have := HP.out.more HA.out hkc (by rw [Hx.out]; exact Hyes.out); rw [Hx.out] at this; exact this), hsm, E.trans E2⟩
              case measure => simp only [intOf]; omega
          · have Hno : Hid (condU (abv s) (outAt out k) m' = false) := Lib.hid (by
              rw [Hx.out]
              unfold condU
              simp [hr0, h0])
            have e0 : ((r0 : Int) == 0) = false := by simp; omega
            clear hr0 h0
            go_wp2_with fail
            go_roundw
            case rel => exact ⟨m', k + 1, b, by omega, rfl, rfl, by go_num, Lib.hid (HP.out.same Hno.out), hm', E⟩
            case measure => simp only [intOf]; omega
        · obtain rfl : k = out.length := by omega
          have h2 := HP.out.le
          have h3 := HP.out.yes
          have Hno : Hid (b = false → ∀ k, k < c.length → condU (abv s) (outAt out k) m' = false) := Lib.hid (fun hb j hj => HP.out.no hb j (by rw [Hol.out]; exact hj))
          go_wp2_with fail
          go_roundw
          case rel => exact ⟨m', b, rfl, rfl, Lib.hid ⟨HP.out.inu, Hno.out⟩, hm', E⟩
          case measure =>
            cases b
            · simp only [intOf, flag]; omega
            · have := h3 rfl
              simp only [intOf, flag]; omega
end Go.Proofs.YtpikemglnnjemaaDoor

namespace Go.Proofs.YtpikemglnnjemaaDoor
open Go.RowKit

theorem bit_val {x a : Nat} {p : Bool} (h : x.testBit a = p) (hx : x < 65536) : bits .and .u32 ((x : Int) / 2 ^ a) 1 = if p then 1 else 0 := by
  have e : (x : Int) / 2 ^ a = ((x / 2 ^ a : Nat) : Int) := by rw [Int.natCast_ediv, Int.natCast_pow]; rfl
  have h1 : x / 2 ^ a < 65536 := Nat.lt_of_le_of_lt (Nat.div_le_self _ _) hx
  rw [e, show (1 : Int) = ((1 : Nat) : Int) from rfl, bits_and h1 (by omega), Nat.and_one_is_mod]
  rw [Nat.testBit_eq_decide_div_mod_eq] at h
  cases p
  · rw [decide_eq_false_iff_not] at h
    simp
    omega
  · rw [decide_eq_true_eq] at h
    rw [h]
    rfl
set_option maxRecDepth 100000 in
set_option maxHeartbeats 4000000 in
theorem both_c (x a b : Nat) (hx : x < 65536) (ha : a < 16) (hb : b < 16) (P : Nat) (w : World) (hP : Blk w P 145 #[.int .i64 (a : Int), .int .i64 (b : Int)]) :
    Calls Tryd.prog 91 #[.int .u32 (x : Int), .pointer (some ⟨P, 0, none⟩)] w fun e w' => e = .returned (.bool (x.testBit a && x.testBit b)) ∧ w = w' := by
  have p0 := hP.cell 0
  have p1 := hP.cell 1
  simp at p0 p1
  obtain ⟨p, hp⟩ : ∃ p, x.testBit a = p := ⟨_, rfl⟩
  obtain ⟨q, hq⟩ : ∃ q, x.testBit b = q := ⟨_, rfl⟩
  have vp := bit_val hp hx
  have vq := bit_val hq hx
  rw [hp, hq]
  clear hp hq
  cases p
  · simp only [Bool.false_eq_true, if_false] at vp
    go_enter Tryd.func91, Tryd.ntmps91
    go_wp2_with fail
    go_ret
    exact ⟨rfl, rfl⟩
  · cases q
    · simp only [Bool.false_eq_true, if_false] at vq
      simp only [if_true] at vp
      go_enter Tryd.func91, Tryd.ntmps91
      go_wp2_with fail
      go_ret
      exact ⟨rfl, rfl⟩
    · simp only [if_true] at vp vq
      go_enter Tryd.func91, Tryd.ntmps91
      go_wp2_with fail
      go_ret
      exact ⟨rfl, rfl⟩
def bothB (a b : Nat) (x : Nat) : Bool := x.testBit a && x.testBit b
theorem both_is {x a b : Nat} {r : Bool} (h : bothB a b x = r) (hx : x < 65536) (ha : a < 16) (hb : b < 16) (P : Nat) (w : World) (hP : Blk w P 145 #[.int .i64 (a : Int), .int .i64 (b : Int)]) :
    Calls Tryd.prog 91 #[.int .u32 (x : Int), .pointer (some ⟨P, 0, none⟩)] w fun e w' => e = .returned (.bool r) ∧ w = w' := by
  rw [← h]
  exact both_c x a b hx ha hb P w hP
set_option maxRecDepth 100000 in
set_option maxHeartbeats 4000000 in
theorem indexBoth_c (SA : Option Addr) (sc : Nat) (out : List Nat) (a b P : Nat) (ha : a < 16) (hb : b < 16) (hsm : ∀ i, i < out.length → outAt out i < 65536) (hol : out.length ≤ 1000) (w : World) (hS : SliceIs w SA out.length sc 1 (out.map fun m => [uv m])) (hP : Blk w P 145 #[.int .i64 (a : Int), .int .i64 (b : Int)]) :
    Calls Tryd.prog 123 #[.slice SA out.length sc, .func (.func 91) #[] #[.pointer (some ⟨P, 0, none⟩)]] w fun e w' => (∃ r, e = .returned (.int .i64 r) ∧ decide (0 ≤ r) = out.any (bothB a b)) ∧ w = w' := by
  have Hsm := Lib.hid hsm
  clear hsm
  go_enter Tryd.func123, Tryd.ntmps123
  go_wp2
  go_loop [8] (fun i => ∃ k : Nat, k ≤ out.length ∧ i = .int .i64 k ∧ Hid (∀ j, j < k → bothB a b (outAt out j) = false)) (fun i => out.length - (intOf i).toNat)
  case atStart => exact ⟨0, by omega, rfl, Lib.hid fun j hj => by omega⟩
  case round =>
    obtain ⟨k, hk, rfl, Hj⟩ := hrel
    by_cases hlt : k < out.length
    · obtain ⟨sb, soff, rfl, hsb, sk⟩ := sets_at hS hlt
      have hx := Hsm.out k hlt
      obtain ⟨x, ex⟩ : ∃ x, outAt out k = x := ⟨_, rfl⟩
      rw [ex] at sk hx
      have Hx := Lib.hid ex
      clear ex
      obtain ⟨r, hr⟩ : ∃ r, bothB a b x = r := ⟨_, rfl⟩
      have Hr := Lib.hid hr
      clear hr
      cases r
      · go_wp2_with (go_at_call 91; refine (both_is Hr.out hx ha hb P _ hP).mono ?_; rintro e w' ⟨rfl, rfl⟩)
        go_round
        case rel =>
          refine ⟨k + 1, by omega, by go_num, Lib.hid fun j hj => ?_⟩
          rcases Nat.lt_or_ge j k with h | h
          · exact Hj.out j h
          · obtain rfl : j = k := by omega
            rw [Hx.out]
            exact Hr.out
        case measure => simp only [intOf]; omega
      · go_wp2_with (go_at_call 91; refine (both_is Hr.out hx ha hb P _ hP).mono ?_; rintro e w' ⟨rfl, rfl⟩)
        go_ret
        refine ⟨⟨k, rfl, ?_⟩, rfl⟩
        have : out.any (bothB a b) = true := by
          rw [List.any_eq_true]
          refine ⟨outAt out k, ?_, by rw [Hx.out]; exact Hr.out⟩
          unfold outAt
          rw [List.getD_eq_getElem?_getD, List.getElem?_eq_getElem hlt]
          exact List.getElem_mem hlt
        simp [this]
    · obtain rfl : k = out.length := by omega
      go_wp2
      go_ret
      refine ⟨⟨-1, rfl, ?_⟩, rfl⟩
      have : out.any (bothB a b) = false := by
        rw [List.any_eq_false]
        intro x hx
        obtain ⟨j, hj⟩ := List.getElem?_of_mem hx
        have hjl := (List.getElem?_eq_some_iff.1 hj).1
        have := Hj.out j hjl
        unfold outAt at this
        rw [List.getD_eq_getElem?_getD, hj] at this
        simp at this
        simp [this]
      simp [this]
set_option maxHeartbeats 4000000 in
theorem containsBoth_c (SA : Option Addr) (sc : Nat) (out : List Nat) (a b P : Nat) (ha : a < 16) (hb : b < 16) (hsm : ∀ i, i < out.length → outAt out i < 65536) (hol : out.length ≤ 1000) (w : World) (hS : SliceIs w SA out.length sc 1 (out.map fun m => [uv m])) (hP : Blk w P 145 #[.int .i64 (a : Int), .int .i64 (b : Int)]) :
    Calls Tryd.prog 90 #[.slice SA out.length sc, .func (.func 91) #[] #[.pointer (some ⟨P, 0, none⟩)]] w fun e w' => e = .returned (.bool (out.any (bothB a b))) ∧ w = w' := by
  have Hsm := Lib.hid hsm
  clear hsm
  go_enter Tryd.func90, Tryd.ntmps90
  go_wp2_with (go_at_call 123; refine (indexBoth_c SA sc out a b P ha hb Hsm.out hol _ hS hP).mono ?_; rintro e w' ⟨⟨r, rfl, hr⟩, rfl⟩)
  go_ret
  exact ⟨by rw [← hr]; rfl, rfl⟩

/-! ### seam -/
theorem seamE_any (out : List Nat) (p : Int × Int) : seamE out p = !(out.any (bothB p.1.toNat p.2.toNat)) := rfl
set_option maxRecDepth 100000 in
set_option maxHeartbeats 4000000 in
theorem seam1_c (g : Nat) (s : Shape) (A : Option Addr) (cap : Nat) (l : List Plate) (PA : Option Addr) (pcap : Nat) (NA : Option Addr) (ncap : Nat) (AA : Option Addr) (acap : Nat) (EA : Option Addr) (ec : Nat) (OA : Option Addr) (oc : Nat) (LA : Option Addr) (lc : Nat) (ms : List Nat)
    (out : List Nat) (SA : Option Addr) (sc : Nat) (S : Nat) (i : Nat) (p : Int × Int) (ok : s.Ok) (hp : (eds s)[i]? = some p) (r : Bool) (hr : seamE out p = r) (hsm : ∀ i, i < out.length → outAt out i < 65536) (hol : out.length ≤ 1000) (w : World) (hB : Board w g s A cap l PA pcap NA ncap AA acap EA ec OA oc LA lc ms)
    (hS : SliceIs w SA out.length sc 1 (out.map fun m => [uv m])) (C1 : Blk w S 91 #[.pointer (some ⟨g, 0, none⟩)]) (C2 : Blk w (S + 1) 92 #[.slice SA out.length sc]) :
    Calls Tryd.prog 89 #[.int .i64 (i : Int), .pointer (some ⟨S, 0, none⟩), .pointer (some ⟨S + 1, 0, none⟩)] w fun e w' => e = .returned (.bool r) ∧ Ext w w' := by
  have hil : i < (eds s).length := (List.getElem?_eq_some_iff.1 hp).1
  obtain ⟨b, off, p', rfl, hp', hb, e0, e1⟩ := pair_at hB.edges hil
  rw [hp] at hp'
  cases hp'
  have hbd := edges_bd ok (Nat.le_refl _) p (List.mem_of_getElem? hp)
  have hel : (eds s).length ≤ 1000 := by
    have h1 := edgesS_len s s.cells.length
    have h2 := s.len_le ok
    show (edgesS s s.cells.length).length ≤ 1000
    omega
  obtain ⟨p1, p2⟩ := p
  obtain ⟨a, rfl⟩ := Int.eq_ofNat_of_zero_le hbd.1.1
  obtain ⟨c, rfl⟩ := Int.eq_ofNat_of_zero_le hbd.2.1
  have Hr : Hid (out.any (bothB a c) = !r) := Lib.hid (by rw [← hr, seamE_any]; simp)
  have c7 := hB.c7
  have c1 := C1.cell
  have c2 := C2.cell
  have Hsm := Lib.hid hsm
  have hF := ok.full
  have l1 := C1.lt
  have l2 := C2.lt
  have a16 : a < 16 := by omega
  have c16 : c < 16 := by omega
  clear hr hsm hp hbd
  go_enter Tryd.func89, Tryd.ntmps89
  go_wp2_with fail
  have B1 := Blk.new w #[.int .i64 (a : Int), .int .i64 (c : Int)] 145
  refine (containsBoth_c SA sc out a c w.heap.size (by omega) (by omega) Hsm.out hol _ (hS.ext ((Ext.refl w).alloc _)) B1).mono ?_
  rintro e w2 ⟨rfl, rfl⟩
  rw [Hr.out]
  go_wp2_with fail
  go_ret
  exact ⟨by simp, (Ext.refl w).alloc _⟩
end Go.Proofs.YtpikemglnnjemaaDoor

namespace Go.Proofs.YtpikemglnnjemaaDoor
open Go.RowKit

set_option maxHeartbeats 1000000 in
theorem lessLen_c (CA : Option Addr) (n cc : Nat) (a : Int) (BA : Option Addr) (m bc : Nat) (b : Int) (_hn : n ≤ 1000) (_hm : m ≤ 1000) (ha : 0 ≤ a ∧ a ≤ 100000) (hb : 0 ≤ b ∧ b ≤ 100000) (w : World) :
    Calls Tryd.prog 70 #[.agg #[.slice CA n cc, .int .i64 a], .agg #[.slice BA m bc, .int .i64 b]] w fun e w' => e = .returned (.int .i64 ((n : Int) - m)) ∧ Ext w w' := by
  obtain ⟨W1, hW1, E1, B1, hz1⟩ := box_ w #[.slice CA n cc, .int .i64 a] 111
  obtain ⟨W2, hW2, E2, B2, hz2⟩ := box_ W1 #[.slice BA m bc, .int .i64 b] 111
  rw [hz1] at B2
  have D1 := B1.ext E2
  have d0 := D1.cell 0
  have d1 := D1.cell 1
  have e0 := B2.cell 0
  have e1 := B2.cell 1
  obtain ⟨ha1, ha2⟩ := ha
  obtain ⟨hb1, hb2⟩ := hb
  go_enter Tryd.func70, Tryd.ntmps70
  go_wp2_with fail
  go_ret
  exact ⟨rfl, E1.trans E2⟩
set_option maxHeartbeats 1000000 in
theorem lessWeak_c (CA : Option Addr) (n cc : Nat) (a : Int) (BA : Option Addr) (m bc : Nat) (b : Int) (_hn : n ≤ 1000) (_hm : m ≤ 1000) (ha : 0 ≤ a ∧ a ≤ 100000) (hb : 0 ≤ b ∧ b ≤ 100000) (w : World) :
    Calls Tryd.prog 71 #[.agg #[.slice CA n cc, .int .i64 a], .agg #[.slice BA m bc, .int .i64 b]] w fun e w' => e = .returned (.int .i64 (a - b)) ∧ Ext w w' := by
  obtain ⟨W1, hW1, E1, B1, hz1⟩ := box_ w #[.slice CA n cc, .int .i64 a] 111
  obtain ⟨W2, hW2, E2, B2, hz2⟩ := box_ W1 #[.slice BA m bc, .int .i64 b] 111
  rw [hz1] at B2
  have D1 := B1.ext E2
  have d0 := D1.cell 0
  have d1 := D1.cell 1
  have e0 := B2.cell 0
  have e1 := B2.cell 1
  obtain ⟨ha1, ha2⟩ := ha
  obtain ⟨hb1, hb2⟩ := hb
  go_enter Tryd.func71, Tryd.ntmps71
  go_wp2_with fail
  go_ret
  exact ⟨rfl, E1.trans E2⟩

def firstB (n : Nat) (a : Int) (m : Nat) (b : Int) : Bool := decide (n < m) || (decide (n = m) && decide (a < b))
theorem firstNil_c (CA : Option Addr) (n cc : Nat) (a : Int) (F : Value) (w : World) :
    Calls Tryd.prog 69 #[.pointer none, .agg #[.slice CA n cc, .int .i64 a], F] w fun e w' => e = .returned (.bool true) ∧ Ext w w' := by
  obtain ⟨W1, hW1, E1, B1, hz1⟩ := box_ w #[.slice CA n cc, .int .i64 a] 111
  go_enter Tryd.func69, Tryd.ntmps69
  go_wp2_with fail
  go_ret
  exact ⟨rfl, E1⟩
set_option maxRecDepth 100000 in
set_option maxHeartbeats 4000000 in
theorem firstOf_c (M Fb : Nat) (CA : Option Addr) (n cc : Nat) (a : Int) (BA : Option Addr) (m bc : Nat) (b : Int) (hn : n ≤ 1000) (hm : m ≤ 1000) (ha : 0 ≤ a ∧ a ≤ 100000) (hb : 0 ≤ b ∧ b ≤ 100000) (w : World) (hM : Blk w M 111 #[.slice BA m bc, .int .i64 b])
    (hF : Blk w Fb 113 #[.func (.func 70) #[] #[], .func (.func 71) #[] #[]]) :
    Calls Tryd.prog 69 #[.pointer (some ⟨M, 0, none⟩), .agg #[.slice CA n cc, .int .i64 a], .slice (some ⟨Fb, 0, none⟩) 2 2] w fun e w' => e = .returned (.bool (firstB n a m b)) ∧ Ext w w' := by
  obtain ⟨W1, hW1, E1, B1, hz1⟩ := box_ w #[.slice CA n cc, .int .i64 a] 111
  have hM1 := hM.ext E1
  have hF1 := hF.ext E1
  obtain ⟨ha1, ha2⟩ := ha
  obtain ⟨hb1, hb2⟩ := hb
  clear hz1
  go_enter Tryd.func69, Tryd.ntmps69
  go_wp2_with fail
  clear hW1
  go_loopw [14] (fun iv wr => ∃ j : Nat, j ≤ 2 ∧ iv = .int .i64 j ∧ Hid ((1 ≤ j → n = m) ∧ (2 ≤ j → a = b)) ∧ Ext W1 wr) (fun iv _ => 2 - (intOf iv).toNat)
  case atStart => exact ⟨0, by omega, rfl, Lib.hid ⟨by omega, by omega⟩, Ext.refl _⟩
  case round =>
    obtain ⟨j, hj, rfl, HJ, E⟩ := hrel
    have b1 := (B1.ext E).cell
    have m1 := (hM1.ext E).cell
    have f1 := (hF1.ext E).cell
    obtain rfl | rfl | rfl : j = 0 ∨ j = 1 ∨ j = 2 := by omega
    · rcases Nat.lt_trichotomy n m with h | h | h
      · have Hr : Hid (firstB n a m b = true) := Lib.hid (by simp [firstB, h])
        have t1 : (((n : Int) - m) != 0) = true := by simp; omega
        have t2 : decide (((n : Int) - m) < 0) = true := by simp; omega
        go_wp2_with fail
        refine wp_region_grow (by kernel_rfl) (by kernel_rfl) ?_
        repeat (go_big_quiet_step (((go_at_call 70; exact quiet_ext (lessLen_c CA n cc a BA m bc b hn hm ⟨ha1, ha2⟩ ⟨hb1, hb2⟩ _)))))
        refine wpQuiet_nil ?_
        intro W3 hW3
        have E3 : Ext wr W3 := by
          obtain ⟨x, rfl⟩ := hW3
          exact (Ext.refl _).grow x
        clear hW3
        obtain ⟨hcW3, hfW3, hzW3⟩ := ext_facts E3
        go_wp2_with fail
        go_ret
        exact ⟨by rw [Hr.out] <;> rfl, (E1.trans E).trans E3⟩
      · have t1 : (((n : Int) - m) != 0) = false := by simp; omega
        have H1 : Hid ((1 ≤ 0 + 1 → n = m) ∧ (2 ≤ 0 + 1 → a = b)) := Lib.hid ⟨fun _ => h, by omega⟩
        clear h
        go_wp2_with fail
        refine wp_region_grow (by kernel_rfl) (by kernel_rfl) ?_
        repeat (go_big_quiet_step (((go_at_call 70; exact quiet_ext (lessLen_c CA n cc a BA m bc b hn hm ⟨ha1, ha2⟩ ⟨hb1, hb2⟩ _)))))
        refine wpQuiet_nil ?_
        intro W3 hW3
        have E3 : Ext wr W3 := by
          obtain ⟨x, rfl⟩ := hW3
          exact (Ext.refl _).grow x
        clear hW3
        obtain ⟨hcW3, hfW3, hzW3⟩ := ext_facts E3
        go_wp2_with fail
        go_roundw
        case rel => exact ⟨0 + 1, by omega, by go_num, H1, E.trans E3⟩
        case measure => simp only [intOf]; omega
      · have Hr : Hid (firstB n a m b = false) := Lib.hid (by simp [firstB]; omega)
        have t1 : (((n : Int) - m) != 0) = true := by simp; omega
        have t2 : decide (((n : Int) - m) < 0) = false := by simp; omega
        go_wp2_with fail
        refine wp_region_grow (by kernel_rfl) (by kernel_rfl) ?_
        repeat (go_big_quiet_step (((go_at_call 70; exact quiet_ext (lessLen_c CA n cc a BA m bc b hn hm ⟨ha1, ha2⟩ ⟨hb1, hb2⟩ _)))))
        refine wpQuiet_nil ?_
        intro W3 hW3
        have E3 : Ext wr W3 := by
          obtain ⟨x, rfl⟩ := hW3
          exact (Ext.refl _).grow x
        clear hW3
        obtain ⟨hcW3, hfW3, hzW3⟩ := ext_facts E3
        go_wp2_with fail
        go_ret
        exact ⟨by rw [Hr.out] <;> rfl, (E1.trans E).trans E3⟩
    · have hnm : n = m := HJ.out.1 (by omega)
      rcases Int.lt_trichotomy a b with h | h | h
      · have Hr : Hid (firstB n a m b = true) := Lib.hid (by simp [firstB, h, hnm])
        have t1 : ((a - b) != 0) = true := by simp; omega
        have t2 : decide ((a - b) < 0) = true := by simp; omega
        clear hnm
        go_wp2_with fail
        refine wp_region_grow (by kernel_rfl) (by kernel_rfl) ?_
        repeat (go_big_quiet_step (((go_at_call 71; exact quiet_ext (lessWeak_c CA n cc a BA m bc b hn hm ⟨ha1, ha2⟩ ⟨hb1, hb2⟩ _)))))
        refine wpQuiet_nil ?_
        intro W3 hW3
        have E3 : Ext wr W3 := by
          obtain ⟨x, rfl⟩ := hW3
          exact (Ext.refl _).grow x
        clear hW3
        obtain ⟨hcW3, hfW3, hzW3⟩ := ext_facts E3
        go_wp2_with fail
        go_ret
        exact ⟨by rw [Hr.out] <;> rfl, (E1.trans E).trans E3⟩
      · have t1 : ((a - b) != 0) = false := by simp; omega
        have H1 : Hid ((1 ≤ 1 + 1 → n = m) ∧ (2 ≤ 1 + 1 → a = b)) := Lib.hid ⟨fun _ => hnm, fun _ => h⟩
        clear h hnm
        go_wp2_with fail
        refine wp_region_grow (by kernel_rfl) (by kernel_rfl) ?_
        repeat (go_big_quiet_step (((go_at_call 71; exact quiet_ext (lessWeak_c CA n cc a BA m bc b hn hm ⟨ha1, ha2⟩ ⟨hb1, hb2⟩ _)))))
        refine wpQuiet_nil ?_
        intro W3 hW3
        have E3 : Ext wr W3 := by
          obtain ⟨x, rfl⟩ := hW3
          exact (Ext.refl _).grow x
        clear hW3
        obtain ⟨hcW3, hfW3, hzW3⟩ := ext_facts E3
        go_wp2_with fail
        go_roundw
        case rel => exact ⟨1 + 1, by omega, by go_num, H1, E.trans E3⟩
        case measure => simp only [intOf]; omega
      · have Hr : Hid (firstB n a m b = false) := Lib.hid (by simp [firstB, hnm]; omega)
        have t1 : ((a - b) != 0) = true := by simp; omega
        have t2 : decide ((a - b) < 0) = false := by simp; omega
        clear hnm
        go_wp2_with fail
        refine wp_region_grow (by kernel_rfl) (by kernel_rfl) ?_
        repeat (go_big_quiet_step (((go_at_call 71; exact quiet_ext (lessWeak_c CA n cc a BA m bc b hn hm ⟨ha1, ha2⟩ ⟨hb1, hb2⟩ _)))))
        refine wpQuiet_nil ?_
        intro W3 hW3
        have E3 : Ext wr W3 := by
          obtain ⟨x, rfl⟩ := hW3
          exact (Ext.refl _).grow x
        clear hW3
        obtain ⟨hcW3, hfW3, hzW3⟩ := ext_facts E3
        go_wp2_with fail
        go_ret
        exact ⟨by rw [Hr.out] <;> rfl, (E1.trans E).trans E3⟩
    · obtain ⟨hnm, hab⟩ := HJ.out
      have Hr : Hid (firstB n a m b = false) := Lib.hid (by simp [firstB, hnm (by omega), hab (by omega)])
      clear hnm hab
      go_wp2_with fail
      go_ret
      exact ⟨by rw [Hr.out] <;> rfl, E1.trans E⟩
end Go.Proofs.YtpikemglnnjemaaDoor

namespace Go.Proofs.YtpikemglnnjemaaDoor
open Go.RowKit

/-! ### the lowest cell that is not covered -/
def lowZ (cov : Nat) : Nat := Lib.ctz 32 (4294967295 - cov)
theorem lowZ_spec {cov : Nat} (h : cov < 65536) : cov.testBit (lowZ cov) = false ∧ lowZ cov < 32 ∧ ∀ j, j < lowZ cov → cov.testBit j = true := by
  obtain ⟨h1, h2, h3, _⟩ := low_bits (x := 4294967295 - cov) (by omega) (by omega)
  have e : ∀ j, (4294967295 - cov).testBit j = (decide (j < 32) && !cov.testBit j) := fun j => by
    have := Nat.testBit_two_pow_sub_succ (n := 32) (x := cov) (by omega) j
    rw [show 2 ^ 32 - (cov + 1) = 4294967295 - cov by omega] at this
    exact this
  refine ⟨?_, h2, fun j hj => ?_⟩
  · have := h1
    rw [e] at this
    simp only [Bool.and_eq_true, Bool.not_eq_true', decide_eq_true_eq] at this
    exact this.2
  · have := h3 j hj
    rw [e] at this
    have hj32 : decide (j < 32) = true := by
      have : j < 32 := Nat.lt_trans hj h2
      simpa using this
    rw [hj32, Bool.true_and] at this
    simpa using this
theorem lowZ_eq {cov n : Nat} (h : cov < 65536) (h1 : cov.testBit n = false) (h2 : ∀ j, j < n → cov.testBit j = true) : lowZ cov = n := by
  obtain ⟨a, _, b⟩ := lowZ_spec h
  rcases Nat.lt_trichotomy (lowZ cov) n with h' | h' | h'
  · rw [h2 _ h'] at a
    cases a
  · exact h'
  · rw [b _ h'] at h1
    cases h1

/-! ### plates at a place -/
def placeN (s : Shape) (n : Nat) : Nat := (placesS s s.cells.length).getD n 0
def laidN (s : Shape) (n i : Nat) (t : Bool) : Laid := ⟨i, s.px (placeN s n), s.py (placeN s n), s.pz (placeN s n), t⟩
theorem place_num {s : Shape} (ok : s.Ok) {n : Nat} (hn : n < fullN s.cells) : placeN s n < s.cells.length ∧ numOf s.cells (placeN s n) = n ∧ s.num (s.px (placeN s n)) (s.py (placeN s n)) (s.pz (placeN s n)) = n ∧ (placesS s s.cells.length)[n]? = some (placeN s n) := by
  obtain ⟨i, hi, e⟩ := numOf_surj (cs := s.cells) (k := s.cells.length) (b := n) (Nat.le_refl _) (by rw [List.take_length]; exact hn)
  have hg := placesS_get (s := s) (Nat.le_refl _) hi (by omega)
  rw [e, Int.toNat_natCast] at hg
  have hp : placeN s n = i := by
    unfold placeN
    rw [List.getD_eq_getElem?_getD, hg]
    rfl
  rw [hp]
  exact ⟨hi, e, by rw [num_place ok hi]; exact e, hg⟩
theorem cover_laidN {s : Shape} {l : List Plate} (ok : s.Ok) {n : Nat} (hn : n < fullN s.cells) (i : Nat) (t : Bool) : layAt s l (placeN s n) ((i : Int), t) = coverOf s l (laidN s n i t) := by
  obtain ⟨h1, h2, h3, _⟩ := place_num ok hn
  obtain ⟨p1, p2⟩ := s.place_in ok h1
  unfold layAt coverOf laidN Shape.colorAt
  simp only
  rw [if_pos p1, p2, Int.toNat_natCast]
/-- Whoever is at the place n is one of these. -/
theorem laidN_of {s : Shape} (ok : s.Ok) {x : Laid} {n : Nat} (hx : numL s x = n) (hp : 0 ≤ x.plate) : x = laidN s n x.plate.toNat x.turned := by
  have hn : n < fullN s.cells := by
    have := num_lt_full ok x.x x.y x.z
    unfold numL at hx
    omega
  obtain ⟨_, _, h3, _⟩ := place_num ok hn
  have hx' : s.num x.x x.y x.z = n := hx
  obtain ⟨e1, e2, e3⟩ := s.num_inj ok (by omega) (hx'.trans h3.symm)
  unfold laidN
  obtain ⟨p, a, b, c, t⟩ := x
  simp only at e1 e2 e3 hp ⊢
  rw [← e1, ← e2, ← e3, Int.toNat_of_nonneg hp]
theorem idx_le {s : Shape} (ok : s.Ok) {x y x' y' z : Int} (hx : x ≤ x') (hy : y ≤ y') : s.idx x y z ≤ s.idx x' y' z := by
  have w1 := ok.w
  unfold Shape.idx
  have : (z * s.D + y) * s.W ≤ (z * s.D + y') * s.W := Int.mul_le_mul_of_nonneg_right (by omega) (by omega)
  omega
/-- All cells of a plate have numbers from that of its place on. -/
theorem cover_ge {s : Shape} {l : List Plate} {x : Laid} {m b : Nat} (ok : s.Ok) (hm : coverOf s l x = some m) (h0 : 0 ≤ numL s x) (hb : m.testBit b = true) : numL s x ≤ b := by
  obtain ⟨_, u, v, z, hn⟩ := cover_lt ok hm hb
  have hh := (cover_bits ok hm hn).1 hb
  rw [hasB_iff] at hh
  obtain ⟨rfl, hx, hy⟩ := hh
  have i1 : s.inside x.x x.y x.z = true := num_in (by unfold numL at h0; omega)
  have i2 : s.inside u v x.z = true := num_in (by omega)
  have d1 := s.idx_in ok i1
  have d2 := s.idx_in ok i2
  have hle := idx_le ok (z := x.z) hx.1 hy.1
  unfold numL at h0 ⊢
  rw [← hn]
  rw [s.num_eq i1] at h0 ⊢
  rw [s.num_eq i2] at hn ⊢
  rcases Nat.lt_or_ge (s.idx x.x x.y x.z).toNat (s.idx u v x.z).toNat with h | h
  · have := (numOf_lt h0 (by omega)).2 h
    omega
  · have : (s.idx x.x x.y x.z).toNat = (s.idx u v x.z).toNat := by omega
    rw [this]
    exact Int.le_refl _
theorem cover_plate {s : Shape} {l : List Plate} {x : Laid} {m : Nat} (hm : coverOf s l x = some m) : 0 ≤ x.plate ∧ x.plate < l.length := by
  unfold coverOf layF at hm
  split at hm
  · assumption
  · cases hm
/-- A plate covers its own place. -/
theorem cover_self {s : Shape} {l : List Plate} {x : Laid} {m b : Nat} (ok : s.Ok) (okl : platesB l = true) (hm : coverOf s l x = some m) (hb : numL s x = b) : m.testBit b = true := by
  refine (cover_bits ok hm hb).2 ?_
  have hp := cover_plate hm
  have hget : l[x.plate.toNat]? = some (plateAt l x.plate.toNat) := by
    have hlt : x.plate.toNat < l.length := by omega
    have := List.getElem?_eq_getElem hlt
    rw [this, plateAt_eq this]
  have okp := plate_ok okl hget
  have h1 := okp.w
  have h2 := okp.d
  rw [hasB_iff]
  unfold sizeW sizeD
  refine ⟨rfl, ?_, ?_⟩ <;> split <;> omega

/-! ### what a beginning of a composition is -/
theorem laidAt_append {c d : List Laid} {k : Nat} (h : k < c.length) : laidAt (c ++ d) k = laidAt c k := by
  unfold laidAt
  rw [List.getD_eq_getElem?_getD, List.getD_eq_getElem?_getD, List.getElem?_append_left h]
theorem laidAt_mid (c : List Laid) (x : Laid) (d : List Laid) : laidAt (c ++ x :: d) c.length = x := by
  unfold laidAt
  rw [List.getD_eq_getElem?_getD, List.getElem?_append_right (Nat.le_refl _), Nat.sub_self]
  rfl
theorem usedN_append {c d : List Laid} {k : Nat} (h : k ≤ c.length) (p : Int) : usedN (c ++ d) k p = usedN c k p := by
  unfold usedN
  rw [List.take_append_of_le_length h]
theorem prevNum_append {s : Shape} {c d : List Laid} {k : Nat} (h : k ≤ c.length) : prevNum s (c ++ d) k = prevNum s c k := by
  cases k with
  | zero => rfl
  | succ k => show numL s _ = numL s _; rw [laidAt_append h]
theorem setRun_append {s : Shape} {l : List Plate} {c d : List Laid} : ∀ {k : Nat}, k ≤ c.length → setRun s l (c ++ d) k = setRun s l c k
  | 0, _ => rfl
  | k + 1, h => by
    show (setRun s l (c ++ d) k).bind (setStep s l (c ++ d) k) = (setRun s l c k).bind (setStep s l c k)
    rw [setRun_append (by omega)]
    congr 1
    funext st
    unfold setStep
    rw [laidAt_append h, prevNum_append (by omega), usedN_append h]
def nextOk (s : Shape) (l : List Plate) (c : List Laid) (cov : Nat) (x : Laid) (m : Nat) : Prop :=
  prevNum s c c.length < numL s x ∧ coverOf s l x = some m ∧ m &&& cov = 0 ∧ ((usedN c c.length x.plate : Int) + 1 ≤ (plateAt l x.plate.toNat).N)
theorem usedN_snoc (c : List Laid) (x : Laid) (d : List Laid) : usedN (c ++ x :: d) (c.length + 1) x.plate = usedN c c.length x.plate + 1 := by
  have h : (c ++ x :: d)[c.length]? = some x := by
    rw [List.getElem?_append_right (Nat.le_refl _), Nat.sub_self]
    rfl
  have := usedN_succ h x.plate
  rw [this, if_pos rfl, usedN_append (Nat.le_refl _)]
theorem setRun_step {s : Shape} {l : List Plate} {c d : List Laid} {all : List Nat} {cov : Nat} {x : Laid} (h : setRun s l c c.length = some (all, cov)) :
    (∀ m, nextOk s l c cov x m → setRun s l (c ++ x :: d) (c.length + 1) = some (all ++ [m], cov ||| m)) ∧
    (∀ st, setRun s l (c ++ x :: d) (c.length + 1) = some st → ∃ m, nextOk s l c cov x m ∧ st = (all ++ [m], cov ||| m)) := by
  have e : setRun s l (c ++ x :: d) (c.length + 1) = setStep s l (c ++ x :: d) c.length (all, cov) := by
    have h' : setRun s l (c ++ x :: d) c.length = some (all, cov) := by rw [setRun_append (Nat.le_refl _)]; exact h
    exact runs_succ h'
  rw [e]
  unfold setStep nextOk
  rw [laidAt_mid, prevNum_append (Nat.le_refl _), usedN_snoc]
  constructor
  · rintro m ⟨h1, h2, h3, h4⟩
    rw [if_neg (by omega), h2]
    show (if m &&& cov ≠ 0 ∨ _ then _ else _) = _
    rw [if_neg]
    rintro (h | h)
    · exact h h3
    · push_cast at h
      omega
  · intro st hst
    split at hst
    · cases hst
    · rename_i h1
      split at hst
      · cases hst
      · rename_i m hm
        split at hst
        · cases hst
        · rename_i hg
          rw [not_or] at hg
          cases hst
          refine ⟨m, ⟨by omega, hm, Classical.not_not.1 hg.1, ?_⟩, rfl⟩
          have := hg.2
          push_cast at this
          omega

/-- A beginning of a composition: all below its lowest free cell is covered, by plates that lie there. -/
structure Part (s : Shape) (l : List Plate) (c : List Laid) (all : List Nat) (cov : Nat) : Prop where
  run : setRun s l c c.length = some (all, cov)
  last : prevNum s c c.length < lowZ cov
theorem Part.is {s : Shape} {l : List Plate} {c : List Laid} {all : List Nat} {cov : Nat} (h : Part s l c all cov) : SetIs s l c c.length all cov := setRun_is h.run
theorem SetIs.small {s : Shape} {l : List Plate} {c : List Laid} {k : Nat} {all : List Nat} {cov : Nat} (ok : s.Ok) (h : SetIs s l c k all cov) : cov < 65536 := by
  have : cov < 2 ^ 16 := by
    apply Nat.lt_pow_two_of_testBit
    intro i hi
    cases hb : cov.testBit i
    · rfl
    · obtain ⟨j, hj, e⟩ := (h.bits i).1 hb
      have := (cover_lt ok (h.cover j hj) e).1
      have := ok.full
      omega
  omega
theorem SetIs.bit_lt {s : Shape} {l : List Plate} {c : List Laid} {k : Nat} {all : List Nat} {cov b : Nat} (ok : s.Ok) (h : SetIs s l c k all cov) (hb : cov.testBit b = true) : b < fullN s.cells := by
  obtain ⟨j, hj, e⟩ := (h.bits b).1 hb
  exact (cover_lt ok (h.cover j hj) e).1
theorem Part.nil (s : Shape) (l : List Plate) : Part s l [] [] 0 := ⟨rfl, by
  show (-1 : Int) < lowZ 0
  omega⟩
theorem lowZ_le {s : Shape} {l : List Plate} {c : List Laid} {k : Nat} {all : List Nat} {cov : Nat} (ok : s.Ok) (h : SetIs s l c k all cov) : lowZ cov ≤ fullN s.cells := by
  obtain ⟨_, _, h3⟩ := lowZ_spec (h.small ok)
  rcases Nat.lt_or_ge (fullN s.cells) (lowZ cov) with h' | h'
  · have := h.bit_lt ok (h3 _ h')
    omega
  · exact h'
theorem Part.add {s : Shape} {l : List Plate} {c : List Laid} {all : List Nat} {cov : Nat} (ok : s.Ok) (okl : platesB l = true) (h : Part s l c all cov) (hn : lowZ cov < fullN s.cells) {i : Nat} {t : Bool} {m : Nat} (hm : coverOf s l (laidN s (lowZ cov) i t) = some m) (hand : m &&& cov = 0)
    (hu : (usedN c c.length (i : Int) : Int) + 1 ≤ (plateAt l i).N) : Part s l (c ++ [laidN s (lowZ cov) i t]) (all ++ [m]) (cov ||| m) ∧ lowZ cov < lowZ (cov ||| m) := by
  have hnum : numL s (laidN s (lowZ cov) i t) = lowZ cov := (place_num ok hn).2.2.1
  have hno : nextOk s l c cov (laidN s (lowZ cov) i t) m := ⟨by rw [hnum]; exact h.last, hm, hand, hu⟩
  have hrun := (setRun_step (d := []) h.run).1 m hno
  have hself := cover_self ok okl hm hnum
  have hsm : cov ||| m < 65536 := by
    have h1 := h.is.small ok
    have h2 := cover_small ok hm
    have := Nat.or_lt_two_pow (x := cov) (y := m) (n := 16) (by omega) (by omega)
    omega
  have hlt : lowZ cov < lowZ (cov ||| m) := by
    obtain ⟨_, _, h3⟩ := lowZ_spec (h.is.small ok)
    obtain ⟨h4, _, _⟩ := lowZ_spec hsm
    rw [Nat.testBit_or, Bool.or_eq_false_iff] at h4
    rcases Nat.lt_trichotomy (lowZ (cov ||| m)) (lowZ cov) with h' | h' | h'
    · rw [h3 _ h'] at h4
      cases h4.1
    · rw [h', hself] at h4
      cases h4.2
    · exact h'
  refine ⟨⟨by rw [List.length_append]; exact hrun, ?_⟩, hlt⟩
  have : prevNum s (c ++ [laidN s (lowZ cov) i t]) (c ++ [laidN s (lowZ cov) i t]).length = lowZ cov := by
    rw [List.length_append]
    show numL s (laidAt (c ++ [laidN s (lowZ cov) i t]) c.length) = _
    rw [laidAt_mid, hnum]
  rw [this]
  omega
/-- The next plate of a composition lies on the lowest free cell. -/
theorem Part.next {s : Shape} {l : List Plate} {c d : List Laid} {all : List Nat} {cov : Nat} {x : Laid} {out : List Nat} (ok : s.Ok) (okl : platesB l = true) (h : Part s l c all cov)
    (hf : setRun s l (c ++ x :: d) (c ++ x :: d).length = some (out, 2 ^ fullN s.cells - 1)) :
    lowZ cov < fullN s.cells ∧ ∃ m, 0 ≤ x.plate ∧ x.plate.toNat < l.length ∧ x = laidN s (lowZ cov) x.plate.toNat x.turned ∧ coverOf s l x = some m ∧ m &&& cov = 0 ∧ (usedN c c.length x.plate : Int) + 1 ≤ (plateAt l x.plate.toNat).N := by
  have his := setRun_is hf
  have hlen : (c ++ x :: d).length = c.length + 1 + d.length := by simp; omega
  obtain ⟨st, hst⟩ := runs_prefix (f := setStep s l (c ++ x :: d)) (a := ([], 0)) hf (show c.length + 1 ≤ (c ++ x :: d).length by omega)
  obtain ⟨m, ⟨h1, h2, h3, h4⟩, _⟩ := (setRun_step h.run).2 st hst
  have hp := cover_plate h2
  have hsm := h.is.small ok
  obtain ⟨z1, z2, z3⟩ := lowZ_spec hsm
  have hx0 : 0 ≤ numL s x := by
    have := prevNum_ge s c c.length
    omega
  obtain ⟨b, hb⟩ := Int.eq_ofNat_of_zero_le hx0
  have hself := cover_self ok okl h2 hb
  have hbF : b < fullN s.cells := (cover_lt ok h2 hself).1
  have hge : lowZ cov ≤ b := by
    rcases Nat.lt_or_ge b (lowZ cov) with h' | h'
    · exact ((and_zero.1 h3) b hself (z3 b h')).elim
    · exact h'
  have hn : lowZ cov < fullN s.cells := by omega
  have hle : b ≤ lowZ cov := by
    have hbit : (2 ^ fullN s.cells - 1).testBit (lowZ cov) = true := by
      rw [Nat.testBit_two_pow_sub_one]
      simpa using hn
    obtain ⟨j, hj, e⟩ := (his.bits _).1 hbit
    have hcj := his.cover j hj
    have hnj := his.num j hj
    have hj0 : 0 ≤ numL s (laidAt (c ++ x :: d) j) := by
      have := prevNum_ge s (c ++ x :: d) j
      omega
    have hgj := cover_ge ok hcj hj0 e
    rcases Nat.lt_or_ge j c.length with h' | h'
    · exfalso
      rw [laidAt_append h'] at hcj
      have hc2 := h.is.cover j h'
      rw [hcj] at hc2
      have e2 := Option.some.inj hc2
      have : cov.testBit (lowZ cov) = true := (h.is.bits _).2 ⟨j, h', by rw [← e2]; exact e⟩
      rw [z1] at this
      cases this
    · have mono : ∀ k, c.length ≤ k → k < (c ++ x :: d).length → (b : Int) ≤ numL s (laidAt (c ++ x :: d) k) := by
        intro k
        induction k with
        | zero =>
          intro h0 hk
          have e0 : c.length = 0 := by omega
          have := laidAt_mid c x d
          rw [e0] at this
          rw [this, hb]
          exact Int.le_refl _
        | succ k ih =>
          intro hc hk
          rcases Nat.lt_or_ge k c.length with h'' | h''
          · have e0 : c.length = k + 1 := by omega
            have := laidAt_mid c x d
            rw [e0] at this
            rw [this, hb]
            exact Int.le_refl _
          · have i1 := ih h'' (by omega)
            have i2 := his.num (k + 1) hk
            have i2 : numL s (laidAt (c ++ x :: d) k) < numL s (laidAt (c ++ x :: d) (k + 1)) := i2
            omega
      have := mono j h' hj
      omega
  have hbn : b = lowZ cov := by omega
  subst hbn
  exact ⟨hn, m, hp.1, by omega, laidN_of ok hb hp.1, h2, h3, h4⟩

/-! ### all compositions, in order -/
def kidOk (s : Shape) (l : List Plate) (c : List Laid) (cov i : Nat) (t : Bool) : Option Nat :=
  match coverOf s l (laidN s (lowZ cov) i t) with
  | none => none
  | some m => if (plateAt l i).N - (usedN c c.length (i : Int) : Int) = 0 ∨ m &&& cov ≠ 0 then none else some m
/-- The sorts, in order. -/
def sorts (l : List Plate) : List (Nat × Bool) := (List.range l.length).flatMap fun i => [(i, false), (i, true)]
def comps (s : Shape) (l : List Plate) : Nat → List Laid → List Nat → Nat → List (List Laid × List Nat)
  | 0, _, _, _ => []
  | f + 1, c, all, cov => if fullN s.cells ≤ lowZ cov then [(c, all)] else
      (sorts l).flatMap fun q => match kidOk s l c cov q.1 q.2 with
        | none => []
        | some m => comps s l f (c ++ [laidN s (lowZ cov) q.1 q.2]) (all ++ [m]) (cov ||| m)
theorem mem_sorts {l : List Plate} {i : Nat} {t : Bool} : (i, t) ∈ sorts l ↔ i < l.length := by
  unfold sorts
  rw [List.mem_flatMap]
  constructor
  · rintro ⟨j, hj, h⟩
    rw [List.mem_range] at hj
    simp only [List.mem_cons, List.not_mem_nil, or_false, Prod.mk.injEq] at h
    omega
  · intro h
    refine ⟨i, List.mem_range.2 h, ?_⟩
    cases t <;> simp
theorem usedN_le_N {s : Shape} {l : List Plate} {c : List Laid} {k : Nat} {out : List Nat} {all : Nat} (okl : platesB l = true) (h : SetIs s l c k out all) {i : Nat} (hi : i < l.length) : (usedN c k (i : Int) : Int) ≤ (plateAt l i).N := by
  have hget : l[i]? = some (plateAt l i) := by
    have := List.getElem?_eq_getElem hi
    rw [this, plateAt_eq this]
  have okp := (plate_ok okl hget).n
  -- the last one of that sort
  have key : ∀ j, j ≤ k → (usedN c j (i : Int) : Int) ≤ (plateAt l i).N := by
    intro j
    induction j with
    | zero =>
      intro _
      unfold usedN
      simp
      exact okp.1
    | succ j ih =>
      intro hj
      by_cases hp : (laidAt c j).plate = i
      · have := h.used j (by omega)
        rw [hp, Int.toNat_natCast] at this
        exact this
      · have ih := ih (by omega)
        unfold usedN at ih ⊢
        rw [List.take_add_one]
        cases hc : c[j]? with
        | none => simpa using ih
        | some x =>
          have hx : laidAt c j = x := laidAt_eq hc
          rw [hx] at hp
          rw [List.countP_append]
          simp only [Option.toList_some, List.countP_singleton, decide_eq_true_eq, hp, if_false, Nat.add_zero]
          exact ih
  exact key k (Nat.le_refl _)
theorem kidOk_some {s : Shape} {l : List Plate} {c : List Laid} {all : List Nat} {cov i : Nat} {t : Bool} {m : Nat} (okl : platesB l = true) (h : Part s l c all cov) (hi : i < l.length) :
    kidOk s l c cov i t = some m ↔ coverOf s l (laidN s (lowZ cov) i t) = some m ∧ m &&& cov = 0 ∧ (usedN c c.length (i : Int) : Int) + 1 ≤ (plateAt l i).N := by
  have hu := usedN_le_N okl h.is hi
  unfold kidOk
  constructor
  · intro hk
    split at hk
    · cases hk
    · rename_i m' hm
      split at hk
      · cases hk
      · rename_i hg
        rw [not_or] at hg
        cases hk
        exact ⟨hm, Classical.not_not.1 hg.2, by have := hg.1; omega⟩
  · rintro ⟨h1, h2, h3⟩
    rw [h1]
    show (if _ then _ else _) = _
    rw [if_neg]
    rintro (h | h)
    · omega
    · exact h h2
theorem full_of_low {s : Shape} {l : List Plate} {c : List Laid} {k : Nat} {all : List Nat} {cov : Nat} (ok : s.Ok) (h : SetIs s l c k all cov) (hf : fullN s.cells ≤ lowZ cov) : cov = 2 ^ fullN s.cells - 1 := by
  obtain ⟨_, _, h3⟩ := lowZ_spec (h.small ok)
  exact (full_bits (fun b hb => h.bit_lt ok hb)).2 fun b hb => h3 b (by omega)
theorem low_of_full {s : Shape} (ok : s.Ok) : lowZ (2 ^ fullN s.cells - 1) = fullN s.cells := by
  have h2 : 2 ^ fullN s.cells ≤ 2 ^ 16 := Nat.pow_le_pow_right (by omega) ok.full.2
  refine lowZ_eq (by omega) ?_ fun j hj => ?_
  · rw [Nat.testBit_two_pow_sub_one]
    simp
  · rw [Nat.testBit_two_pow_sub_one]
    simpa using hj
/-- What the search finds are just the compositions that begin so. -/
theorem mem_comps {s : Shape} {l : List Plate} (ok : s.Ok) (okl : platesB l = true) : ∀ {f : Nat} {c : List Laid} {all : List Nat} {cov : Nat} {c' : List Laid} {out : List Nat}, Part s l c all cov → fullN s.cells + 1 ≤ f + lowZ cov →
    ((c', out) ∈ comps s l f c all cov ↔ c <+: c' ∧ setRun s l c' c'.length = some (out, 2 ^ fullN s.cells - 1))
  | 0, c, all, cov, c', out, h, hf => by
    have := lowZ_le ok h.is
    omega
  | f + 1, c, all, cov, c', out, h, hf => by
    unfold comps
    by_cases hfull : fullN s.cells ≤ lowZ cov
    · rw [if_pos hfull, List.mem_singleton]
      have hcov := full_of_low ok h.is hfull
      constructor
      · intro e
        cases e
        exact ⟨List.prefix_refl _, by rw [h.run, hcov]⟩
      · rintro ⟨⟨d, rfl⟩, hrun⟩
        cases d with
        | nil =>
          rw [List.append_nil, h.run] at hrun
          rw [List.append_nil]
          simp only [Option.some.injEq, Prod.mk.injEq] at hrun
          rw [hrun.1]
        | cons x d =>
          have := (h.next ok okl hrun).1
          omega
    · rw [if_neg hfull, List.mem_flatMap]
      constructor
      · rintro ⟨⟨i, t⟩, hq, hm⟩
        have hi := mem_sorts.1 hq
        split at hm
        · simp at hm
        · rename_i m hk
          have hk := (kidOk_some okl h hi).1 hk
          obtain ⟨hp, hlt⟩ := h.add ok okl (by omega) hk.1 hk.2.1 hk.2.2
          obtain ⟨h1, h2⟩ := (mem_comps ok okl hp (by omega)).1 hm
          exact ⟨(List.prefix_append _ _).trans h1, h2⟩
      · rintro ⟨⟨d, rfl⟩, hrun⟩
        cases d with
        | nil =>
          rw [List.append_nil, h.run] at hrun
          simp only [Option.some.injEq, Prod.mk.injEq] at hrun
          have := low_of_full ok
          rw [← hrun.2] at this
          omega
        | cons x d =>
          obtain ⟨hn, m, p1, p2, hx, h1, h2, h3⟩ := h.next ok okl hrun
          refine ⟨(x.plate.toNat, x.turned), mem_sorts.2 p2, ?_⟩
          have hpl : ((x.plate.toNat : Nat) : Int) = x.plate := by omega
          have hk : kidOk s l c cov x.plate.toNat x.turned = some m := (kidOk_some okl h p2).2 ⟨by rw [← hx]; exact h1, h2, by rw [hpl]; exact h3⟩
          rw [hk]
          obtain ⟨hp, hlt⟩ := h.add ok okl hn (i := x.plate.toNat) (t := x.turned) (by rw [← hx]; exact h1) h2 (by rw [hpl]; exact h3)
          refine (mem_comps ok okl hp (by omega)).2 ?_
          rw [← hx]
          refine ⟨⟨d, by simp⟩, ?_⟩
          exact hrun
end Go.Proofs.YtpikemglnnjemaaDoor

namespace Go.Proofs.YtpikemglnnjemaaDoor
open Go.RowKit

/-! ### the order -/
def beforeL : List Laid → List Laid → Bool
  | x :: a, y :: b => if x.plate ≠ y.plate then decide (x.plate < y.plate) else if x.turned ≠ y.turned then y.turned else beforeL a b
  | _, _ => false
theorem beforeL_irr : ∀ a : List Laid, beforeL a a = false
  | [] => rfl
  | x :: a => by
    unfold beforeL
    simp [beforeL_irr a]
theorem beforeL_asymm : ∀ {a b : List Laid}, beforeL a b = true → beforeL b a = false
  | [], _, h => by simp [beforeL] at h
  | _ :: _, [], h => by simp [beforeL] at h
  | x :: a, y :: b, h => by
    unfold beforeL at h ⊢
    by_cases hp : x.plate = y.plate
    · rw [if_neg (by simpa using hp)] at h
      rw [if_neg (by simpa using hp.symm)]
      by_cases ht : x.turned = y.turned
      · rw [if_neg (by simpa using ht)] at h
        rw [if_neg (by simpa using ht.symm)]
        exact beforeL_asymm h
      · rw [if_pos (by simpa using ht)] at h
        rw [if_pos (by simpa using fun e => ht e.symm)]
        cases hx : x.turned
        · rfl
        · rw [hx, h] at ht
          exact absurd rfl ht
    · rw [if_pos hp] at h
      rw [if_pos (fun e => hp e.symm)]
      have : x.plate < y.plate := by simpa using h
      simp
      omega
def sortLt (p q : Nat × Bool) : Prop := p.1 < q.1 ∨ p.1 = q.1 ∧ p.2 = false ∧ q.2 = true
theorem sorts_sorted (l : List Plate) : (sorts l).Pairwise sortLt := by
  unfold sorts
  rw [List.pairwise_flatMap]
  constructor
  · intro i _
    simp [sortLt]
  · refine List.pairwise_lt_range.imp ?_
    intro i j hij x hx y hy
    simp only [List.mem_cons, List.not_mem_nil, or_false] at hx hy
    left
    rcases hx with rfl | rfl <;> rcases hy with rfl | rfl <;> exact hij
theorem comps_prefix {s : Shape} {l : List Plate} : ∀ {f : Nat} {c : List Laid} {all : List Nat} {cov : Nat} {p : List Laid × List Nat}, p ∈ comps s l f c all cov → c <+: p.1
  | 0, _, _, _, _, h => by simp [comps] at h
  | f + 1, c, all, cov, p, h => by
    unfold comps at h
    split at h
    · rw [List.mem_singleton] at h
      rw [h]
      exact List.prefix_refl _
    · rw [List.mem_flatMap] at h
      obtain ⟨q, _, hq⟩ := h
      split at hq
      · simp at hq
      · exact (List.prefix_append _ _).trans (comps_prefix hq)
theorem before_mid {c a b : List Laid} {x y : Laid} (hp : c ++ [x] <+: a) (hq : c ++ [y] <+: b) (h : x.plate < y.plate ∨ x.plate = y.plate ∧ x.turned = false ∧ y.turned = true) : beforeL a b = true := by
  obtain ⟨d, rfl⟩ := hp
  obtain ⟨e, rfl⟩ := hq
  rw [List.append_assoc, List.append_assoc]
  induction c with
  | nil =>
    show beforeL (x :: d) (y :: e) = true
    unfold beforeL
    rcases h with h | ⟨h1, h2, h3⟩
    · rw [if_pos (by omega)]
      simpa using h
    · rw [if_neg (by simpa using h1), if_pos (by rw [h2, h3]; simp)]
      exact h3
  | cons z c ih =>
    show beforeL (z :: _) (z :: _) = true
    unfold beforeL
    rw [if_neg (by simp), if_neg (by simp)]
    exact ih
theorem comps_sorted {s : Shape} {l : List Plate} : ∀ (f : Nat) (c : List Laid) (all : List Nat) (cov : Nat), (comps s l f c all cov).Pairwise (fun p q => beforeL p.1 q.1 = true)
  | 0, _, _, _ => List.Pairwise.nil
  | f + 1, c, all, cov => by
    unfold comps
    split
    · exact List.pairwise_singleton _ _
    · rw [List.pairwise_flatMap]
      constructor
      · intro q _
        split
        · exact List.Pairwise.nil
        · exact comps_sorted f _ _ _
      · refine (sorts_sorted l).imp ?_
        intro p q hpq x hx y hy
        split at hx
        · simp at hx
        · split at hy
          · simp at hy
          · refine before_mid (comps_prefix hx) (comps_prefix hy) ?_
            rcases hpq with h | ⟨h1, h2, h3⟩
            · left
              show (p.1 : Int) < (q.1 : Int)
              omega
            · right
              refine ⟨?_, h2, h3⟩
              show (p.1 : Int) = (q.1 : Int)
              omega

/-! ### the search with a state -/
section
variable {σ : Type} (longF : σ → Nat → Bool) (seeF : σ → List Laid → List Nat → σ) (s : Shape) (l : List Plate)
def growS : Nat → σ → List Laid → List Nat → Nat → σ
  | 0, st, _, _, _ => st
  | f + 1, st, c, all, cov => if longF st c.length = true then st else if fullN s.cells ≤ lowZ cov then seeF st c all else
      (sorts l).foldl (fun st q => match kidOk s l c cov q.1 q.2 with
        | none => st
        | some m => growS f st (c ++ [laidN s (lowZ cov) q.1 q.2]) (all ++ [m]) (cov ||| m)) st
/-- What one sort adds. -/
def kidS (f : Nat) (c : List Laid) (all : List Nat) (cov : Nat) (st : σ) (q : Nat × Bool) : σ := match kidOk s l c cov q.1 q.2 with
  | none => st
  | some m => growS longF seeF s l f st (c ++ [laidN s (lowZ cov) q.1 q.2]) (all ++ [m]) (cov ||| m)
def growTo (f : Nat) (c : List Laid) (all : List Nat) (cov : Nat) (st : σ) (k : Nat) : σ := ((sorts l).take k).foldl (kidS longF seeF s l f c all cov) st
theorem sorts_len (l : List Plate) : (sorts l).length = 2 * l.length := by
  unfold sorts
  rw [List.length_flatMap]
  simp only [List.length_cons, List.length_nil]
  rw [List.map_const', List.sum_replicate_nat, List.length_range]
  omega
theorem sorts_get {l : List Plate} {i : Nat} (hi : i < l.length) (t : Bool) : (sorts l)[2 * i + t.toNat]? = some (i, t) := by
  have key : ∀ n, i < n → ((List.range n).flatMap fun i => [(i, false), (i, true)])[2 * i + t.toNat]? = some (i, t) := by
    intro n
    induction n with
    | zero => intro h; omega
    | succ n ih =>
      intro h
      have hlen : ((List.range n).flatMap fun i => [((i : Nat), false), (i, true)]).length = 2 * n := by
        rw [List.length_flatMap]
        simp only [List.length_cons, List.length_nil]
        rw [List.map_const', List.sum_replicate_nat, List.length_range]
        omega
      have ht : t.toNat ≤ 1 := by cases t <;> simp
      rw [List.range_succ, List.flatMap_append]
      rcases Nat.lt_or_ge i n with h' | h'
      · rw [List.getElem?_append_left (by omega)]
        exact ih h'
      · obtain rfl : i = n := by omega
        rw [List.getElem?_append_right (by omega), hlen]
        cases t <;> simp
  exact key _ hi
theorem growTo_succ {f : Nat} {c : List Laid} {all : List Nat} {cov : Nat} {st : σ} {i : Nat} (hi : i < l.length) (t : Bool) :
    growTo longF seeF s l f c all cov st (2 * i + t.toNat + 1) = kidS longF seeF s l f c all cov (growTo longF seeF s l f c all cov st (2 * i + t.toNat)) (i, t) := by
  unfold growTo
  rw [List.take_add_one, sorts_get hi t, List.foldl_append]
  rfl
theorem growS_go {f : Nat} {c : List Laid} {all : List Nat} {cov : Nat} {st : σ} (h1 : longF st c.length = false) (h2 : lowZ cov < fullN s.cells) :
    growS longF seeF s l (f + 1) st c all cov = growTo longF seeF s l f c all cov st (2 * l.length) := by
  show (if _ then _ else _) = _
  rw [h1, if_neg (by simp), if_neg (by omega)]
  unfold growTo
  rw [← sorts_len, List.take_of_length_le (Nat.le_refl _)]
  rfl
variable {longF seeF s l}
theorem foldl_same {α β : Type} {h : β → α → β} {b : β} : ∀ {xs : List α}, (∀ x ∈ xs, h b x = b) → xs.foldl h b = b
  | [], _ => rfl
  | x :: xs, hx => by
    rw [List.foldl_cons, hx x (by simp)]
    exact foldl_same fun y hy => hx y (by simp [hy])
theorem growS_eq (hl : ∀ st k c out, longF st k = true → k ≤ c.length → seeF st c out = st) : ∀ (f : Nat) (st : σ) (c : List Laid) (all : List Nat) (cov : Nat),
    growS longF seeF s l f st c all cov = (comps s l f c all cov).foldl (fun st p => seeF st p.1 p.2) st
  | 0, _, _, _, _ => rfl
  | f + 1, st, c, all, cov => by
    by_cases h1 : longF st c.length = true
    · have e : growS longF seeF s l (f + 1) st c all cov = st := by
        show (if _ then _ else _) = _
        rw [if_pos h1]
      rw [e]
      exact (foldl_same fun p hp => hl st _ p.1 p.2 h1 (comps_prefix hp).length_le).symm
    · show (if _ then _ else _) = _
      unfold comps
      rw [if_neg h1]
      split
      · rfl
      · rw [List.foldl_flatMap]
        congr 1
        funext st q
        generalize kidOk s l c cov q.1 q.2 = r
        cases r with
        | none => rfl
        | some m => exact growS_eq hl f _ _ _ _
end

/-! ### all compositions of a shape -/
def allComps (s : Shape) (l : List Plate) : List (List Laid × List Nat) := comps s l (fullN s.cells + 1) [] [] 0
theorem lowZ_zero : lowZ 0 = 0 := lowZ_eq (by omega) (by simp) fun j hj => by omega
theorem mem_all {s : Shape} {l : List Plate} (ok : s.Ok) (okl : platesB l = true) {c : List Laid} {out : List Nat} : (c, out) ∈ allComps s l ↔ setRun s l c c.length = some (out, 2 ^ fullN s.cells - 1) := by
  unfold allComps
  rw [mem_comps ok okl (Part.nil s l) (by omega)]
  exact ⟨fun h => h.2, fun h => ⟨List.nil_prefix, h⟩⟩
theorem mem_all_comp {s : Shape} {l : List Plate} (ok : s.Ok) (okl : platesB l = true) {c : List Laid} : (∃ out, (c, out) ∈ allComps s l) ↔ compB s l c = true := by
  rw [← set_comp ok]
  unfold setB
  constructor
  · rintro ⟨out, h⟩
    rw [mem_all ok okl] at h
    rw [h]
    simp
  · intro h
    split at h
    · cases h
    · rename_i st hst
      obtain ⟨out, all⟩ := st
      have h : all = 2 ^ fullN s.cells - 1 := by simpa using h
      exact ⟨out, (mem_all ok okl).2 (by rw [hst, h])⟩
theorem all_sorted (s : Shape) (l : List Plate) : (allComps s l).Pairwise (fun p q => beforeL p.1 q.1 = true) := comps_sorted _ _ _ _
theorem all_nodup (s : Shape) (l : List Plate) : (allComps s l).Nodup := (all_sorted s l).imp fun {p q} h e => by
  rw [e, beforeL_irr] at h
  cases h

/-! ### the best one -/
noncomputable def better (s : Shape) (c : List Laid) (out : List Nat) (b : List Laid × Nat) : Bool := decide (c.length < b.1.length ∨ c.length = b.1.length ∧ weakN s out < b.2)
open Classical in
noncomputable def seeB (s : Shape) (l : List Plate) (st : Option (List Laid × Nat)) (c : List Laid) (out : List Nat) : Option (List Laid × Nat) :=
  if hangB s l c = true then (match st with
    | none => some (c, weakN s out)
    | some b => if better s c out b = true then some (c, weakN s out) else some b) else st
def longB (st : Option (List Laid × Nat)) (k : Nat) : Bool := match st with
  | none => false
  | some b => decide (b.1.length < k)
theorem longB_see {s : Shape} {l : List Plate} (st : Option (List Laid × Nat)) (k : Nat) (c : List Laid) (out : List Nat) (h : longB st k = true) (hk : k ≤ c.length) : seeB s l st c out = st := by
  unfold longB at h
  split at h
  · cases h
  · rename_i b
    have h : b.1.length < k := by simpa using h
    unfold seeB better
    split
    · show (if _ then _ else _) = _
      rw [if_neg]
      simp
      omega
    · rfl
noncomputable def bestB (s : Shape) (l : List Plate) : Option (List Laid × Nat) := (allComps s l).foldl (fun st p => seeB s l st p.1 p.2) none
/-- What is known of the best one when some have been seen. -/
def BestOf (s : Shape) (l : List Plate) (xs : List (List Laid × List Nat)) : Option (List Laid × Nat) → Prop
  | none => ∀ p ∈ xs, hangB s l p.1 = false
  | some b => ∃ xs1 out xs2, xs = xs1 ++ (b.1, out) :: xs2 ∧ hangB s l b.1 = true ∧ b.2 = weakN s out ∧ (∀ p ∈ xs1, hangB s l p.1 = true → better s b.1 out (p.1, weakN s p.2) = true) ∧ ∀ p ∈ xs2, hangB s l p.1 = true → better s p.1 p.2 b = false
theorem better_iff {s : Shape} {c : List Laid} {out : List Nat} {b : List Laid × Nat} : better s c out b = true ↔ c.length < b.1.length ∨ c.length = b.1.length ∧ weakN s out < b.2 := by simp [better]
theorem BestOf.step {s : Shape} {l : List Plate} {xs : List (List Laid × List Nat)} {st : Option (List Laid × Nat)} (h : BestOf s l xs st) (p : List Laid × List Nat) : BestOf s l (xs ++ [p]) (seeB s l st p.1 p.2) := by
  obtain ⟨c, out⟩ := p
  unfold seeB
  by_cases hh : hangB s l c = true
  · rw [if_pos hh]
    cases st with
    | none =>
      refine ⟨xs, out, [], rfl, hh, rfl, fun p hp hp2 => ?_, fun p hp => by cases hp⟩
      rw [h p hp] at hp2
      cases hp2
    | some b =>
      obtain ⟨xs1, o, xs2, rfl, h1, h2, h3, h4⟩ := h
      show BestOf s l _ (if _ then _ else _)
      by_cases hb : better s c out b = true
      · rw [if_pos hb]
        refine ⟨xs1 ++ (b.1, o) :: xs2, out, [], by simp, hh, rfl, fun p hp hp2 => ?_, fun p hp => by cases hp⟩
        rw [better_iff] at hb
        rw [better_iff]
        rw [List.mem_append, List.mem_cons] at hp
        rcases hp with hp | rfl | hp
        · have := h3 p hp hp2
          rw [better_iff] at this
          simp only at this ⊢
          omega
        · simp only
          omega
        · have := h4 p hp hp2
          rw [← Bool.not_eq_true, better_iff] at this
          simp only at this ⊢
          omega
      · rw [if_neg hb]
        refine ⟨xs1, o, xs2 ++ [(c, out)], by simp, h1, h2, h3, fun p hp hp2 => ?_⟩
        rw [List.mem_append, List.mem_singleton] at hp
        rcases hp with hp | rfl
        · exact h4 p hp hp2
        · simpa using hb
  · rw [if_neg hh]
    have hf : hangB s l c = false := by simpa using hh
    cases st with
    | none =>
      intro p hp
      rw [List.mem_append, List.mem_singleton] at hp
      rcases hp with hp | rfl
      · exact h p hp
      · exact hf
    | some b =>
      obtain ⟨xs1, o, xs2, rfl, h1, h2, h3, h4⟩ := h
      refine ⟨xs1, o, xs2 ++ [(c, out)], by simp, h1, h2, h3, fun p hp hp2 => ?_⟩
      rw [List.mem_append, List.mem_singleton] at hp
      rcases hp with hp | rfl
      · exact h4 p hp hp2
      · rw [hf] at hp2
        cases hp2
theorem BestOf.all {s : Shape} {l : List Plate} : ∀ (ys xs : List (List Laid × List Nat)) (st : Option (List Laid × Nat)), BestOf s l xs st → BestOf s l (xs ++ ys) (ys.foldl (fun st p => seeB s l st p.1 p.2) st)
  | [], xs, st, h => by simpa using h
  | p :: ys, xs, st, h => by
    have := BestOf.all ys (xs ++ [p]) _ (h.step p)
    rw [List.append_assoc] at this
    exact this
theorem best_is (s : Shape) (l : List Plate) : BestOf s l (allComps s l) (bestB s l) := by
  have := BestOf.all (s := s) (l := l) (allComps s l) [] none (fun p hp => by cases hp)
  rw [List.nil_append] at this
  exact this
end Go.Proofs.YtpikemglnnjemaaDoor
