/- The given statement ComposeRowCardSaid: for every input the law returns true, and each argument reads behind the call as it did; the listed table is tied to the program's text. No other conditions. -/
import Derived.Test.YtpikemglnnjemaaDoorCm14
import Derived.SevenTiedAt

namespace Go.Proofs.YtpikemglnnjemaaDoor
open Go.RowKit

def rowS (w h : Nat) (c : Int) : Shape := ⟨w, 1, h, List.replicate (w * h) c⟩
def fibP : Nat → Nat × Nat
  | 0 => (1, 1)
  | n + 1 => ((fibP n).1 + (fibP n).2, (fibP n).1)
theorem row_low : ∀ w, w < 8 → (allComps (rowS (w + 1) 1 1) (twoL 99 99)).length = (fibP w).1 := by decide +kernel
theorem row_high7 : ∀ w, w < 7 → (allComps (rowS (w + 1) 2 1) (twoL 99 99)).length = (fibP w).1 * (fibP w).1 := by decide +kernel
theorem row_high8 : (allComps (rowS 8 2 1) (twoL 99 99)).length = 1156 := by decide +kernel
end Go.Proofs.YtpikemglnnjemaaDoor

namespace Go.Proofs.YtpikemglnnjemaaDoor
open Go.RowKit

theorem row_getD (n : Nat) (c : Int) (i : Nat) : (List.replicate n c).getD i 0 = if i < n then c else 0 := by
  rw [List.getD_eq_getElem?_getD, List.getElem?_replicate]
  split <;> rfl
theorem row_full {c : Int} (hc : c ≠ 0) (n : Nat) : fullN (List.replicate n c) = n := by
  unfold fullN
  rw [List.countP_replicate, if_pos (by simpa using hc)]
theorem row_numOf {c : Int} (hc : c ≠ 0) (n i : Nat) : numOf (List.replicate n c) i = if i < n then (i : Int) else -1 := by
  unfold numOf
  rw [row_getD, List.take_replicate, row_full hc]
  by_cases h : i < n
  · rw [if_pos h, if_neg hc, if_pos h, Nat.min_eq_left (by omega)]
  · rw [if_neg h, if_pos rfl, if_neg h]
section
variable {w h : Nat} {c : Int} (hc : c ≠ 0)
include hc
theorem row_num (x y z : Int) : (rowS w h c).num x y z = (rowS w h 1).num x y z := by
  have e : ∀ i, numOf (rowS w h c).cells i = numOf (rowS w h 1).cells i := fun i => by
    show numOf (List.replicate _ c) i = numOf (List.replicate _ 1) i
    rw [row_numOf hc, row_numOf (by decide)]
  unfold Shape.num
  rw [e]
  rfl
theorem row_cell {col col1 : Int} (hk : (col = c ∧ col1 = 1) ∨ (col = 0 ∧ col1 = 0)) (z v u : Int) (m : Nat) : cellStep (rowS w h c) col z v u m = cellStep (rowS w h 1) col1 z v u m := by
  have e : (rowS w h c).cells.getD ((rowS w h c).idx u v z).toNat 0 ≠ col ↔ (rowS w h 1).cells.getD ((rowS w h 1).idx u v z).toNat 0 ≠ col1 := by
    show (List.replicate _ c).getD ((rowS w h 1).idx u v z).toNat 0 ≠ col ↔ (List.replicate _ (1 : Int)).getD ((rowS w h 1).idx u v z).toNat 0 ≠ col1
    rw [row_getD, row_getD]
    rcases hk with ⟨rfl, rfl⟩ | ⟨rfl, rfl⟩ <;> split <;> omega
  unfold cellStep
  rw [row_num hc]
  simp only [e]
theorem row_block {col col1 : Int} (hk : (col = c ∧ col1 = 1) ∨ (col = 0 ∧ col1 = 0)) (x y z : Int) (a b : Nat) : blockS (rowS w h c) x y z a b col = blockS (rowS w h 1) x y z a b col1 := by
  unfold blockS rowStep
  simp only [row_cell hc hk]
omit hc in
theorem row_color (x y z : Int) : ((rowS w h c).colorAt x y z = c ∧ (rowS w h 1).colorAt x y z = 1) ∨ ((rowS w h c).colorAt x y z = 0 ∧ (rowS w h 1).colorAt x y z = 0) := by
  by_cases hi : (rowS w h 1).inside x y z = true
  · have e1 : (rowS w h c).colorAt x y z = (List.replicate (w * h) c).getD ((rowS w h 1).idx x y z).toNat 0 := if_pos hi
    have e2 : (rowS w h 1).colorAt x y z = (List.replicate (w * h) (1 : Int)).getD ((rowS w h 1).idx x y z).toNat 0 := if_pos hi
    rw [e1, e2, row_getD, row_getD]
    split
    · exact Or.inl ⟨rfl, rfl⟩
    · exact Or.inr ⟨rfl, rfl⟩
  · have e1 : (rowS w h c).colorAt x y z = 0 := if_neg hi
    have e2 : (rowS w h 1).colorAt x y z = 0 := if_neg hi
    exact Or.inr ⟨e1, e2⟩
theorem row_cover (x : Laid) : coverOf (rowS w h c) (twoL 99 99) x = coverOf (rowS w h 1) (twoL 99 99) x := by
  unfold coverOf layF
  by_cases hp : 0 ≤ x.plate ∧ x.plate < (twoL 99 99).length
  · rw [if_pos hp, if_pos hp]
    have hz : (plateAt (twoL 99 99) x.plate.toNat).color = 0 := by
      have hlt : x.plate.toNat < 2 := by
        have : x.plate < 2 := hp.2
        omega
      rcases Nat.lt_or_ge x.plate.toNat 1 with h1 | h1
      · rw [show x.plate.toNat = 0 by omega]
        rfl
      · rw [show x.plate.toNat = 1 by omega]
        rfl
    have hn : ∀ col : Int, ¬ ((plateAt (twoL 99 99) x.plate.toNat).color ≠ 0 ∧ (plateAt (twoL 99 99) x.plate.toNat).color ≠ col) := fun col h => h.1 hz
    show layP (rowS w h c) x.x x.y x.z ((rowS w h c).colorAt x.x x.y x.z) (plateAt (twoL 99 99) x.plate.toNat) x.turned = layP (rowS w h 1) x.x x.y x.z ((rowS w h 1).colorAt x.x x.y x.z) (plateAt (twoL 99 99) x.plate.toNat) x.turned
    unfold layP
    rw [if_neg (hn _), if_neg (hn _), row_block hc (row_color x.x x.y x.z)]
  · rw [if_neg hp, if_neg hp]
theorem row_prev (cs : List Laid) (k : Nat) : prevNum (rowS w h c) cs k = prevNum (rowS w h 1) cs k := by
  cases k with
  | zero => rfl
  | succ k => exact row_num hc _ _ _
theorem row_run (cs : List Laid) (k : Nat) : setRun (rowS w h c) (twoL 99 99) cs k = setRun (rowS w h 1) (twoL 99 99) cs k := by
  have e : setStep (rowS w h c) (twoL 99 99) cs = setStep (rowS w h 1) (twoL 99 99) cs := by
    funext k st
    unfold setStep
    rw [row_prev hc, row_cover hc]
    unfold numL
    rw [row_num hc]
  unfold setRun
  rw [e]
end
theorem row_valid {w h : Nat} {c : Int} (hw : 1 ≤ w ∧ w ≤ 8) (hh : 1 ≤ h ∧ h ≤ 2) (hc : 1 ≤ c ∧ c ≤ 15) : (rowS w h c).valid = true := by
  have hle : w * h ≤ 8 * 2 := Nat.mul_le_mul hw.2 hh.2
  have hpos : 1 ≤ w * h := Nat.mul_le_mul hw.1 hh.1
  have hp : plainB (rowS w h c).cells = true := by
    unfold plainB
    rw [List.all_eq_true]
    intro x hx
    rw [show x = c from List.eq_of_mem_replicate hx, decide_eq_true_eq]
    exact hc.2
  have hf : fullN (rowS w h c).cells = w * h := row_full (by omega) _
  have hl : ((rowS w h c).cells.length : Int) = (w : Int) * 1 * h := by
    rw [show (rowS w h c).cells.length = w * h from List.length_replicate, Int.mul_one, Int.natCast_mul]
  simp only [Shape.valid, Bool.and_eq_true, inB_iff, decide_eq_true_eq]
  refine ⟨?_, ?_, ?_, hl, hp, by rw [hf]; omega⟩
  · show 1 ≤ (w : Int) ∧ (w : Int) ≤ 8
    omega
  · show (1 : Int) ≤ 1 ∧ (1 : Int) ≤ 8
    omega
  · show 1 ≤ (h : Int) ∧ (h : Int) ≤ 4
    omega
theorem two_ok : platesB (twoL 99 99) = true := by decide +kernel
theorem row_same {w h : Nat} {c d : Int} (hw : 1 ≤ w ∧ w ≤ 8) (hh : 1 ≤ h ∧ h ≤ 2) (hc : 1 ≤ c ∧ c ≤ 15) (hd : 1 ≤ d ∧ d ≤ 15) : (allComps (rowS w h c) (twoL 99 99)).length ≤ (allComps (rowS w h d) (twoL 99 99)).length := by
  refine nodup_le _ _ (all_nodup _ _) fun p hp => ?_
  have e := (mem_all (Shape.ok_of (row_valid hw hh hc)) two_ok (c := p.1) (out := p.2)).1 hp
  refine (mem_all (Shape.ok_of (row_valid hw hh hd)) two_ok (c := p.1) (out := p.2)).2 ?_
  rw [row_run (by omega)] at e
  rw [row_run (by omega), e, show (rowS w h c).cells = List.replicate (w * h) c from rfl, show (rowS w h d).cells = List.replicate (w * h) d from rfl, row_full (by omega), row_full (by omega)]
theorem fib_le : ∀ w, w < 8 → (fibP w).1 ≤ 34 := by decide +kernel
theorem row_count {w h : Nat} {c : Int} (hw : w < 8) (hh : h = 1 ∨ h = 2) (hc : 1 ≤ c ∧ c ≤ 15) : countI (rowS (w + 1) h c) (twoL 99 99) = ((if h = 2 then (fibP w).1 * (fibP w).1 else (fibP w).1 : Nat) : Int) ∧ askErr (rowS (w + 1) h c) (twoL 99 99) = 0 := by
  have hv := row_valid (w := w + 1) (h := h) (c := c) (by omega) (by omega) hc
  have ha : askErr (rowS (w + 1) h c) (twoL 99 99) = 0 := by
    unfold askErr platesErr
    rw [if_pos hv, if_pos two_ok]
  have hone : (allComps (rowS (w + 1) h 1) (twoL 99 99)).length = if h = 2 then (fibP w).1 * (fibP w).1 else (fibP w).1 := by
    rcases hh with rfl | rfl
    · exact row_low w hw
    · rw [if_pos rfl]
      rcases Nat.lt_or_ge w 7 with h7 | h7
      · exact row_high7 w h7
      · obtain rfl : w = 7 := by omega
        exact row_high8
  have hlen : (allComps (rowS (w + 1) h c) (twoL 99 99)).length = if h = 2 then (fibP w).1 * (fibP w).1 else (fibP w).1 := by
    rw [← hone]
    exact Nat.le_antisymm (row_same (by omega) (by omega) hc (by omega)) (row_same (by omega) (by omega) (by omega) hc)
  refine ⟨?_, ha⟩
  unfold countI
  rw [if_pos ha, hlen]
  have hf := fib_le w hw
  have hs : (fibP w).1 * (fibP w).1 ≤ 34 * 34 := Nat.mul_le_mul hf hf
  unfold wrap64
  split <;> omega
end Go.Proofs.YtpikemglnnjemaaDoor

namespace Go.Proofs.YtpikemglnnjemaaDoor
open Go.RowKit

theorem infoCell : (Tryd.prog.info? 5).map (fun i => (i.zero, i.size, i.bytes)) = some (some (.int .u8 0), 1, 1) := by kernel_rfl
theorem rowCount_c {m h T : Nat} {cc hI k : Int} (hm : m < 8) (hh : h = 1 ∨ h = 2) (hhI : hI = (h : Int)) (hT : (m + 1) * h = T) (hc : 1 ≤ cc ∧ cc ≤ 15) (hk : ((if h = 2 then (fibP m).1 * (fibP m).1 else (fibP m).1 : Nat) : Int) = k)
    (A : Option Addr) (cap : Nat) (PA : Option Addr) (pcap : Nat) (w : World) (hb : Bytes w A cap (List.replicate T cc)) (hp : Plates w PA pcap (twoL 99 99)) (hz : TzTab w) :
    Calls Tryd.prog 28 #[.agg #[.int .i64 ((m : Int) + 1), .int .i64 1, .int .i64 hI, .slice A T cap], .slice PA 2 pcap] w fun e w' => e = .returned (.tuple #[.int .i64 k, .int .i64 0]) ∧ Ext w w' := by
  subst hT hhI hk
  obtain ⟨h1, h2⟩ := row_count (w := m) (h := h) (c := cc) hm hh hc
  have := count_c (rowS (m + 1) h cc) A cap (twoL 99 99) PA pcap w hb hp hz
  rw [h1, h2, show (rowS (m + 1) h cc).cells.length = (m + 1) * h from List.length_replicate, show (rowS (m + 1) h cc).W = (m : Int) + 1 from rfl] at this
  exact this
theorem rowBytes {w : World} {base g cap n : Nat} {cc : Int} (hc : 1 ≤ cc ∧ cc ≤ 15) (hn : 0 < n) (own : w.ownsRow base 5 1 (.slice (some ⟨g, 0, none⟩) n cap) n (List.replicate n (.int .u8 cc))) : Bytes w (some ⟨g, 0, none⟩) cap (List.replicate n cc) := by
  have e2 : (List.replicate n (Value.int .u8 cc)) = (List.replicate n [Value.int .u8 cc]).flatten := by
    clear own hn
    induction n with
    | zero => rfl
    | succ n ih => rw [List.replicate_succ, List.replicate_succ, List.flatten_cons, ← ih]; rfl
  rw [e2] at own
  refine ⟨?_, fun c h => ?_⟩
  · rw [List.length_replicate, List.map_replicate]
    exact own_slice (by decide) (fun r hr => by rw [List.eq_of_mem_replicate hr]; rfl) (by simp) hn own
  · rw [List.eq_of_mem_replicate h]
    unfold byteOk
    omega
set_option maxRecDepth 100000 in
set_option maxHeartbeats 8000000 in
theorem row_walk (n c : Int) (b : Bool) (w : World) (hn : 0 ≤ n ∧ n ≤ 255) (hc : 0 ≤ c ∧ c ≤ 255) (hz : TzTab w) :
    Calls Tryd.prog 6 #[.int .u8 n, .int .u8 c, .bool b] w fun e w' => e = .returned (.bool true) ∧ Ext w w' := by
  obtain ⟨m, hm⟩ : ∃ m : Nat, n.tmod 8 = m := ⟨(n % 8).toNat, by rw [Int.tmod_eq_emod_of_nonneg hn.1]; omega⟩
  have hm8 : m < 8 := by
    rw [Int.tmod_eq_emod_of_nonneg hn.1] at hm
    omega
  obtain ⟨cc, hcc⟩ : ∃ cc : Int, c.tmod 15 = cc := ⟨_, rfl⟩
  have hc15 : 0 ≤ cc ∧ cc ≤ 14 := by
    rw [Int.tmod_eq_emod_of_nonneg hc.1] at hcc
    omega
  have f0 : IntKind.i64.wrap n = n := IntWalk.i64_in _ (by omega)
  have f1 : IntKind.i64.wrap (m : Int) = m := IntWalk.i64_in _ (by omega)
  have f2 : IntKind.i64.wrap ((m : Int) + 1) = (m : Int) + 1 := IntWalk.i64_in _ (by omega)
  have f3 : IntKind.i64.wrap ((m : Int) + 1 - 1) = (m : Int) := by
    rw [show (m : Int) + 1 - 1 = m by omega]
    exact f1
  have f4 : IntKind.u8.wrap cc = cc := IntWalk.u8_in _ (by omega)
  have f5 : IntKind.u8.wrap (cc + 1) = cc + 1 := IntWalk.u8_in _ (by omega)
  have hcc1 : 1 ≤ cc + 1 ∧ cc + 1 ≤ 15 := by omega
  obtain ⟨i0, hi, hz0, hz1, hz2⟩ := info_parts infoCell
  cases b
  · have g0 : IntKind.i64.wrap (((m : Int) + 1) * 1) = (((m + 1) * 1 : Nat) : Int) := by
      rw [IntWalk.i64_in _ (by omega)]
      push_cast
      rfl
    obtain ⟨T, hTT⟩ : ∃ T, (m + 1) * 1 = T := ⟨_, rfl⟩
    rw [hTT] at g0
    have hT16 : 0 < T ∧ T ≤ 16 := by omega
    have HTT := Lib.hid hTT
    clear hTT
    go_enter Tryd.func6, Tryd.ntmps6
    go_wp2_with fail
    refine (alive_c _ hz).mono ?_
    rintro e W2 ⟨rfl, E2⟩
    go_upto_region 5 with (fail)
    obtain ⟨W3, hW3, E3, B3, hz3⟩ := box_ W2 #[.int .i64 ((m : Int) + 1), .int .i64 1, .int .i64 1, .slice none 0 0] 24
    have HW3 := Lib.hid hW3
    clear hW3
    go_upto_region 6 with (fail)
    rw [HW3.out]
    have E13 := E2.trans E3
    obtain ⟨S, hS⟩ : ∃ S, W2.heap.size = S := ⟨_, rfl⟩
    rw [hS] at B3 hz3 ⊢
    have hSw : w.heap.size ≤ S := by rw [← hS]; exact E2.size
    clear HW3 hS
    go_wp2_with fail
    go_loopw [27] (fun i wr => ∃ (k : Nat) (v : Value), k ≤ T ∧ i = .int .i64 k ∧ Ext w wr ∧ Blk wr S 24 #[.int .i64 ((m : Int) + 1), .int .i64 1, .int .i64 1, v] ∧ wr.ownsRow (S + 1) 5 1 v k (List.replicate k (.int .u8 (cc + 1)))) (fun i _ => T - (intOf i).toNat)
    case atStart => exact ⟨0, _, by omega, rfl, E13, B3, World.ownsRow_nil _ _ _ _⟩
    case round =>
      obtain ⟨k, v, hk, rfl, E, BT, own⟩ := hrel
      clear B3
      have hSr := BT.lt
      have b0 := BT.cell
      by_cases hlt : k < T
      · have hml : k + 1 ≤ maxLen := by unfold maxLen; omega
        have d1 : decide ((k : Int) < ((m:Int)+1)) = true := by
          have := HTT.out
          rw [decide_eq_true_eq]
          omega
        go_wp2_with (at_builtin; refine wpList_append_one #[.int .u8 (cc + 1)] rfl (.tmp 30) (.tmp 34) 22 rfl (S + 1) 5 5 i0 (.int .u8 0) 1 1 Tryd.underlying22 hi hz0 hz1 hz2 rfl (by decide) v k _ _ rfl own rfl rfl (by simp [Value.oneCell']) hml (by omega) hSr ?_; intro g4 cap4 w4 own4 hg4; have BT4 := (BT.alloc _).grown hg4 (own_ne own (by omega)); have t4 := BT4.cell 3; have ft4 := BT4.frozen 3; have E4 := (E.alloc (.cells #[.int .u8 (cc + 1)] 5)).grown hg4 (fun q hq => by have := (own.lt q hq).1; omega))
        go_roundw
        case rel =>
          exact ⟨k + 1, .slice (some ⟨g4, 0, none⟩) (k + 1) cap4, by omega, by go_num, E4.setCell hSw _, BT4.set_ 3 _, by
            rw [List.replicate_succ']
            exact own_setCell own4 (Nat.lt_succ_self _) _⟩
        case measure => simp only [intOf]; omega
      · have d1 : decide ((k : Int) < ((m:Int)+1)) = false := by
          have := HTT.out
          rw [decide_eq_false_iff_not]
          omega
        obtain ⟨T', hT'⟩ : ∃ T' : Nat, T = T' ∧ T = k := ⟨T, rfl, by omega⟩
        obtain ⟨-, rfl⟩ := hT'
        obtain ⟨g, cap, rfl⟩ := own_form own hT16.1
        have hby := rowBytes hcc1 hT16.1 own
        go_wp2_with fail
        go_loopw [11, 12, 40] (fun a b i w' => ∃ k x y : Nat, k ≤ m ∧ i = .int .i64 k ∧ a = .int .i64 x ∧ b = .int .i64 y ∧ fibP k = (x, y) ∧ w' = wr) (fun _ _ i _ => m - (intOf i).toNat)
        case atStart => exact ⟨0, 1, 1, by omega, rfl, rfl, rfl, rfl, rfl⟩
        case round =>
          obtain ⟨k, x, y, hk, rfl, rfl, rfl, hxy, rfl⟩ := hrel
          have hx := fib_le k (by omega)
          rw [hxy] at hx
          by_cases hlt : k < m
          · have hx2 := fib_le (k + 1) (by omega)
            have e2 : fibP (k + 1) = (x + y, x) := by
              unfold fibP
              rw [hxy]
            rw [e2] at hx2
            have q1 : IntKind.i64.wrap ((x : Int) + y) = ((x + y : Nat) : Int) := by
              rw [IntWalk.i64_in _ (by omega)]
              push_cast
              rfl
            have He2 := Lib.hid e2
            clear e2 hxy
            go_wp2_with fail
            go_roundw
            case rel => exact ⟨k + 1, x + y, x, by omega, by go_num, rfl, rfl, He2.out, trivial⟩
            case measure => simp only [intOf]; omega
          · obtain rfl : m = k := by omega
            have q2 : IntKind.i64.wrap ((x : Int) * x) = (x : Int) * x := IntWalk.i64_in _ (by
              have : x * x ≤ 34 * 34 := Nat.mul_le_mul hx hx
              have : ((x * x : Nat) : Int) = (x : Int) * x := by push_cast; rfl
              omega)
            have HC : ∀ W PA pcap, Ext wr W → Plates W PA pcap (twoL 99 99) → Calls Tryd.prog 28 #[.agg #[.int .i64 ((m : Int) + 1), .int .i64 1, .int .i64 1, .slice (some ⟨g, 0, none⟩) T cap], .slice PA 2 pcap] W fun e w' => e = .returned (.tuple #[.int .i64 ((x:Int)), .int .i64 0]) ∧ Ext W w' := fun W PA pcap EW hp =>
              rowCount_c (m := m) (h := 1) (T := T) (cc := cc + 1) hm8 (by omega) rfl HTT.out hcc1 (by rw [hxy]; first | rfl | (push_cast; rfl)) _ _ _ _ _ (hby.ext EW) hp ((hz.ext E).ext EW)
            have HCd := Lib.hid HC
            clear HC hxy
            have BT' := BT.drew
            clear b0
            have b0 := BT'.cell
            go_upto_region 17 with (fail)
            go_region_law (first
              | (go_simp; go_at_call 30; refine (two_c 99 99 _).mono ?_; rintro e w5 ⟨pg, rfl, hp5, E5⟩; have b5 := (BT'.ext E5).cell; have HC5 := HCd.out w5 (some ⟨pg, 0, none⟩) 2 ((Ext.refl _).drew.trans E5) hp5)
              | (go_simp; go_at_call 28; refine HC5.mono ?_; rintro e w6 ⟨rfl, E6⟩))
            all_goals
              go_wp2_with fail
              go_ret
              exact ⟨rfl, (E.drew.trans E5).trans E6⟩
  · have g0 : IntKind.i64.wrap (((m : Int) + 1) * 2) = (((m + 1) * 2 : Nat) : Int) := by
      rw [IntWalk.i64_in _ (by omega)]
      push_cast
      rfl
    obtain ⟨T, hTT⟩ : ∃ T, (m + 1) * 2 = T := ⟨_, rfl⟩
    rw [hTT] at g0
    have hT16 : 0 < T ∧ T ≤ 16 := by omega
    have HTT := Lib.hid hTT
    clear hTT
    go_enter Tryd.func6, Tryd.ntmps6
    go_wp2_with fail
    refine (alive_c _ hz).mono ?_
    rintro e W2 ⟨rfl, E2⟩
    go_upto_region 5 with (fail)
    obtain ⟨W3, hW3, E3, B3, hz3⟩ := box_ W2 #[.int .i64 ((m : Int) + 1), .int .i64 1, .int .i64 2, .slice none 0 0] 24
    have HW3 := Lib.hid hW3
    clear hW3
    go_upto_region 6 with (fail)
    rw [HW3.out]
    have E13 := E2.trans E3
    obtain ⟨S, hS⟩ : ∃ S, W2.heap.size = S := ⟨_, rfl⟩
    rw [hS] at B3 hz3 ⊢
    have hSw : w.heap.size ≤ S := by rw [← hS]; exact E2.size
    clear HW3 hS
    go_wp2_with fail
    go_loopw [27] (fun i wr => ∃ (k : Nat) (v : Value), k ≤ T ∧ i = .int .i64 k ∧ Ext w wr ∧ Blk wr S 24 #[.int .i64 ((m : Int) + 1), .int .i64 1, .int .i64 2, v] ∧ wr.ownsRow (S + 1) 5 1 v k (List.replicate k (.int .u8 (cc + 1)))) (fun i _ => T - (intOf i).toNat)
    case atStart => exact ⟨0, _, by omega, rfl, E13, B3, World.ownsRow_nil _ _ _ _⟩
    case round =>
      obtain ⟨k, v, hk, rfl, E, BT, own⟩ := hrel
      clear B3
      have hSr := BT.lt
      have b0 := BT.cell
      by_cases hlt : k < T
      · have hml : k + 1 ≤ maxLen := by unfold maxLen; omega
        have d1 : decide ((k : Int) < (T:Int)) = true := by
          have := HTT.out
          rw [decide_eq_true_eq]
          omega
        go_wp2_with (at_builtin; refine wpList_append_one #[.int .u8 (cc + 1)] rfl (.tmp 30) (.tmp 34) 22 rfl (S + 1) 5 5 i0 (.int .u8 0) 1 1 Tryd.underlying22 hi hz0 hz1 hz2 rfl (by decide) v k _ _ rfl own rfl rfl (by simp [Value.oneCell']) hml (by omega) hSr ?_; intro g4 cap4 w4 own4 hg4; have BT4 := (BT.alloc _).grown hg4 (own_ne own (by omega)); have t4 := BT4.cell 3; have ft4 := BT4.frozen 3; have E4 := (E.alloc (.cells #[.int .u8 (cc + 1)] 5)).grown hg4 (fun q hq => by have := (own.lt q hq).1; omega))
        go_roundw
        case rel =>
          exact ⟨k + 1, .slice (some ⟨g4, 0, none⟩) (k + 1) cap4, by omega, by go_num, E4.setCell hSw _, BT4.set_ 3 _, by
            rw [List.replicate_succ']
            exact own_setCell own4 (Nat.lt_succ_self _) _⟩
        case measure => simp only [intOf]; omega
      · have d1 : decide ((k : Int) < (T:Int)) = false := by
          have := HTT.out
          rw [decide_eq_false_iff_not]
          omega
        obtain ⟨T', hT'⟩ : ∃ T' : Nat, T = T' ∧ T = k := ⟨T, rfl, by omega⟩
        obtain ⟨-, rfl⟩ := hT'
        obtain ⟨g, cap, rfl⟩ := own_form own hT16.1
        have hby := rowBytes hcc1 hT16.1 own
        go_wp2_with fail
        go_loopw [11, 12, 40] (fun a b i w' => ∃ k x y : Nat, k ≤ m ∧ i = .int .i64 k ∧ a = .int .i64 x ∧ b = .int .i64 y ∧ fibP k = (x, y) ∧ w' = wr) (fun _ _ i _ => m - (intOf i).toNat)
        case atStart => exact ⟨0, 1, 1, by omega, rfl, rfl, rfl, rfl, rfl⟩
        case round =>
          obtain ⟨k, x, y, hk, rfl, rfl, rfl, hxy, rfl⟩ := hrel
          have hx := fib_le k (by omega)
          rw [hxy] at hx
          by_cases hlt : k < m
          · have hx2 := fib_le (k + 1) (by omega)
            have e2 : fibP (k + 1) = (x + y, x) := by
              unfold fibP
              rw [hxy]
            rw [e2] at hx2
            have q1 : IntKind.i64.wrap ((x : Int) + y) = ((x + y : Nat) : Int) := by
              rw [IntWalk.i64_in _ (by omega)]
              push_cast
              rfl
            have He2 := Lib.hid e2
            clear e2 hxy
            go_wp2_with fail
            go_roundw
            case rel => exact ⟨k + 1, x + y, x, by omega, by go_num, rfl, rfl, He2.out, trivial⟩
            case measure => simp only [intOf]; omega
          · obtain rfl : m = k := by omega
            have q2 : IntKind.i64.wrap ((x : Int) * x) = (x : Int) * x := IntWalk.i64_in _ (by
              have : x * x ≤ 34 * 34 := Nat.mul_le_mul hx hx
              have : ((x * x : Nat) : Int) = (x : Int) * x := by push_cast; rfl
              omega)
            have HC : ∀ W PA pcap, Ext wr W → Plates W PA pcap (twoL 99 99) → Calls Tryd.prog 28 #[.agg #[.int .i64 ((m : Int) + 1), .int .i64 1, .int .i64 2, .slice (some ⟨g, 0, none⟩) T cap], .slice PA 2 pcap] W fun e w' => e = .returned (.tuple #[.int .i64 ((x:Int)*x), .int .i64 0]) ∧ Ext W w' := fun W PA pcap EW hp =>
              rowCount_c (m := m) (h := 2) (T := T) (cc := cc + 1) hm8 (by omega) rfl HTT.out hcc1 (by rw [hxy]; first | rfl | (push_cast; rfl)) _ _ _ _ _ (hby.ext EW) hp ((hz.ext E).ext EW)
            have HCd := Lib.hid HC
            clear HC hxy
            have BT' := BT.drew
            clear b0
            have b0 := BT'.cell
            go_upto_region 17 with (fail)
            go_region_law (first
              | (go_simp; go_at_call 30; refine (two_c 99 99 _).mono ?_; rintro e w5 ⟨pg, rfl, hp5, E5⟩; have b5 := (BT'.ext E5).cell; have HC5 := HCd.out w5 (some ⟨pg, 0, none⟩) 2 ((Ext.refl _).drew.trans E5) hp5)
              | (go_simp; go_at_call 28; refine HC5.mono ?_; rintro e w6 ⟨rfl, E6⟩))
            all_goals
              go_wp2_with fail
              go_ret
              exact ⟨rfl, (E.drew.trans E5).trans E6⟩
end Go.Proofs.YtpikemglnnjemaaDoor

namespace Go.Proofs.YtpikemglnnjemaaDoor
open Go.RowKit Go.ChangeShapes Go.WideShapes Go.ChangeAt Go.Deep Go.Joins

theorem byte_of_wf {n : Int} (h : (Lit.int .u8 n).wf = true) : 0 ≤ n ∧ n ≤ 255 := by
  unfold Lit.wf at h
  rw [Bool.and_eq_true, decide_eq_true_eq, decide_eq_true_eq] at h
  exact h
set_option maxRecDepth 100000 in
theorem row_lifted (os : Os) (started : os.Started) (H : Type) (enc : TypeId × Value → H) :
    ReturnsInHanded {} Tryd.checked os 6 .any (fun w args => (Rows.composeRowSpec.pre enc Tryd.prog Tryd.f6 [] false w args ∧ laidMetH Tryd.prog laidTab w) ∧ sizedMet enc Tryd.prog Tryd.f6 (OpenSpec.ofChange Rows.composeRowSpec) false w args)
      (Rows.composeRowSpec.post enc Tryd.prog Tryd.f6 false true false false) := by
  refine returnsInHanded_of_change_and (C := Tryd.checked) (X := fun w _ => laidMetH Tryd.prog laidTab w) (fun _ _ _ hh h => h.of_heap hh) Tryd.own started (by kernel_rfl) Tryd.func6
    (ChangeSpec.witness_at (enc := enc) (C := Tryd.checked) (os := os) (X := fun w _ => laidMetH Tryd.prog laidTab w) false (laidWorld os) #[.int .u8 0, .int .u8 0, .bool false] 8 rfl (by kernel_rfl) (by kernel_rfl) (by kernel_rfl) (by kernel_rfl) (by kernel_rfl) (laidWorld_met os _)) ?_
  intro W base args ds gs before hval0 hW _ _ hL _
  have hval : ∀ (j : Nat) t v, Tryd.f6.params[j]? = some t → args[j]? = some v → Value.okWide Tryd.prog W .any base t v := hval0
  have hW' := hW
  obtain ⟨p, q, hA0, hV, rfl, hfz, hnd⟩ := hW
  have hA : DataW.TrodAll enc Tryd.prog W 0 (fun _ => true) true Tryd.f6.params.toList args.toList ds p := hA0
  rw [Tryd.params6] at hA hval
  have hAll := hA
  obtain ⟨v0, v1, v2, d0, d1, d2, p0, p1, p2, rfl, rfl, rfl, h0, h1, h2⟩ := trodAll_three hA
  obtain ⟨rfl, rfl⟩ := trodVars_none hV
  obtain ⟨n, rfl, rfl, rfl, hn⟩ := open_int Tryd.underlying5 (hval 0 5 v0 rfl rfl) h0
  obtain ⟨c, rfl, rfl, rfl, hc⟩ := open_int Tryd.underlying5 (hval 1 5 v1 rfl rfl) h1
  obtain ⟨b, rfl, rfl, rfl⟩ := open_bool Tryd.underlying4 (hval 2 4 v2 rfl rfl) h2
  have hn := byte_of_wf hn
  have hc := byte_of_wf hc
  clear hA0 hval0
  simp only [List.append_nil] at hW' hAll
  have hlt : ∀ q ∈ ([] : List MemPlace), q.block < W.heap.size := fun q hq => by cases hq
  refine (row_walk n c b W hn hc (tz_of_laid hL)).mono fun e W' ⟨he, hE⟩ => ?_
  subst he
  refine ⟨_, rfl, ?_⟩
  refine ⟨_, _, _, [], [], [], hW', ?_, ?_, rfl, hE.frame _, fun h => by cases h⟩
  · exact trodAll_mk1 (shut_bool Tryd.underlying4 true)
  · exact trodAll_ext (ts := [5, 5, 4]) Tryd.laidOut hE (by
      intro t ht
      simp only [List.mem_cons, List.not_mem_nil, or_false] at ht
      rcases ht with rfl | rfl | rfl <;> exact ⟨by kernel_rfl, of_decide_eq_true (by kernel_rfl)⟩) hAll hlt

theorem composeRow_row : Rows.ComposeRowSaid :=
  OpenClaim.holds_of_wide 6 Tryd.f6 rfl rfl rfl rfl rfl rfl rfl ⟨rfl, rfl, rfl, rfl, rfl⟩ rfl rfl rfl rfl rfl (by kernel_rfl) Tryd.func6 (by kernel_rfl)
    (of_decide_eq_true (by kernel_rfl)) (by unfold Func.isWrapper; rw [if_neg (of_decide_eq_false (by kernel_rfl))]; exact ⟨rfl, rfl⟩)
    (fun os started H enc _ => row_lifted os started H enc)
theorem composeRow_holds : Rows.ComposeRowCardSaid :=
  Claim7.holds_tied_plain_at .later [] [.data] true Rows.composeRowCard.stood.harness false
    composeRow_row (fun _ h => by cases h) (by kernel_rfl) (fun _ h => by cases h) composeRow_row_tie rfl ⟨rfl, rfl⟩ (by kernel_rfl) rfl
    (fun f fn hf hfn => by
      obtain rfl : f = 6 := Option.some.inj ((show Tryd.prog.funcNamed "studwork/studworklaw07.ComposeRow" = some 6 by kernel_rfl).symm.trans hf) |>.symm
      obtain rfl : fn = Tryd.f6 := (Option.some.inj (Tryd.func6.symm.trans hfn)).symm
      exact ⟨by kernel_rfl, fun j t ht => by
        rw [Tryd.params6] at ht
        have ht := List.mem_of_getElem? (show ([5, 5, 4] : List TypeId)[j]? = some t by simpa using ht)
        simp only [List.mem_cons, List.not_mem_nil, or_false] at ht
        rcases ht with rfl | rfl | rfl
        · exact (show Tryd.prog.wantsStandIn 5 = false by kernel_rfl)
        · exact (show Tryd.prog.wantsStandIn 5 = false by kernel_rfl)
        · exact (show Tryd.prog.wantsStandIn 4 = false by kernel_rfl)⟩)
    (by kernel_rfl)
#print axioms composeRow_holds
end Go.Proofs.YtpikemglnnjemaaDoor
