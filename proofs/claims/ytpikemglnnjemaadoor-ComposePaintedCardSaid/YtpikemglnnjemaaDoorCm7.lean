/- set, sets, Check of the program. Bits of a set, one after another; how many there are. math/bits.OnesCount32. math/bits.TrailingZeros32, where its table reads as the text lays it. The set that hangs grows, of sets: what it is when nothing more is added. cells: the iterator over the bits of a set. A range over an iterator that keeps its state in a box of its own; the body of a round only falls through. cells$1: the iterator over the bits of a set that lies in a box. up: the cells above those of a set. -/
import Derived.Test.YtpikemglnnjemaaDoorCm6
import Derived.Lib.TrailingZeros
import Derived.BigQuiet
import Derived.KernelRfl
import Derived.Shelf.Spec.TrailingZeros
import Derived.RangeFuncNested
import Derived.RangeFuncBound
import Derived.RangeFuncCalls
import Derived.RangeFuncLeaves
import Derived.Shelf.Abstract
import Derived.Shelf.RegionOpen
import Derived.OwnWalkIn
import Derived.TacticsInMore
import Derived.LoopNIn
import Derived.LoopIn
import Derived.BigRegionIn

namespace Go.Proofs.YtpikemglnnjemaaDoor
open Go.RowKit

theorem infoU32 : (Tryd.prog.info? 136).map (fun i => (i.zero, i.size, i.bytes)) = some (some (.int .u32 0), 1, 4) := by kernel_rfl
def uv (n : Nat) : Value := .int .u32 (n : Int)
/-- What a lookup of a sort gives. -/
def sortV : Option Nat → Value
  | some v => .tuple #[.int .u32 (v : Int), .bool true]
  | none => .tuple #[.int .u32 0, .bool false]
theorem look_sort {w : World} {M : Nat} {m : List ((Int × Bool) × Nat)} (h : MapOf encSort encSet w M m) (a : Int) (b : Bool) : (Instr.lookup 156 (.map (some M)) (.agg #[.int .i64 a, .bool b]) true).run Tryd.prog w = .ok (sortV (getK m (a, b))) w := by
  have := lookup_run sortKey Tryd.underlying156 (w := w) (z := .int .u32 0) (by kernel_rfl) h (a, b) true
  rw [show Value.agg #[.int .i64 a, .bool b] = encSort (a, b) from rfl, this]
  cases getK m (a, b) <;> rfl
/-- The map of a place. -/
theorem lay_place {s : Shape} {l : List Plate} (ok : s.Ok) {x y z : Int} {n : Nat} (h : s.num x y z = n) (q : Int × Bool) :
    layAt s l ((placesS s s.cells.length).getD n 0) q = layF s l x y z (s.colorAt x y z) l.length q := by
  have hin : s.inside x y z = true := num_in (by omega)
  have hid := s.idx_in ok hin
  obtain ⟨p1, p2, p3⟩ := s.place_of ok hin
  have hne : s.num x y z = numOf s.cells (s.idx x y z).toNat := s.num_eq hin
  have hg := placesS_get (s := s) (Nat.le_refl _) (show (s.idx x y z).toNat < s.cells.length by omega) (by omega)
  rw [← hne, h, Int.toNat_natCast] at hg
  rw [List.getD_eq_getElem?_getD, hg]
  show layAt s l (s.idx x y z).toNat q = _
  unfold layAt Shape.colorAt
  rw [p1, p2, p3, if_pos hin]
theorem bits_and {a b : Nat} (ha : a < 65536) (hb : b < 65536) : bits .and .u32 (a : Int) (b : Int) = ((a &&& b : Nat) : Int) := by
  exact u32_and_nat a b (by omega) (by omega)
theorem bits_or {a b : Nat} (ha : a < 65536) (hb : b < 65536) : bits .or .u32 (a : Int) (b : Int) = ((a ||| b : Nat) : Int) := by
  exact u32_or_nat a b (by omega) (by omega)
theorem cover_small {s : Shape} {l : List Plate} {c : Laid} {m : Nat} (ok : s.Ok) (hm : coverOf s l c = some m) : m < 65536 := by
  have : m < 2 ^ 16 := by
    apply Nat.lt_pow_two_of_testBit
    intro i hi
    cases hb : m.testBit i
    · rfl
    · have := (cover_lt ok hm hb).1
      have := ok.full
      omega
  omega
theorem liesB_plate {s : Shape} {l : List Plate} {c : Laid} (h : liesB s l c = true) : 0 ≤ c.plate ∧ c.plate < l.length := (lies_iff.1 h).1
theorem own_setCell_ne {w : World} {base : Nat} {e : TypeId} {size : Nat} {v : Value} {n : Nat} {xs : List Value} (h : w.ownsRow base e size v n xs) {p : Addr} (hp : p.block < base) (u : Value) : (w.setCell p u).ownsRow base e size v n xs := own_setCell h hp u
theorem flat_uv (xs : List Nat) : (xs.map fun n => [uv n]).flatten = xs.map uv := by
  induction xs with
  | nil => rfl
  | cons x l ih => simp [ih]
theorem full_eq {F all : Nat} (hF : F ≤ 16) : ((all : Int) == ((2 : Int) ^ F - 1) % 4294967296) = decide (all = 2 ^ F - 1) := by
  have h1 : 2 ^ F ≤ 2 ^ 16 := Nat.pow_le_pow_right (by omega) hF
  have h2 : 1 ≤ 2 ^ F := Nat.one_le_two_pow
  have e : (2 : Int) ^ F = ((2 ^ F : Nat) : Int) := (Int.natCast_pow 2 F).symm
  rw [e]
  generalize 2 ^ F = p at h1 h2
  rw [Bool.eq_iff_iff]
  simp only [beq_iff_eq, decide_eq_true_eq]
  omega
/-- What set hands back. -/
def SetRes (s : Shape) (l : List Plate) (c : List Laid) (w : World) (e : Ending) (w' : World) : Prop :=
  (∃ SA sc, ∃ out : List Nat, e = .returned (.tuple #[.slice SA out.length sc, .bool (setB s l c)]) ∧ (setB s l c = true → SliceIs w' SA out.length sc 1 (out.map fun m => [uv m]) ∧ ∃ all, setRun s l c c.length = some (out, all) ∧ all = 2 ^ fullN s.cells - 1)) ∧ Ext w w'
theorem setB_bad {s : Shape} {l : List Plate} {c : List Laid} {k : Nat} {out : List Nat} {all : Nat} (h : setRun s l c k = some (out, all)) (hk : k < c.length) (hs : setStep s l c k (out, all) = none) : setB s l c = false := by
  have : setRun s l c c.length = none := runs_fail h hs hk
  unfold setB
  rw [this]

set_option maxRecDepth 100000 in
set_option maxHeartbeats 8000000 in
theorem set_c (g : Nat) (s : Shape) (A : Option Addr) (cap : Nat) (l : List Plate) (PA : Option Addr) (pcap : Nat) (NA : Option Addr) (ncap : Nat) (AA : Option Addr) (acap : Nat) (EA : Option Addr) (ec : Nat) (OA : Option Addr) (oc : Nat) (LA : Option Addr) (lc : Nat) (ms : List Nat)
    (c : List Laid) (CA : Option Addr) (ccap : Nat) (ok : s.Ok) (okl : platesB l = true) (hclen : c.length ≤ 1000) (w : World) (hB : Board w g s A cap l PA pcap NA ncap AA acap EA ec OA oc LA lc ms) (hcs : Laids w CA ccap c) :
    Calls Tryd.prog 85 #[.pointer (some ⟨g, 0, none⟩), .slice CA c.length ccap] w (SetRes s l c w) := by
  have hl8 := plates_len okl
  have hmk := make_ints l.length (by omega)
  obtain ⟨W2, hW2, E2, B2, hz2⟩ := box_ w (intsA (List.replicate l.length 0)) 3
  rw [← usedL_zero l c] at B2
  obtain ⟨U, hU⟩ : ∃ U, w.heap.size = U := ⟨_, rfl⟩
  rw [hU] at B2 hz2
  have c4 := hB.brd.c4
  have hF := ok.full
  go_enter Tryd.func85, Tryd.ntmps85
  go_wp2_with fail
  clear hmk hW2 c4
  have HU := Lib.hid hU
  clear hU
  go_loopw [6, 7, 8, 23] (fun ov al la i wr => ∃ (k : Nat) (out : List Nat) (all : Nat), k ≤ c.length ∧ i = .int .i64 k ∧ al = .int .u32 (all : Int) ∧ la = .int .i64 (prevNum s c k) ∧ setRun s l c k = some (out, all) ∧ all < 65536 ∧ Ext w wr ∧
    Blk wr U 3 (intsA (usedL l c k)) ∧ wr.ownsRow (U + 1) 136 1 ov out.length (out.map uv)) (fun _ _ _ i _ => c.length - (intOf i).toNat)
  case atStart => exact ⟨0, [], 0, by omega, rfl, rfl, rfl, rfl, by omega, E2, B2, World.ownsRow_nil _ _ _ _⟩
  case round =>
    obtain ⟨k, out, all, hk, rfl, rfl, rfl, hrun, hall, E, BU, own⟩ := hrel
    have hol1 : out.length ≤ 1000 := by have := (setRun_is hrun).len; omega
    have Hrun := Lib.hid hrun
    clear hrun
    have hUr : U < wr.heap.size := BU.lt
    by_cases hlt : k < c.length
    · obtain ⟨b, off, a, rfl, ha, hb, a0, a1, a2, a3, a4⟩ := hcs.at_ hlt
      obtain ⟨q0, q1, q2, q3, q4⟩ := E.five a0 a1 a2 a3 a4
      have hbr : b < wr.heap.size := Nat.lt_of_lt_of_le hb E.size
      have Ha := Lib.hid ha
      have Hla := Lib.hid (laidAt_eq ha)
      clear ha
      obtain ⟨W1, hW1, E1, B1, hz1⟩ := box_ wr #[.int .i64 a.plate, .int .i64 a.x, .int .i64 a.y, .int .i64 a.z, .bool a.turned] 85
      have b1 := B1.cell
      have BU1 := BU.ext E1
      have own1 := own_ext own E1
      have E01 := E.trans E1
      have hB1 := hB.ext E01
      obtain ⟨n, hn⟩ : ∃ n, s.num a.x a.y a.z = n := ⟨_, rfl⟩
      obtain ⟨la, hla⟩ : ∃ la, prevNum s c k = la := ⟨_, rfl⟩
      have hlo : -1 ≤ la := by rw [← hla]; exact prevNum_ge s c k
      have Hn := Lib.hid hn
      have Hlast := Lib.hid hla
      rw [hla]
      clear hla
      by_cases hle : n ≤ la
      · have hd : decide (n ≤ la) = true := by simpa using hle
        have Hbad := Lib.hid (setB_bad Hrun.out hlt (by
          unfold setStep numL
          rw [Hla.out, Hn.out, Hlast.out, if_pos hle]))
        clear hn hle
        go_wp2_with fail
        refine (at_c a.x a.y a.z g s A cap _ _ ok _ hB1.brd.base).mono ?_
        rintro e W3 ⟨rfl, E3⟩
        rw [Hn.out]
        go_wp2_with fail
        go_ret2
        exact ⟨⟨none, 0, [], by rw [Hbad.out]; rfl, fun h => by rw [Hbad.out] at h; cases h⟩, E01.trans E3⟩
      · have hd : decide (n ≤ la) = false := by simpa using hle
        have hnlt : n < fullN s.cells := by rw [← hn]; exact num_lt_full ok _ _ _
        clear hn
        obtain ⟨j, hj⟩ := Int.eq_ofNat_of_zero_le (show 0 ≤ n by omega)
        subst hj
        have hjm : j < ms.length := by rw [hB.len]; omega
        obtain ⟨Mj, hMj⟩ : ∃ Mj, ms[j]? = some Mj := ⟨_, List.getElem?_eq_getElem hjm⟩
        obtain ⟨m, hmap, hget⟩ := hB.maps j Mj hMj
        have Hcov : Hid (getK m (a.plate, a.turned) = coverOf s l a) := Lib.hid (by
          rw [hget, lay_place ok Hn.out]
          rfl)
        clear hget
        obtain ⟨lb, loff, hLA, hlb, hlc⟩ := hB.lays.cells (by omega)
        have lcell := hlc j [mapV Mj] (by rw [List.getElem?_map, hMj]; rfl) 0 _ rfl
        simp only [Nat.mul_one, Nat.add_zero, mapV] at lcell
        subst hLA
        clear hlc hMj hjm
        obtain ⟨r, hr⟩ : ∃ r, coverOf s l a = r := ⟨_, rfl⟩
        have Hr := Lib.hid hr
        clear hr
        cases r with
        | none =>
          have Hbad := Lib.hid (setB_bad Hrun.out hlt (by
            unfold setStep numL
            rw [Hla.out, Hn.out, Hlast.out, if_neg (show ¬ ((j : Int) ≤ la) by omega), Hr.out]))
          go_wp2_with fail
          refine (at_c a.x a.y a.z g s _ cap _ _ ok _ hB1.brd.base).mono ?_
          rintro e W3 ⟨rfl, E3⟩
          rw [Hn.out]
          have E03 := E01.trans E3
          have hB3 := hB.ext E03
          have c9 := hB3.c9
          have lcell3 := E03.cell lcell
          have B3 := B1.ext E3
          have b3 := B3.cell
          have hlk : ∀ x, (Instr.lookup 156 (.map (some Mj)) (.agg #[.int .i64 a.plate, .bool a.turned]) true).run Tryd.prog (grow W3 x) = .ok (sortV none) (grow W3 x) := fun x => by
            rw [look_sort (hmap.ext (E03.trans ((Ext.refl _).grow x))), Hcov.out, Hr.out]
          have hj63 : (j : Int) < 16 := by omega
          clear b1 q0 q1 q2 q3 q4
          dsimp only [sortV] at hlk
          go_wp2_with fail
          refine wp_region_grow (by kernel_rfl) (by kernel_rfl) ?_
          repeat (go_big_quiet_step (fail))
          refine wpQuiet_nil ?_
          intro W4 hW4
          have E4 : Ext W3 W4 := by
            obtain ⟨x, rfl⟩ := hW4
            exact (Ext.refl _).grow x
          clear hW4
          obtain ⟨hcW4, hfW4, hzW4⟩ := ext_facts E4
          go_wp2_with fail
          go_ret2
          exact ⟨⟨none, 0, [], by rw [Hbad.out]; rfl, fun h => by rw [Hbad.out] at h; cases h⟩, E03.trans E4⟩
        | some mm =>
          have hmm := cover_small ok Hr.out
          have hb0 := bits_and hmm hall
          by_cases hand : mm &&& all = 0
          · have hpl := liesB_plate (lies_cover.2 ⟨by rw [Hn.out]; omega, by rw [Hr.out]; rfl⟩)
            have hb1 : (bits .and .u32 (mm : Int) (all : Int) != 0) = false := by rw [hb0, hand]; rfl
            have hb2 : (bits .and .u32 (mm : Int) (all : Int) == 0) = true := by rw [hb0, hand]; rfl
            have hb3 : bits .or .u32 (all : Int) (mm : Int) = ((all ||| mm : Nat) : Int) := bits_or hall hmm
            have hor : all ||| mm < 65536 := by
              have := Nat.or_lt_two_pow (x := all) (y := mm) (n := 16) (by omega) (by omega)
              omega
            obtain ⟨hp1, hp2⟩ := hpl
            obtain ⟨pb, poff, p, hPA, hpl, hpb, p0, p1, p2, p3⟩ := hB.brd.plates.at_ (k := a.plate.toNat) (by omega)
            subst hPA
            have okp := (plate_ok okl hpl).n
            have Hp := Lib.hid (plateAt_eq hpl)
            clear hpl
            have hun : usedN c k a.plate ≤ 1000 := by have := usedN_le c k a.plate; omega
            have hpt : ((a.plate.toNat : Nat) : Int) = a.plate := by omega
            have Hget : Hid ((usedL l c k)[a.plate.toNat]? = some (usedN c k a.plate : Int)) := Lib.hid (by
              have := usedL_get (l := l) (c := c) (k := k) (p := a.plate.toNat) (by omega)
              rwa [hpt] at this)
            have Hset : Hid ((usedL l c k).set a.plate.toNat ((usedN c k a.plate : Int) + 1) = usedL l c (k + 1)) := Lib.hid (by
              have := usedL_succ (l := l) (p := a.plate.toNat) Ha.out hpt.symm
              rwa [hpt] at this)
            have Hsucc : Hid (usedN c (k + 1) a.plate = usedN c k a.plate + 1) := Lib.hid (by
              have := usedN_succ Ha.out a.plate
              rwa [if_pos rfl] at this)
            clear hpt
            have Hand := Lib.hid hand
            clear hand hb0
            go_wp2_with fail
            refine (at_c a.x a.y a.z g s _ cap _ _ ok _ hB1.brd.base).mono ?_
            rintro e W3 ⟨rfl, E3⟩
            rw [Hn.out]
            have E03 := E01.trans E3
            have hB3 := hB.ext E03
            have c9 := hB3.c9
            have lcell3 := E03.cell lcell
            have B3 := B1.ext E3
            have b3 := B3.cell
            have hlk : ∀ x, (Instr.lookup 156 (.map (some Mj)) (.agg #[.int .i64 a.plate, .bool a.turned]) true).run Tryd.prog (grow W3 x) = .ok (sortV (some mm)) (grow W3 x) := fun x => by
              rw [look_sort (hmap.ext (E03.trans ((Ext.refl _).grow x))), Hcov.out, Hr.out]
            have hj63 : (j : Int) < 16 := by omega
            clear b1 q0 q1 q2 q3 q4
            dsimp only [sortV] at hlk
            go_wp2_with fail
            refine wp_region_grow (by kernel_rfl) (by kernel_rfl) ?_
            repeat (go_big_quiet_step (fail))
            refine wpQuiet_nil ?_
            intro W4 hW4
            have E4 : Ext W3 W4 := by
              obtain ⟨x, rfl⟩ := hW4
              exact (Ext.refl _).grow x
            clear hW4
            obtain ⟨hcW4, hfW4, hzW4⟩ := ext_facts E4
            clear hlk b3
            have E04 := E03.trans E4
            have B4 := B3.ext E4
            have b4 := B4.cell
            have BU4 := (BU1.ext E3).ext E4
            have own4 := own_ext (own_ext own1 E3) E4
            have bu4 : W4.cell? ⟨U, a.plate.toNat, none⟩ = some (.int .i64 (usedN c k a.plate)) := by rw [BU4.cell, intsA_get, Hget.out]; rfl
            have fu4 := BU4.frozen a.plate.toNat
            obtain ⟨W5, hW5, BU5, keep5, ext5, hz5⟩ := BU4.store1 a.plate.toNat (.int .i64 ((usedN c k a.plate : Int) + 1))
            rw [intsA_set, Hset.out] at BU5
            have E05 : Ext w W5 := ext5 w E04 (by rw [HU.out]; exact Nat.le_refl _)
            have B5 := keep5 _ _ _ (by omega) B4
            have b5 := B5.cell
            have own5 := own_setCell_ne own4 (p := ⟨U, a.plate.toNat, none⟩) (by show U < U + 1; omega) (.int .i64 ((usedN c k a.plate : Int) + 1))
            rw [hW5] at own5
            obtain ⟨t0, t1, t2, t3⟩ := E05.four p0 p1 p2 p3
            have c45 := (hB.ext E05).brd.c4
            have bu5 : W5.cell? ⟨U, a.plate.toNat, none⟩ = some (.int .i64 ((usedN c k a.plate : Int) + 1)) := by
              have hg := usedL_get (l := l) (c := c) (k := k + 1) (p := a.plate.toNat) (by omega)
              rw [show ((a.plate.toNat : Nat) : Int) = a.plate by omega, Hsucc.out] at hg
              rw [BU5.cell, intsA_get, hg]
              simp [iv]
            clear hz5
            by_cases hu : p.N < (usedN c k a.plate : Int) + 1
            · have hub : decide (p.N < (usedN c k a.plate : Int) + 1) = true := by simpa using hu
              have Hbad := Lib.hid (setB_bad Hrun.out hlt (by
                unfold setStep numL
                rw [Hla.out, Hn.out, Hlast.out, if_neg (show ¬ ((j : Int) ≤ la) by omega), Hr.out, Hp.out, Hsucc.out]
                show (if _ ∨ p.N < ((usedN c k a.plate + 1 : Nat) : Int) then _ else _) = _
                rw [if_pos (Or.inr (by omega))]))
              clear hu
              go_wp2_with fail
              refine wp_region_grow (by kernel_rfl) (by kernel_rfl) ?_
              repeat (go_big_quiet_step (fail))
              refine wpQuiet_nil ?_
              intro W6 hW6
              have E6 : Ext W5 W6 := by
                obtain ⟨x, rfl⟩ := hW6
                exact (Ext.refl _).grow x
              clear hW6
              obtain ⟨hcW6, hfW6, hzW6⟩ := ext_facts E6
              go_wp2_with fail
              go_ret2
              exact ⟨⟨none, 0, [], by rw [Hbad.out]; rfl, fun h => by rw [Hbad.out] at h; cases h⟩, E05.trans E6⟩
            · have hub : decide (p.N < (usedN c k a.plate : Int) + 1) = false := by simpa using hu
              have Hgood : Hid (setRun s l c (k + 1) = some (out ++ [mm], all ||| mm)) := Lib.hid (by
                show runs _ (k + 1) _ = _
                rw [runs_succ Hrun.out]
                unfold setStep numL
                rw [Hla.out, Hn.out, Hlast.out, if_neg (show ¬ ((j : Int) ≤ la) by omega), Hr.out, Hp.out, Hsucc.out]
                show (if mm &&& all ≠ 0 ∨ p.N < ((usedN c k a.plate + 1 : Nat) : Int) then none else some (out ++ [mm], all ||| mm)) = _
                rw [if_neg]
                rintro (h | h)
                · exact h Hand.out
                · omega)
              have Hprev : Hid (prevNum s c (k + 1) = (j : Int)) := Lib.hid (by
                show numL s (laidAt c k) = _
                rw [Hla.out]
                exact Hn.out)
              clear hu
              obtain ⟨i0, hi, hz0, hz1', hz2'⟩ := info_parts infoU32
              have hml : out.length + 1 ≤ maxLen := by unfold maxLen; omega
              have hml2 : (out.length + 1) * 4 ≤ 140737488355328 := by omega
              go_wp2_with fail
              refine wp_region_grow (by kernel_rfl) (by kernel_rfl) ?_
              repeat (go_big_quiet_step (fail))
              refine wpQuiet_nil ?_
              intro W6 hW6
              have E6 : Ext W5 W6 := by
                obtain ⟨x, rfl⟩ := hW6
                exact (Ext.refl _).grow x
              clear hW6
              obtain ⟨hcW6, hfW6, hzW6⟩ := ext_facts E6
              have own6 := own_ext own5 E6
              have BU6 := BU5.ext E6
              have hbase6 : U + 1 ≤ W6.heap.size := BU6.lt
              clear b4 b5 bu4 bu5 t0 t1 t2 t3 c45 fu4
              go_wp2_with (at_builtin; refine wpList_append_one #[.int .u32 (mm : Int)] rfl (.tmp 87) (.tmp 89) 92 rfl (U + 1) 136 136 i0 (.int .u32 0) 1 4 Tryd.underlying92 hi hz0 hz1' hz2' rfl (by decide) _ out.length _ _ rfl own6 rfl rfl (by simp [Value.oneCell']) hml hml2 hbase6 ?_; intro g7 cap7 w7 own7 hg7; have BU7 := (BU6.alloc (.cells #[.int .u32 (mm : Int)] 136)).grown hg7 (own_ne own6 (by omega)); have E7 := ((E05.trans E6).alloc (.cells #[.int .u32 (mm : Int)] 136)).grown hg7 (fun q hq => by have := (own6.lt q hq).1; rw [HU.out]; omega))
              go_roundw
              case rel =>
                refine ⟨k + 1, out ++ [mm], all ||| mm, by omega, by go_num, by first | rfl | rw [hb3], by rw [Hprev.out], Hgood.out, hor, E7, BU7, ?_⟩
                rw [List.map_append, List.length_append]
                exact own7
              case measure => simp only [intOf]; omega
          · have hb1 : (bits .and .u32 (mm : Int) (all : Int) != 0) = true := by rw [hb0]; simpa using hand
            have hb2 : (bits .and .u32 (mm : Int) (all : Int) == 0) = false := by rw [hb0]; simpa using hand
            have Hbad := Lib.hid (setB_bad Hrun.out hlt (by
              unfold setStep numL
              rw [Hla.out, Hn.out, Hlast.out, if_neg (show ¬ ((j : Int) ≤ la) by omega), Hr.out]
              show (if mm &&& all ≠ 0 ∨ _ then _ else _) = _
              rw [if_pos (Or.inl hand)]))
            clear hand hb0
            go_wp2_with fail
            refine (at_c a.x a.y a.z g s _ cap _ _ ok _ hB1.brd.base).mono ?_
            rintro e W3 ⟨rfl, E3⟩
            rw [Hn.out]
            have E03 := E01.trans E3
            have hB3 := hB.ext E03
            have c9 := hB3.c9
            have lcell3 := E03.cell lcell
            have B3 := B1.ext E3
            have b3 := B3.cell
            have hlk : ∀ x, (Instr.lookup 156 (.map (some Mj)) (.agg #[.int .i64 a.plate, .bool a.turned]) true).run Tryd.prog (grow W3 x) = .ok (sortV (some mm)) (grow W3 x) := fun x => by
              rw [look_sort (hmap.ext (E03.trans ((Ext.refl _).grow x))), Hcov.out, Hr.out]
            have hj63 : (j : Int) < 16 := by omega
            clear b1 q0 q1 q2 q3 q4
            dsimp only [sortV] at hlk
            go_wp2_with fail
            refine wp_region_grow (by kernel_rfl) (by kernel_rfl) ?_
            repeat (go_big_quiet_step (fail))
            refine wpQuiet_nil ?_
            intro W4 hW4
            have E4 : Ext W3 W4 := by
              obtain ⟨x, rfl⟩ := hW4
              exact (Ext.refl _).grow x
            clear hW4
            obtain ⟨hcW4, hfW4, hzW4⟩ := ext_facts E4
            go_wp2_with fail
            go_ret2
            exact ⟨⟨none, 0, [], by rw [Hbad.out]; rfl, fun h => by rw [Hbad.out] at h; cases h⟩, E03.trans E4⟩
    · obtain rfl : k = c.length := by omega
      have hBr := hB.ext E
      have c6 := hBr.c6
      obtain ⟨SA, sc, rfl⟩ := own_forms own
      have hsl : SliceIs wr SA out.length sc 1 (out.map fun m => [uv m]) := own_any (by decide) (by simp) (by simp) (by rw [flat_uv]; exact own)
      have Hsl := Lib.hid hsl
      have Hset : Hid (setB s l c = decide (all = 2 ^ fullN s.cells - 1)) := Lib.hid (by
        unfold setB
        rw [Hrun.out])
      have Hfe := Lib.hid (full_eq (all := all) hF.2)
      clear hsl own BU
      go_wp2_with fail
      refine wp_region_grow (by kernel_rfl) (by kernel_rfl) ?_
      repeat (go_big_quiet_step (fail))
      refine wpQuiet_nil ?_
      intro W3 hW3
      have E3 : Ext wr W3 := by
        obtain ⟨x, rfl⟩ := hW3
        exact (Ext.refl _).grow x
      clear hW3
      obtain ⟨hcW3, hfW3, hzW3⟩ := ext_facts E3
      go_wp2_with fail
      go_ret2
      refine ⟨⟨SA, sc, out, by rw [Hset.out, ← Hfe.out]; rfl, fun h => ⟨Hsl.out.ext E3, all, Hrun.out, ?_⟩⟩, E.trans E3⟩
      rw [Hset.out] at h
      simpa using h
end Go.Proofs.YtpikemglnnjemaaDoor

namespace Go.Proofs.YtpikemglnnjemaaDoor
open Go.RowKit

theorem low_bits {x : Nat} (h0 : x ≠ 0) (h : x < 2 ^ 32) :
    x.testBit (Lib.ctz 32 x) = true ∧ Lib.ctz 32 x < 32 ∧ (∀ j, j < Lib.ctz 32 x → x.testBit j = false) ∧ ∀ j, (x &&& (x - 1)).testBit j = (x.testBit j && decide (j ≠ Lib.ctz 32 x)) := by
  have e : Lib.ctz 32 x = Lib.ctzFrom 32 x := by simp [Lib.ctz, h0]
  obtain ⟨m, hm, hk⟩ := Lib.ctzFrom_spec 32 x (by omega) h
  rw [e]
  generalize Lib.ctzFrom 32 x = k at hm hk
  have hpos : 0 < 2 ^ k := Nat.two_pow_pos k
  have hx : ∀ j, x.testBit j = (decide (k ≤ j) && (2 * m + 1).testBit (j - k)) := fun j => by rw [hm, Nat.testBit_two_pow_mul]
  have hy : ∀ j, (x - 1).testBit j = if j < k then (2 ^ k - 1).testBit j else (2 * m).testBit (j - k) := fun j => by
    have h1 : x - 1 = 2 ^ k * (2 * m) + (2 ^ k - 1) := by rw [hm, Nat.mul_add]; omega
    rw [h1, Nat.testBit_two_pow_mul_add _ (by omega)]
  have o1 : (2 * m + 1).testBit 0 = true := by simp
  have o2 : (2 * m).testBit 0 = false := by simp
  have o3 : ∀ t, (2 * m + 1).testBit (t + 1) = (2 * m).testBit (t + 1) := fun t => by
    rw [Nat.testBit_succ, Nat.testBit_succ, show (2 * m + 1) / 2 = m by omega, show 2 * m / 2 = m by omega]
  refine ⟨by rw [hx, Nat.sub_self, o1]; simp, hk, fun j hj => by rw [hx, decide_eq_false (by omega)]; rfl, fun j => ?_⟩
  rw [Nat.testBit_and, hx, hy]
  rcases Nat.lt_trichotomy j k with hj | hj | hj
  · rw [decide_eq_false (by omega : ¬ k ≤ j)]
    rfl
  · subst hj
    rw [Nat.sub_self, if_neg (by omega), o2]
    simp
  · obtain ⟨t, rfl⟩ : ∃ t, j = k + (t + 1) := ⟨j - k - 1, by omega⟩
    rw [if_neg (by omega), show k + (t + 1) - k = t + 1 by omega, o3, decide_eq_true (by omega : k ≤ k + (t + 1)), decide_eq_true (by omega : k + (t + 1) ≠ k)]
    simp

theorem bitsOf_zero : bitsOf 0 = [] := by simp [bitsOf]
theorem bitsOf_step {x : Nat} (h0 : x ≠ 0) (h : x < 2 ^ 32) : bitsOf x = Lib.ctz 32 x :: bitsOf (x &&& (x - 1)) := by
  obtain ⟨h1, h2, h3, h4⟩ := low_bits h0 h
  generalize Lib.ctz 32 x = k at h1 h2 h3 h4
  have hr : List.range 32 = List.range' 0 k ++ (k :: List.range' (k + 1) (31 - k)) := by
    rw [List.range_eq_range']
    have e1 : List.range' 0 32 = List.range' 0 k ++ List.range' (0 + k) (32 - k) := by
      rw [List.range'_append_1]
      congr 1
      omega
    rw [e1, Nat.zero_add]
    congr 1
    rw [show 32 - k = (31 - k) + 1 by omega, List.range'_succ]
  have f1 : ∀ y : Nat, (∀ j, j < k → y.testBit j = false) → (List.range' 0 k).filter (fun n => y.testBit n) = [] := fun y hy => by
    rw [List.filter_eq_nil_iff]
    intro a ha
    rw [List.mem_range'_1] at ha
    rw [hy a (by omega)]
    simp
  unfold bitsOf
  rw [hr, List.filter_append, List.filter_append, f1 x h3, f1 (x &&& (x - 1)) (fun j hj => by rw [h4, h3 j hj]; rfl), List.nil_append, List.nil_append, List.filter_cons, List.filter_cons, if_pos h1, if_neg (by rw [h4]; simp)]
  congr 1
  apply List.filter_congr
  intro a ha
  rw [List.mem_range'_1] at ha
  rw [h4, decide_eq_true (by omega : a ≠ k), Bool.and_true]
theorem and_pred_lt {x : Nat} (h0 : x ≠ 0) : x &&& (x - 1) < x := by
  have := Nat.and_le_right (n := x) (m := x - 1)
  omega

/-- How many bits. -/
def pop (m : Nat) : Nat := (bitsOf m).length
def pop8 (m : Nat) : Nat := ((List.range 8).filter fun n => m.testBit n).length
theorem pop_bytes (m : Nat) : pop m = pop8 (m >>> 24 &&& 255) + pop8 (m >>> 16 &&& 255) + pop8 (m >>> 8 &&& 255) + pop8 (m &&& 255) := by
  have h255 : ∀ b, b < 8 → (255 : Nat).testBit b = true := fun b hb => by
    match b, hb with
    | 0, _ | 1, _ | 2, _ | 3, _ | 4, _ | 5, _ | 6, _ | 7, _ => rfl
  have hb : ∀ k, pop8 (m >>> k &&& 255) = ((List.range' k 8).filter fun n => m.testBit n).length := fun k => by
    have e : List.range' k 8 = (List.range 8).map (k + ·) := by rw [List.range_eq_range', List.map_add_range']; rfl
    rw [e, List.filter_map, List.length_map]
    unfold pop8
    congr 1
    apply List.filter_congr
    intro a ha
    rw [List.mem_range] at ha
    rw [Nat.testBit_and, h255 a ha, Bool.and_true, Nat.testBit_shiftRight]
    rfl
  have h0 := hb 0
  rw [Nat.shiftRight_zero] at h0
  rw [hb 24, hb 16, hb 8, h0]
  unfold pop bitsOf
  have e : List.range 32 = List.range' 0 8 ++ (List.range' 8 8 ++ (List.range' 16 8 ++ List.range' 24 8)) := rfl
  rw [e, List.filter_append, List.filter_append, List.filter_append, List.length_append, List.length_append, List.length_append]
  omega
theorem pop_full {m n : Nat} (hn : n ≤ 32) (hm : ∀ b, m.testBit b = true → b < n) : pop m = n ↔ ∀ b, b < n → m.testBit b = true := by
  have e : bitsOf m = (List.range n).filter fun b => m.testBit b := by
    unfold bitsOf
    have e1 : List.range 32 = List.range' 0 n ++ List.range' n (32 - n) := by
      rw [List.range_eq_range']
      have := List.range'_append_1 (s := 0) (m := n) (n := 32 - n)
      rw [Nat.zero_add] at this
      rw [this]
      congr 1
      omega
    rw [e1, List.filter_append, ← List.range_eq_range', (List.filter_eq_nil_iff (l := List.range' n (32 - n))).2 ?_, List.append_nil]
    intro a ha
    rw [List.mem_range'_1] at ha
    intro hb
    have := hm a hb
    omega
  unfold pop
  rw [e]
  have h := List.length_filter_eq_length_iff (l := List.range n) (p := fun b => m.testBit b)
  rw [List.length_range] at h
  rw [h]
  simp
end Go.Proofs.YtpikemglnnjemaaDoor

namespace Go.Proofs.YtpikemglnnjemaaDoor
open Go.RowKit

theorem and32 (a b : Nat) (ha : a < 4294967296) (hb : b < 4294967296) : bits .and .u32 (a : Int) (b : Int) = ((a &&& b : Nat) : Int) := by
  have hx : a &&& b < 2 ^ 32 := Nat.and_lt_two_pow _ (by omega)
  have h1 : (BitVec.ofInt 32 (a : Int)).toNat = a := by
    rw [BitVec.ofInt_natCast, BitVec.toNat_ofNat]; exact Nat.mod_eq_of_lt (by omega)
  have h2 : (BitVec.ofInt 32 (b : Int)).toNat = b := by
    rw [BitVec.ofInt_natCast, BitVec.toNat_ofNat]; exact Nat.mod_eq_of_lt (by omega)
  show IntKind.u32.wrap ((BitVec.ofInt 32 (a : Int) &&& BitVec.ofInt 32 (b : Int)).toNat : Int) = _
  rw [BitVec.toNat_and, h1, h2, IntKind.wrap_u32]
  omega

def tabA : Array UInt8 := #[0, 1, 1, 2, 1, 2, 2, 3, 1, 2, 2, 3, 2, 3, 3, 4, 1, 2, 2, 3, 2, 3, 3, 4, 2, 3, 3, 4, 3, 4, 4, 5, 1, 2, 2, 3, 2, 3, 3, 4, 2, 3, 3, 4, 3, 4, 4, 5, 2, 3, 3, 4, 3, 4, 4, 5, 3, 4, 4, 5, 4, 5, 5, 6, 1, 2, 2, 3, 2, 3, 3, 4, 2, 3, 3, 4, 3, 4, 4, 5, 2, 3, 3, 4, 3, 4, 4, 5, 3, 4, 4, 5, 4, 5, 5, 6, 2, 3, 3, 4, 3, 4, 4, 5, 3, 4, 4, 5, 4, 5, 5, 6, 3, 4, 4, 5, 4, 5, 5, 6, 4, 5, 5, 6, 5, 6, 6, 7, 1, 2, 2, 3, 2, 3, 3, 4, 2, 3, 3, 4, 3, 4, 4, 5, 2, 3, 3, 4, 3, 4, 4, 5, 3, 4, 4, 5, 4, 5, 5, 6, 2, 3, 3, 4, 3, 4, 4, 5, 3, 4, 4, 5, 4, 5, 5, 6, 3, 4, 4, 5, 4, 5, 5, 6, 4, 5, 5, 6, 5, 6, 6, 7, 2, 3, 3, 4, 3, 4, 4, 5, 3, 4, 4, 5, 4, 5, 5, 6, 3, 4, 4, 5, 4, 5, 5, 6, 4, 5, 5, 6, 5, 6, 6, 7, 3, 4, 4, 5, 4, 5, 5, 6, 4, 5, 5, 6, 5, 6, 6, 7, 4, 5, 5, 6, 5, 6, 6, 7, 5, 6, 6, 7, 6, 7, 7, 8]
theorem tab_all : (List.range 256).all (fun i => (tabA.getD i 0).toNat == pop8 i) = true := by kernel_rfl
theorem tab_size : tabA.size = 256 := by kernel_rfl
theorem tab_at (i : Nat) (h : i < (ByteArray.mk tabA).size) : ((((ByteArray.mk tabA)[i]'h).toNat : Nat) : Int) = (pop8 i : Int) := by
  have hi : i < 256 := by have : (ByteArray.mk tabA).size = 256 := tab_size; omega
  have h1 := List.all_eq_true.1 tab_all i (List.mem_range.2 hi)
  have h2 : tabA.getD i 0 = (ByteArray.mk tabA)[i]'h := by
    have h3 : i < tabA.size := by rw [tab_size]; exact hi
    rw [Array.getD_eq_getD_getElem?, Array.getElem?_eq_getElem h3]
    rfl
  rw [← h2]
  exact congrArg _ (by simpa using h1)

set_option maxRecDepth 100000 in
set_option maxHeartbeats 2000000 in
theorem ones_c (m : Nat) (hm : m < 4294967296) (w : World) :
    Calls Tryd.prog 87 #[.int .u32 m] w fun e w' => e = .returned (.int .i64 (pop m)) ∧ Ext w w' := by
  have Hp := Lib.hid (pop_bytes m)
  have hm0 : (0 : Int) ≤ m := by omega
  have hp8 : ∀ k, pop8 k ≤ 8 := fun k => by
    unfold pop8
    exact Nat.le_trans (List.length_filter_le _ _) (by simp)
  have hlt : ∀ k : Nat, (k &&& 255) < 256 := fun k => Nat.lt_of_le_of_lt Nat.and_le_right (by omega)
  have n24 : m / 16777216 = m >>> 24 &&& 255 := by
    have := Nat.and_two_pow_sub_one_eq_mod (m >>> 24) 8
    rw [show (255 : Nat) = 2 ^ 8 - 1 from rfl, this, Nat.shiftRight_eq_div_pow]
    omega
  have e24 : (m : Int) / 16777216 = ((m >>> 24 &&& 255 : Nat) : Int) := by
    have h1 : m >>> 24 < 256 := by rw [Nat.shiftRight_eq_div_pow]; omega
    have h2 : m >>> 24 &&& 255 = m >>> 24 := by
      have := Nat.and_two_pow_sub_one_eq_mod (m >>> 24) 8
      rw [show (255 : Nat) = 2 ^ 8 - 1 from rfl, this]
      omega
    rw [h2, Nat.shiftRight_eq_div_pow]
    omega
  have a16 : bits .and .u32 ((m : Int) / 65536) 255 = ((m >>> 16 &&& 255 : Nat) : Int) := by
    rw [← and32 (m >>> 16) 255 (by rw [Nat.shiftRight_eq_div_pow]; omega) (by omega), Nat.shiftRight_eq_div_pow]
    rfl
  have a8 : bits .and .u32 ((m : Int) / 256) 255 = ((m >>> 8 &&& 255 : Nat) : Int) := by
    rw [← and32 (m >>> 8) 255 (by rw [Nat.shiftRight_eq_div_pow]; omega) (by omega), Nat.shiftRight_eq_div_pow]
    rfl
  have a0 : bits .and .u32 (m : Int) 255 = ((m &&& 255 : Nat) : Int) := by
    rw [← and32 m 255 hm (by omega)]
    rfl
  have l1 := hlt (m >>> 24)
  have l2 := hlt (m >>> 16)
  have l3 := hlt (m >>> 8)
  have l4 := hlt m
  have p1 := hp8 (m >>> 24 &&& 255)
  have p2 := hp8 (m >>> 16 &&& 255)
  have p3 := hp8 (m >>> 8 &&& 255)
  have p4 := hp8 (m &&& 255)
  generalize m >>> 24 &&& 255 = q1 at *
  generalize m >>> 16 &&& 255 = q2 at *
  generalize m >>> 8 &&& 255 = q3 at *
  generalize m &&& 255 = q4 at *
  clear hlt hp8
  go_enter Tryd.func87, Tryd.ntmps87
  go_wp2_with fail
  refine wp_region_grow (by kernel_rfl) (by kernel_rfl) ?_
  repeat (go_big_quiet_step ((rw [dif_pos (by omega)]; exact ⟨rfl, congrArg (Value.int .u8) (tab_at _ _)⟩)))
  refine wpQuiet_nil ?_
  intro W2 hW2
  have E2 : Ext w W2 := by
    obtain ⟨x, rfl⟩ := hW2
    exact (Ext.refl _).grow x
  clear hW2
  go_wp2_with fail
  go_ret
  exact ⟨by rw [Hp.out]; simp only [n24]; go_num, E2⟩
end Go.Proofs.YtpikemglnnjemaaDoor

namespace Go.Proofs.YtpikemglnnjemaaDoor
open Go.RowKit

def TzTab (w : World) : Prop := TabAt 0 Lib.deBruijn32tab w
set_option maxHeartbeats 1000000 in
theorem tz_core (x k idx : Nat) (w : World) (hx0 : ((x : Int) == 0) = false)
    (key : bits BinOp.and IntKind.u32 (x : Int) (-(x : Int) % 4294967296) * 125613361 % 4294967296 / 134217728 = (idx : Int))
    (hi : idx < 32) (hk : k < 32) (hcell : w.cell? ⟨0, idx, none⟩ = some (.int .u8 k)) :
    Calls Tryd.prog 102 #[.int .u32 x] w fun e w' => e = .returned (.int .i64 k) ∧ w' = w := by
  go_enter Tryd.func102, Tryd.ntmps102
  go_wp2_with (simp only [key])
  go_ret
  exact ⟨rfl, rfl⟩
theorem tz_c (x : Nat) (h0 : x ≠ 0) (hx : x < 4294967296) (w : World) (hT : TzTab w) :
    Calls Tryd.prog 102 #[.int .u32 x] w fun e w' => e = .returned (.int .i64 (Lib.ctz 32 x)) ∧ w' = w := by
  obtain ⟨hlow, hk⟩ := Lib.lowest_bit 32 x h0 hx
  obtain ⟨hi, htab⟩ := Lib.deBruijn32_at _ hk
  have hcell := hT _ hi
  rw [htab] at hcell
  exact tz_core x _ _ w (by simp; omega) (tz32_key x _ hx h0 hlow) hi hk hcell
theorem TzTab.ext {w w' : World} (h : TzTab w) (e : Ext w w') : TzTab w' := fun j hj => e.cell (h j hj)
end Go.Proofs.YtpikemglnnjemaaDoor

namespace Go.Proofs.YtpikemglnnjemaaDoor
open Go.RowKit

def outAt (out : List Nat) (i : Nat) : Nat := out.getD i 0
/-- A plate that is not in touches one that is. -/
def condU (ab : List Int) (k m : Nat) : Bool := decide (k &&& m = 0) && (decide (k &&& upN ab m ≠ 0) || decide (upN ab k &&& m ≠ 0))
/-- Plates laid apart, that cover all. -/
structure Apart (s : Shape) (l : List Plate) (c : List Laid) (out : List Nat) : Prop where
  ok : s.Ok
  len : out.length = c.length
  pos : 0 < c.length
  cover : ∀ i, i < c.length → coverOf s l (laidAt c i) = some (outAt out i)
  lies : ∀ i, i < c.length → liesB s l (laidAt c i) = true
  some : ∀ i, i < c.length → ∃ b, (outAt out i).testBit b = true
  apart : ∀ i j b, i < c.length → j < c.length → (outAt out i).testBit b = true → (outAt out j).testBit b = true → i = j
  all : ∀ b, b < fullN s.cells → ∃ i, i < c.length ∧ (outAt out i).testBit b = true
  lt : ∀ i b, i < c.length → (outAt out i).testBit b = true → b < fullN s.cells

/-- The plates of S are in m; S is in every closed set of plates that has the first one. -/
structure InS (s : Shape) (l : List Plate) (c : List Laid) (out : List Nat) (m : Nat) (S : Nat → Prop) : Prop where
  zero : S 0
  bits : ∀ b, m.testBit b = true ↔ ∃ i, i < c.length ∧ S i ∧ (outAt out i).testBit b = true
  min : ∀ R : Nat → Prop, R 0 → (∀ i j, i < c.length → j < c.length → R i → Tl s l c i j → R j) → ∀ i, i < c.length → S i → R i
def InU (s : Shape) (l : List Plate) (c : List Laid) (out : List Nat) (m : Nat) : Prop := ∃ S, InS s l c out m S

variable {s : Shape} {l : List Plate} {c : List Laid} {out : List Nat} {m : Nat}
theorem InU.start (ha : Apart s l c out) : InU s l c out (outAt out 0) := by
  refine ⟨fun i => i = 0, rfl, fun b => ⟨fun h => ⟨0, ha.pos, rfl, h⟩, ?_⟩, fun R h0 _ i _ hi => by rw [hi]; exact h0⟩
  rintro ⟨i, _, rfl, h⟩
  exact h
theorem InU.lt (ha : Apart s l c out) (h : InU s l c out m) {b : Nat} (hb : m.testBit b = true) : b < fullN s.cells := by
  obtain ⟨S, hS⟩ := h
  obtain ⟨i, hi, _, hb'⟩ := (hS.bits b).1 hb
  exact ha.lt i b hi hb'
theorem InU.small (ha : Apart s l c out) (h : InU s l c out m) : m < 65536 := by
  have : m < 2 ^ 16 := by
    apply Nat.lt_pow_two_of_testBit
    intro i hi
    cases hb : m.testBit i
    · rfl
    · have := InU.lt ha h hb
      have := ha.ok.full
      omega
  omega
theorem Apart.small (ha : Apart s l c out) {i : Nat} (hi : i < c.length) : outAt out i < 65536 := cover_small ha.ok (ha.cover i hi)
theorem bit_lt {m b : Nat} (hm : m < 65536) (hb : m.testBit b = true) : b < 32 := by
  rcases Nat.lt_or_ge b 32 with h | h
  · exact h
  · have : m < 2 ^ b := Nat.lt_of_lt_of_le (by omega : m < 2 ^ 32) (Nat.pow_le_pow_right (by omega) h)
    rw [Nat.testBit_lt_two_pow this] at hb
    cases hb
/-- A plate is in, or has nothing in it. -/
theorem InS.zero_iff (ha : Apart s l c out) {S : Nat → Prop} (h : InS s l c out m S) {k : Nat} (hk : k < c.length) : outAt out k &&& m = 0 ↔ ¬ S k := by
  rw [and_zero]
  constructor
  · intro h1 hS
    obtain ⟨b, hb⟩ := ha.some k hk
    exact h1 b hb ((h.bits b).2 ⟨k, hk, hS, hb⟩)
  · intro hS b hb hm
    obtain ⟨i, hi, hSi, hbi⟩ := (h.bits b).1 hm
    rw [ha.apart i k b hi hk hbi hb] at hSi
    exact hS hSi
theorem cond_touch (ha : Apart s l c out) {S : Nat → Prop} (h : InS s l c out m S) {k : Nat} (hk : k < c.length) : (outAt out k &&& upN (abv s) m ≠ 0 ∨ upN (abv s) (outAt out k) &&& m ≠ 0) ↔ ∃ i, i < c.length ∧ S i ∧ Tl s l c i k := by
  have hm32 : m < 2 ^ 32 := by have := InU.small ha ⟨S, h⟩; omega
  have hk32 : outAt out k < 2 ^ 32 := by have := ha.small hk; omega
  have nz : ∀ {a b : Nat}, a &&& b ≠ 0 ↔ ∃ t, a.testBit t = true ∧ b.testBit t = true := fun {a b} => by
    rw [Ne, and_zero, Classical.not_forall]
    constructor
    · rintro ⟨t, ht⟩
      rw [Classical.not_imp] at ht
      exact ⟨t, ht.1, Classical.not_not.1 ht.2⟩
    · rintro ⟨t, h1, h2⟩
      exact ⟨t, fun f => f h1 h2⟩
  have tl : ∀ i, i < c.length → (Tl s l c i k ↔ outAt out k &&& upN (abv s) (outAt out i) ≠ 0 ∨ outAt out i &&& upN (abv s) (outAt out k) ≠ 0) := fun i hi => by
    have hi32 : outAt out i < 2 ^ 32 := by have := ha.small hi; omega
    rw [touch_iff ha.ok (ha.cover i hi) (ha.cover k hk) (ha.lies i hi) (ha.lies k hk) hi32 hk32]
    exact touchB_iff
  constructor
  · rintro (h1 | h1)
    · obtain ⟨t, h2, h3⟩ := nz.1 h1
      rw [upN_bits hm32] at h3
      obtain ⟨n, hn, e⟩ := h3
      obtain ⟨i, hi, hSi, hbi⟩ := (h.bits n).1 hn
      have hi32 : outAt out i < 2 ^ 32 := by have := ha.small hi; omega
      exact ⟨i, hi, hSi, (tl i hi).2 (Or.inl (nz.2 ⟨t, h2, (upN_bits hi32).2 ⟨n, hbi, e⟩⟩))⟩
    · obtain ⟨t, h2, h3⟩ := nz.1 h1
      obtain ⟨i, hi, hSi, hbi⟩ := (h.bits t).1 h3
      exact ⟨i, hi, hSi, (tl i hi).2 (Or.inr (nz.2 ⟨t, hbi, h2⟩))⟩
  · rintro ⟨i, hi, hSi, ht⟩
    have hi32 : outAt out i < 2 ^ 32 := by have := ha.small hi; omega
    rcases (tl i hi).1 ht with h1 | h1
    · obtain ⟨t, h2, h3⟩ := nz.1 h1
      rw [upN_bits hi32] at h3
      obtain ⟨n, hn, e⟩ := h3
      exact Or.inl (nz.2 ⟨t, h2, (upN_bits hm32).2 ⟨n, (h.bits n).2 ⟨i, hi, hSi, hn⟩, e⟩⟩)
    · obtain ⟨t, h2, h3⟩ := nz.1 h1
      exact Or.inr (nz.2 ⟨t, h3, (h.bits t).2 ⟨i, hi, hSi, h2⟩⟩)
theorem condU_iff {ab : List Int} {k m : Nat} : condU ab k m = true ↔ k &&& m = 0 ∧ (k &&& upN ab m ≠ 0 ∨ upN ab k &&& m ≠ 0) := by simp [condU]
theorem InU.step (ha : Apart s l c out) (h : InU s l c out m) {k : Nat} (hk : k < c.length) (hc : condU (abv s) (outAt out k) m = true) : InU s l c out (m ||| outAt out k) ∧ m < m ||| outAt out k := by
  obtain ⟨S, hS⟩ := h
  obtain ⟨h1, h2⟩ := condU_iff.1 hc
  obtain ⟨i, hi, hSi, ht⟩ := (cond_touch ha hS hk).1 h2
  refine ⟨⟨fun j => S j ∨ j = k, Or.inl hS.zero, fun b => ?_, fun R h0 hR j hj hSj => ?_⟩, ?_⟩
  · rw [Nat.testBit_or, Bool.or_eq_true, hS.bits]
    constructor
    · rintro (⟨j, hj, hSj, hb⟩ | hb)
      · exact ⟨j, hj, Or.inl hSj, hb⟩
      · exact ⟨k, hk, Or.inr rfl, hb⟩
    · rintro ⟨j, hj, hSj | rfl, hb⟩
      · exact Or.inl ⟨j, hj, hSj, hb⟩
      · exact Or.inr hb
  · rcases hSj with hSj | rfl
    · exact hS.min R h0 hR j hj hSj
    · exact hR i j hi hj (hS.min R h0 hR i hi hSi) ht
  · have hle : m ≤ m ||| outAt out k := Nat.left_le_or
    rcases Nat.lt_or_ge m (m ||| outAt out k) with h | h
    · exact h
    · exfalso
      have e : m ||| outAt out k = m := by omega
      obtain ⟨b, hb⟩ := ha.some k hk
      have : (m ||| outAt out k).testBit b = true := by rw [Nat.testBit_or, hb, Bool.or_true]
      rw [e] at this
      rw [and_zero] at h1
      exact h1 b hb this
theorem InU.done (ha : Apart s l c out) (h : InU s l c out m) (hno : ∀ k, k < c.length → condU (abv s) (outAt out k) m = false) : hangB s l c = decide (pop m = fullN s.cells) := by
  have hlt := fun b => InU.lt ha h (b := b)
  obtain ⟨S, hS⟩ := h
  have hcl : ∀ i j, i < c.length → j < c.length → S i → Tl s l c i j → S j := fun i j hi hj hSi ht => by
    apply Classical.byContradiction
    intro hn
    have := hno j hj
    rw [condU_iff.2 ⟨(hS.zero_iff ha hj).2 hn, (cond_touch ha hS hj).2 ⟨i, hi, hSi, ht⟩⟩] at this
    cases this
  have hconn := conn_of (n := c.length) (T := Tl s l c) (S := S) hS.zero hcl hS.min
  have hpop := pop_full (m := m) (n := fullN s.cells) (by have := ha.ok.full; omega) hlt
  unfold hangB
  rw [decide_eq_decide]
  rw [hconn, hpop]
  constructor
  · intro hall b hb
    obtain ⟨i, hi, hbi⟩ := ha.all b hb
    exact (hS.bits b).2 ⟨i, hi, hall i hi, hbi⟩
  · intro hall i hi
    obtain ⟨b, hb⟩ := ha.some i hi
    obtain ⟨j, hj, hSj, hbj⟩ := (hS.bits b).1 (hall b (ha.lt i b hi hb))
    rwa [ha.apart i j b hi hj hb hbj]
theorem apart_of {all : Nat} (ok : s.Ok) (okl : platesB l = true) (hpos : 0 < c.length) (h : SetIs s l c c.length out all) (hall : all = 2 ^ fullN s.cells - 1) : Apart s l c out := by
  refine ⟨ok, h.len, hpos, h.cover, fun i hi => h.lies hi, fun i hi => ?_, fun i j b hi hj hbi hbj => ?_, fun b hb => ?_, fun i b hi hb => (cover_lt ok (h.cover i hi) hb).1⟩
  · have hl := h.lies hi
    obtain ⟨hn, _⟩ := lies_cover.1 hl
    obtain ⟨b, hb⟩ := Int.eq_ofNat_of_zero_le hn
    refine ⟨b, (cover_bits ok (h.cover i hi) hb).2 ?_⟩
    obtain ⟨hp, _⟩ := lies_iff.1 hl
    have hget : l[(laidAt c i).plate.toNat]? = some (plateAt l (laidAt c i).plate.toNat) := by
      have hlt : (laidAt c i).plate.toNat < l.length := by omega
      have := List.getElem?_eq_getElem hlt
      rw [this, plateAt_eq this]
    have okp := plate_ok okl hget
    have h1 := okp.w
    have h2 := okp.d
    rw [hasB_iff]
    unfold sizeW sizeD
    refine ⟨rfl, ?_, ?_⟩ <;> split <;> omega
  · rcases Nat.lt_trichotomy i j with h' | h' | h'
    · exact (h.apart i j h' hj b hbi hbj).elim
    · exact h'
    · exact (h.apart j i h' hi b hbj hbi).elim
  · have hbit : all.testBit b = true := by
      rw [hall, Nat.testBit_two_pow_sub_one]
      simpa using hb
    exact (h.bits b).1 hbit

/-! ### one pass -/
structure PassU (s : Shape) (l : List Plate) (c : List Laid) (out : List Nat) (m0 m : Nat) (b : Bool) (k : Nat) : Prop where
  inu : InU s l c out m
  le : m0 ≤ m
  yes : b = true → m0 < m
  no : b = false → ∀ j, j < k → condU (abv s) (outAt out j) m = false
theorem PassU.start (h : InU s l c out m) : PassU s l c out m m false 0 := ⟨h, Nat.le_refl _, (fun h => by cases h), fun _ j hj => by omega⟩
theorem PassU.same {m0 k : Nat} {b : Bool} (h : PassU s l c out m0 m b k) (hc : condU (abv s) (outAt out k) m = false) : PassU s l c out m0 m b (k + 1) :=
  ⟨h.inu, h.le, h.yes, fun hb j hj => by
    rcases Nat.lt_or_ge j k with h' | h'
    · exact h.no hb j h'
    · obtain rfl : j = k := by omega
      exact hc⟩
theorem PassU.more {m0 k : Nat} {b : Bool} (ha : Apart s l c out) (h : PassU s l c out m0 m b k) (hk : k < c.length) (hc : condU (abv s) (outAt out k) m = true) : PassU s l c out m0 (m ||| outAt out k) true (k + 1) := by
  obtain ⟨h1, h2⟩ := h.inu.step ha hk hc
  have := h.le
  exact ⟨h1, by omega, fun _ => by omega, fun h => by cases h⟩
end Go.Proofs.YtpikemglnnjemaaDoor

namespace Go.Proofs.YtpikemglnnjemaaDoor
open Go.RowKit

set_option maxHeartbeats 1000000 in
theorem cells_c (m : Nat) (w : World) :
    Calls Tryd.prog 121 #[.int .u32 m] w fun e w' =>
      e = .returned (.func (.func 144) #[] #[.pointer (some ⟨w.heap.size, 0, none⟩)]) ∧ Ext w w' ∧ Blk w' w.heap.size 136 #[.int .u32 m] ∧ w'.heap.size = w.heap.size + 1 := by
  obtain ⟨W1, hW1, E1, B1, hz1⟩ := box_ w #[.int .u32 m] 136
  have Hz := Lib.hid hz1
  clear hz1
  go_enter Tryd.func121, Tryd.ntmps121
  go_wp2_with fail
  go_ret
  exact ⟨rfl, E1, B1, Hz.out⟩
end Go.Proofs.YtpikemglnnjemaaDoor

namespace Go.Proofs.YtpikemglnnjemaaDoor
open Go.RowKit

/-- What the caller's word J must abide: growth, and stores into the iterator's box. -/
structure Lets {α : Type} (b : Nat) (G : World → Prop) (J : List α → World → Prop) : Prop where
  ext : ∀ s A B, J s A → Ext A B → J s B
  box : ∀ s A v, J s A → J s (A.setCell ⟨b, 0, none⟩ v)
  good : ∀ s A, J s A → G A

/-- The iterator hands out ys; block b is its box, which holds v0 at the start. -/
def BoxSeq {α : Type} (n : Nat) (P : Program) (gf : Nat) (lb : Array Value) (encs : α → Array Value) (ys : List α) (b : Nat) (t : TypeId) (v0 : Value) (G : World → Prop) : Prop :=
  ∀ (l : Nat) (J : List α → World → Prop) (W : World), Lets b G J →
    (∀ pre x A v, J pre A → Blk A b t #[v] → pre ++ [x] <+: ys → YieldAt Fence.wide (n - 1) P l (encs x) A fun e A' => e = .returned (.bool true) ∧ J (pre ++ [x]) A' ∧ Blk A' b t #[v]) →
    J [] W → Blk W b t #[v0] →
    CallsIn Fence.wide n P gf (#[.func (.yield l) #[] #[]] ++ lb) W fun e W' => (∃ v, e = .returned v) ∧ J ys W'

/-- How a round's body ends: it falls through. -/
def boxPost (B : Nat) (I : World → Prop) (b : Nat) (t : TypeId) (v : Value) (W : World) : Exit → Act → World → Prop
  | .normal, _, W' => KeepsFrom B W W' ∧ I W' ∧ Blk W' b t #[v]
  | _, _, _ => False

theorem wpIn_rangeFunc_box {α : Type} {P : Program} {n : Nat} {g : Operand} {ps : Array Tmp} {assign body : Code} {Q : Exit → Act → World → Prop} {a : Act} {w : World}
    (h1 : 1 ≤ n) {gf : Nat} {lb : Array Value} (hg : a.eval g = .func (.func gf) #[] lb) (eg : ∀ args w, (callFunc gf args).run P w = .ok (.enter gf args) w)
    {encs : α → Array Value} {ys : List α} {b : Nat} {t : TypeId} {v0 : Value} {G : World → Prop} (hseq : BoxSeq (n - 1) P gf lb encs ys b t v0 G) (hB : Blk w b t #[v0]) (hps : ∀ x, (encs x).size = ps.size)
    (I : List α → World → Prop) (hI : Lets b G I) (hIp : ∀ s A l o o', I s A → w.heap.size ≤ l → A.heap[l]? = some o → o.isCells = false → I s (A.putObj l o'))
    (h0 : I [] w) (a₁ : α → Act)
    (hassign : ∀ (l : Nat) (x : α) (W : World) (K : Act → World → Prop), K (a₁ x) W →
      assign.wpIn (Fence.wide.inRound l) (n - 1 - 1) P (Exit.then K (fun _ _ _ => False)) { tmps := (ps.zip (encs x)).foldl (fun t (p, v) => t.setIfInBounds p v) a.tmps, defers := [] } W)
    (hbody : ∀ (l : Nat) (pre : List α) (x : α) (W : World) (v : Value), w.heap.size ≤ l → I pre W → Blk W b t #[v] → pre ++ [x] <+: ys →
      body.wpIn (Fence.wide.inRound l) (n - 1 - 1) P (boxPost w.heap.size (I (pre ++ [x])) b t v W) (a₁ x) W)
    (hdone : ∀ (D : Nat) (W : World), w.heap.size ≤ D → I ys W → W.heap[D]? = some (.deferred (some [])) → Q .normal { a with defers := { target := .collected D, args := #[] } :: a.defers } W) :
    (Code.rangeFunc g ps assign body).wpIn Fence.wide n P Q a w := by
  have hblt := hB.lt
  refine wpIn_rangeFunc ?_
  intro fn hfn
  obtain ⟨rec, hrec⟩ : ∃ rec : LoopState → Option Code → Loop, rec = fun st pe => { state := st, pending := pe, fn, tmps := a.tmps, params := ps, assign, body, defers := w.heap.size } := ⟨_, rfl⟩
  obtain ⟨W1, hW1⟩ : ∃ W1, (w.alloc (.deferred (some []))).alloc (.loop (rec .ready none)) = W1 := ⟨_, rfl⟩
  have hL1 : W1.heap[w.heap.size + 1]? = some (.loop (rec .ready none)) := by
    rw [← hW1]; have := World.alloc_heap_new (w.alloc (.deferred (some []))) (.loop (rec .ready none)); rwa [World.size_alloc] at this
  have hK1 : W1.heap[w.heap.size]? = some (.deferred (some [])) := by
    rw [← hW1]; exact (Below.heap_alloc _ _ _ (by simp)).trans (World.alloc_heap_new w _)
  have E1 : Ext w W1 := by rw [← hW1]; exact ((Ext.refl w).alloc _).alloc _
  have hI1 : I [] W1 := hI.ext _ _ _ h0 E1
  refine ⟨w.heap.size + 1, [{ target := .collected w.heap.size, args := #[] }], W1, { target := .fn (.func gf) lb, args := #[.func (.yield (w.heap.size + 1)) #[] #[]] }, W1, gf,
    #[.func (.yield (w.heap.size + 1)) #[] #[]] ++ lb, W1, ?_, ?_, ?_, ?_, fun _ => h1, ?_⟩
  · rw [← hW1, hrec]; exact run_enterLoop_outer _ _ _ _ _
  · simp only [resolve, hg]
    simp [go_sem]
  · intro f' hf'; exact trivial
  · simp [invoke, go_sem, eg]
  · refine (hseq (w.heap.size + 1)
      (fun pre W => I pre W ∧ W.heap[w.heap.size + 1]? = some (.loop (rec .ready none)) ∧ W.heap[w.heap.size]? = some (.deferred (some [])))
      W1 ⟨fun s A B hs E => ⟨hI.ext _ _ _ hs.1 E, (Below.block E _ (Array.getElem?_eq_some_iff.1 hs.2.1).1).trans hs.2.1, (Below.block E _ (Array.getElem?_eq_some_iff.1 hs.2.2).1).trans hs.2.2⟩,
        fun s A v hs => ⟨hI.box _ _ _ hs.1, (Below.heap_setCell A _ v _ (by show w.heap.size + 1 ≠ b; omega)).trans hs.2.1, (Below.heap_setCell A _ v _ (by show w.heap.size ≠ b; omega)).trans hs.2.2⟩,
        fun s A hs => hI.good _ _ hs.1⟩
      ?_ ⟨hI1, hL1, hK1⟩ (hB.ext E1)).mono ?_
    · rintro pre x W v ⟨hi, hl, hk⟩ hb hpre
      have hlt : w.heap.size + 1 < W.heap.size := (Array.getElem?_eq_some_iff.1 hl).1
      have hy := run_yield (P := P) (args := encs x) hl (by rw [hrec]; exact hps x)
      rw [hrec] at hy
      refine ⟨fn, _, assign, body, hy, roundIn_of_wpIn hfn (hassign _ x W _ ⟨_, run_beginRound hl (by rw [hrec]), ?_⟩)⟩
      have hl2 : (W.putObj (w.heap.size + 1) (.loop { rec .ready none with state := .busy })).heap[w.heap.size + 1]? = some (.loop { rec .ready none with state := .busy }) := World.putObj_heap_same hlt
      have hk2 : (W.putObj (w.heap.size + 1) (.loop { rec .ready none with state := .busy })).heap[w.heap.size]? = some (.deferred (some [])) := (World.putObj_heap_other (by omega)).trans hk
      have hb2 : Blk (W.putObj (w.heap.size + 1) (.loop { rec .ready none with state := .busy })) b t #[v] := (World.putObj_heap_other (by omega)).trans hb
      refine wpIn_mono (hbody _ pre x _ v (by omega) (hIp _ _ _ _ _ hi (by omega) hl rfl) hb2 hpre) ?_
      rintro e a3 W3 hp
      cases e <;> first | exact hp.elim | skip
      obtain ⟨hk3, hi3, hb3⟩ := hp
      have hl3 := hk3.same _ _ (by omega) hl2 rfl
      have hr := run_endRound (P := P) none hl3
      refine ⟨_, _, hr, rfl, ⟨hIp _ _ _ _ _ hi3 (by omega) hl3 rfl, ?_, (World.putObj_heap_other (by omega)).trans (hk3.same _ _ (Nat.le_refl _) hk2 rfl)⟩, (World.putObj_heap_other (by omega)).trans hb3⟩
      rw [World.putObj_heap_same (Array.getElem?_eq_some_iff.1 hl3).1, hrec]
      rfl
    · rintro e W2 ⟨⟨v, rfl⟩, hi, hl, hk⟩
      exact ⟨none, _, by have := run_endLoop (P := P) hl (by rw [hrec]; simp); rw [hrec] at this; exact this, hdone _ _ (Nat.le_refl _) (hIp _ _ _ _ _ hi (by omega) hl rfl) ((World.putObj_heap_other (by omega)).trans hk)⟩
end Go.Proofs.YtpikemglnnjemaaDoor

namespace Go.Proofs.YtpikemglnnjemaaDoor
open Go.RowKit Go.Shelf
attribute [local go_sem] Oper.semAt_some

abbrev encBit (x : Nat) : Array Value := #[.int .i64 (x : Int)]
def boxN (b : Nat) (w : World) : Nat := (intOf ((w.cell? ⟨b, 0, none⟩).getD undef)).toNat
theorem boxN_eq {b : Nat} {w : World} {t : TypeId} {r : Nat} (h : Blk w b t #[.int .u32 (r : Int)]) : boxN b w = r := by
  unfold boxN
  rw [h.cell]
  simp [intOf]

set_option maxRecDepth 100000 in
set_option maxHeartbeats 2000000 in
theorem cells1_c (m : Nat) (hm : m < 4294967296) (n b : Nat) (hn : 1 ≤ n) :
    BoxSeq n Tryd.prog 144 #[.pointer (some ⟨b, 0, none⟩)] encBit (bitsOf m) b 136 (.int .u32 (m : Int)) TzTab := by
  rintro l J W hJ hY h0 hB
  have hY' := fun pre (r : Nat) A (hj : J pre A) (hb : Blk A b 136 #[.int .u32 (r : Int)]) (hp : pre ++ [Lib.ctz 32 r] <+: bitsOf m) => hY pre (Lib.ctz 32 r) A _ hj hb hp
  clear hY
  refine callsIn_of_wp Tryd.func144 rfl trivial ?_ rfl
  simp only [Tryd.ntmps144, List.size_toArray, List.length_cons, List.length_nil, Nat.reduceAdd, Nat.reduceSub, Array.replicate_succ, Array.replicate_zero, List.push_toArray, List.append_toArray, List.nil_append, List.cons_append]
  gi_wp2
  gi_loopw [3] (fun _ wr => ∃ (pre : List Nat) (r : Nat), r < 4294967296 ∧ Hid (bitsOf m = pre ++ bitsOf r) ∧ J pre wr ∧ Blk wr b 136 #[.int .u32 (r : Int)]) (fun _ wr => boxN b wr)
  case atStart => exact ⟨[], m, hm, Lib.hid rfl, h0, hB⟩
  case round =>
    clear h0 hB hm
    obtain ⟨pre, r, hr, Hr, hj, hb⟩ := hrel
    have bc := hb.cell
    have bf := hb.frozen
    by_cases hz : r = 0
    · subst hz
      gi_wp2
      go_end0
      have := Hr.out
      rw [bitsOf_zero, List.append_nil] at this
      exact ⟨⟨_, rfl⟩, by rw [this]; exact hj⟩
    · have e1 : ((r : Int) != 0) = true := by simp; omega
      have Hz := Lib.hid hz
      have hY1 := hY' pre r wr hj hb (by rw [Hr.out, bitsOf_step hz hr]; exact ⟨bitsOf (r &&& (r - 1)), by simp⟩)
      clear hY' hz
      gi_wp2_with (refine ⟨trivial, ?_⟩; gi_at_call 102; refine (callsIn_wide.2 (tz_c r Hz.out hr _ (hJ.good _ _ hj))).mono ?_; rintro e w1 ⟨rfl, hw1⟩; subst w1; obtain ⟨fn, tmps, assign, body, hy, hR⟩ := hY1; dsimp only [encBit] at hy)
      refine hR.mono ?_
      rintro e W3 ⟨rfl, hj3, hb3⟩
      have hlt := and_pred_lt Hz.out
      obtain ⟨q, hq⟩ : ∃ q, r &&& (r - 1) = q := ⟨_, rfl⟩
      have hband : bits .and .u32 (r : Int) ((r : Int) - 1) = (q : Int) := by
        have := u32_and_nat r (r - 1) (by omega) (by omega)
        rw [hq] at this
        rw [← this]
        congr 1
        have := Hz.out
        omega
      have hr1 : 1 ≤ (r : Int) := by have := Hz.out; omega
      have Hr' : Hid (bitsOf m = (pre ++ [Lib.ctz 32 r]) ++ bitsOf q) := Lib.hid (by rw [Hr.out, bitsOf_step Hz.out hr, hq]; simp)
      have hq1 : q < r := by rw [← hq]; exact hlt
      clear hlt hq bc bf
      have bc := hb3.cell
      have bf := hb3.frozen
      have hb4 := hb3.set_ 0 (.int .u32 (q : Int))
      have hj4 := hJ.box _ _ (.int .u32 (q : Int)) hj3
      gi_wp2
      go_roundw
      case rel => exact ⟨_, q, by omega, Hr', hj4, hb4⟩
      case measure =>
        rw [boxN_eq hb4, boxN_eq hb]
        omega
end Go.Proofs.YtpikemglnnjemaaDoor

namespace Go.Proofs.YtpikemglnnjemaaDoor
open Go.RowKit Go.Shelf
attribute [local go_sem] Oper.semAt_some

theorem upL_snoc (ab : List Int) (pre : List Nat) (x : Nat) : upL ab (pre ++ [x]) = upStep ab (upL ab pre) x := by simp [upL]

set_option maxRecDepth 100000 in
set_option maxHeartbeats 4000000 in
theorem up_c (g : Nat) (s : Shape) (A : Option Addr) (cap : Nat) (l : List Plate) (PA : Option Addr) (pcap : Nat) (NA : Option Addr) (ncap : Nat) (AA : Option Addr) (acap : Nat) (EA : Option Addr) (ec : Nat) (OA : Option Addr) (oc : Nat) (LA : Option Addr) (lc : Nat) (ms : List Nat)
    (ok : s.Ok) (m : Nat) (hm32 : m < 4294967296) (hm : ∀ b, m.testBit b = true → b < fullN s.cells) (w : World) (hB : Board w g s A cap l PA pcap NA ncap AA acap EA ec OA oc LA lc ms) (hT : TzTab w) :
    Calls Tryd.prog 86 #[.pointer (some ⟨g, 0, none⟩), .int .u32 (m : Int)] w fun e w' => e = .returned (.int .u32 (upN (abv s) m : Nat)) ∧ Ext w w' := by
  refine (callsIn_wide (n := 5)).1 ?_
  refine callsIn_of_wp_marks Tryd.func86 rfl trivial ?_ rfl
  simp only [Tryd.ntmps86, List.size_toArray, List.length_cons, List.length_nil, Nat.reduceAdd, Nat.reduceSub, Array.replicate_succ, Array.replicate_zero, List.push_toArray, List.append_toArray, List.nil_append, List.cons_append]
  obtain ⟨W1, hW1, E1, B1, hz1⟩ := box_ w #[.pointer (some ⟨g, 0, none⟩)] 91
  obtain ⟨W2, hW2, E2, B2, hz2⟩ := box_ W1 #[.int .u32 0] 136
  rw [hz1] at B2 hz2
  have B1 := B1.ext E2
  have E02 := E1.trans E2
  gi_wp2_with fail
  refine ⟨trivial, ?_⟩
  gi_at_call 121
  refine (callsIn_wide.2 (cells_c m _)).mono ?_
  rintro e W3 ⟨rfl, E3, B3, hz3⟩
  rw [hz2] at B3 hz3
  gi_wp2_with fail
  have C1 := B1.ext E3
  have C2 := B2.ext E3
  have E03 := E02.trans E3
  clear B1 B2 hW1 hW2
  have hsz := hz3
  refine wpIn_rangeFunc_box (by omega) (gf := 144) (lb := #[.pointer (some ⟨w.heap.size + 1 + 1, 0, none⟩)]) rfl (enters_of Tryd.func144 (by kernel_rfl) rfl)
    (cells1_c m hm32 _ (w.heap.size + 1 + 1) (by omega)) B3 (fun _ => rfl)
    (fun pre X => ((Blk X w.heap.size 91 #[.pointer (some ⟨g, 0, none⟩)] ∧ Blk X (w.heap.size + 1) 136 #[.int .u32 (upL (abv s) pre : Nat)]) ∧ Ext w X) ∧ upL (abv s) pre < 65536)
    ⟨fun pre X Y h E => ⟨⟨⟨h.1.1.1.ext E, h.1.1.2.ext E⟩, h.1.2.trans E⟩, h.2⟩, fun pre X v h => ⟨⟨⟨h.1.1.1.far (by show w.heap.size ≠ w.heap.size + 1 + 1; omega) v, h.1.1.2.far (by show w.heap.size + 1 ≠ w.heap.size + 1 + 1; omega) v⟩, h.1.2.setCell (by show w.heap.size ≤ w.heap.size + 1 + 1; omega) v⟩, h.2⟩,
      fun pre X h => hT.ext h.1.2⟩
    (fun pre X l' o o' h hl ho hc => ⟨⟨⟨h.1.1.1.grown (grownBy_putObj' X l' o') (fun e => by cases e; rw [show X.heap[w.heap.size]? = _ from h.1.1.1] at ho; cases ho; cases hc),
      h.1.1.2.grown (grownBy_putObj' X l' o') (fun e => by cases e; rw [show X.heap[w.heap.size + 1]? = _ from h.1.1.2] at ho; cases ho; cases hc)⟩, Ext.grown h.1.2 (grownBy_putObj' X l' o') (fun k e => by cases e; omega)⟩, h.2⟩)
    ⟨⟨⟨C1, C2⟩, E03⟩, by show 0 < 65536; omega⟩
    (fun x => { tmps := #[.pointer (some ⟨g, 0, none⟩), .int .u32 (m : Int), .pointer (some ⟨w.heap.size, 0, none⟩), undef, .int .u32 0, .pointer (some ⟨w.heap.size + 1, 0, none⟩), .int .i64 (x : Int), .int .u32 (m : Int),
          .func (.func 144) #[] #[.pointer (some ⟨w.heap.size + 1 + 1, 0, none⟩)], .int .i64 (x : Int), undef, undef, undef, undef, undef, undef, undef, undef, undef, undef, undef, undef, undef, undef, undef, undef, undef, undef, undef], defers := [] })
    ?assign ?body ?done
  case assign =>
    rintro l' x X K hK
    dsimp only [encBit]
    gi_wp2
    exact hK
  case body =>
    rintro l' pre x X v hl ⟨⟨⟨D1, D2⟩, hE⟩, hlt⟩ hb hpre
    have hxm : x ∈ bitsOf m := hpre.subset (by simp)
    have hx : x < fullN s.cells := hm x (by unfold bitsOf at hxm; exact (List.mem_filter.1 hxm).2)
    have hxl : x < (abv s).length := by rw [abv_len]; exact hx
    obtain ⟨a, ha⟩ : ∃ a, (abv s)[x]? = some a := ⟨_, List.getElem?_eq_getElem hxl⟩
    have ha2 : (abv s).getD x (-1) = a := by rw [List.getD_eq_getElem?_getD, ha]; rfl
    have hBX := hB.ext hE
    obtain ⟨ab, aoff, rfl, hab, hac⟩ := hBX.above.at_ ha
    have c6 := hBX.c6
    have d1 := D1.cell
    have d2 := D2.cell
    have f2 := D2.frozen
    have hF := ok.full
    have hstep := upL_snoc (abv s) pre x
    have hsx := hE.size
    unfold upStep at hstep
    rw [ha2] at hstep
    have hahi : a < 16 := by
      rcases abv_lo ha with h | h
      · omega
      · exact absurd ok h
    by_cases h0 : 0 ≤ a
    · rw [if_pos h0] at hstep
      obtain ⟨k, rfl⟩ := Int.eq_ofNat_of_zero_le h0
      have Hstep := Lib.hid hstep
      have hor := or_lt hlt (show k < 16 by omega)
      have hval : bits .or .u32 ((upL (abv s) pre : Nat) : Int) (IntKind.u32.wrap (2 ^ k)) = ((upL (abv s) (pre ++ [x]) : Nat) : Int) := by
        rw [Hstep.out]
        exact or_bit hlt (by omega)
      have Hval := Lib.hid hval
      clear hval
      have fin : ∀ u, u = Value.int .u32 ((upL (abv s) (pre ++ [x]) : Nat) : Int) → KeepsFrom W3.heap.size X ((X.setCell ⟨w.heap.size + 1, 0, none⟩ u).drew) ∧
          (((Blk (X.setCell ⟨w.heap.size + 1, 0, none⟩ u).drew w.heap.size 91 #[.pointer (some ⟨g, 0, none⟩)] ∧ Blk (X.setCell ⟨w.heap.size + 1, 0, none⟩ u).drew (w.heap.size + 1) 136 #[.int .u32 (upL (abv s) (pre ++ [x]) : Nat)]) ∧ Ext w (X.setCell ⟨w.heap.size + 1, 0, none⟩ u).drew) ∧ upL (abv s) (pre ++ [x]) < 65536) ∧
          Blk (X.setCell ⟨w.heap.size + 1, 0, none⟩ u).drew (w.heap.size + 1 + 1) 136 #[v] := by
        rintro u rfl
        have hk := (KeepsOthers.setCell X ⟨w.heap.size + 1, 0, none⟩ (.int .u32 ((upL (abv s) (pre ++ [x]) : Nat) : Int))).from W3.heap.size
        refine ⟨⟨hk.size, hk.same⟩, ⟨⟨⟨D1.far (by show w.heap.size ≠ w.heap.size + 1; omega) _, D2.set_ 0 _⟩, (hE.setCell (by show w.heap.size ≤ w.heap.size + 1; omega) _).drew⟩, by rw [Hstep.out]; exact hor⟩, hb.far (by show w.heap.size + 1 + 1 ≠ w.heap.size + 1; omega) _⟩
      have Fin := Lib.hid fin
      clear hstep ha ha2 hpre hxm hm hb fin hor
      gi_wp2_with fail
      gi_region
      all_goals exact Fin.out _ (by rw [Hval.out])
    · rw [if_neg h0] at hstep
      have h0' : decide (0 ≤ a) = false := by simpa using h0
      have Hstep := Lib.hid hstep
      have Hb := Lib.hid hb
      clear hstep ha ha2 hpre hxm hm hb
      gi_wp2
      exact ⟨KeepsFrom.refl _ _, ⟨⟨⟨D1, by rw [Hstep.out]; exact D2⟩, hE⟩, by rw [Hstep.out]; exact hlt⟩, Hb.out⟩
  case done =>
    rintro D X hD ⟨⟨⟨D1, D2⟩, hE⟩, hlt⟩ hK
    have d2 := D2.cell
    gi_wp2
    refine ⟨by simp, .inl ⟨_, _, rfl, run_takeDeferred hK, ?_⟩⟩
    exact ⟨_, results_tmp rfl _ _ _, rfl, Below.trans hE (belowK_b (w := w) (Nat.le_refl _) X D _ _ (by omega) hK rfl rfl)⟩
end Go.Proofs.YtpikemglnnjemaaDoor
