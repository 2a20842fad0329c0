/- ValidShape and CheckShape of the reference. Plates of the reference. Plates of the reference, walked. Composition and Check of the reference. set, sets, Check of the program. sets and Check of the program. -/
import Derived.Test.YtaaeapjnjjbglaaGreatDoorCd2
import Derived.Test.YtaaeapjnjjbglaaGreatDoorCd7
import Derived.Test.YtaaeapjnjjbglaaGreatDoorCd9
import Derived.Test.YtaaeapjnjjbglaaGreatDoorCd10

namespace Go.Proofs.YtaaeapjnjjbglaaGreatDoor
open Go.RowKit

end Go.Proofs.YtaaeapjnjjbglaaGreatDoor

namespace Go.Proofs.YtaaeapjnjjbglaaGreatDoor
open Go.RowKit

def beforeB (q p : Plate) : Bool := decide (q.W < p.W) || (decide (q.W = p.W) && (decide (q.D < p.D) || (decide (q.D = p.D) && decide (q.color < p.color))))
theorem pairB_eq (q p : Plate) : pairB q p = (beforeB q p && !(decide (q.W = p.W) && (decide (q.D = p.D) && decide (q.color = 0)))) := by
  unfold pairB beforeB
  by_cases h1 : q.W < p.W
  · have : ¬ q.W = p.W := by omega
    simp [h1, this]
  · by_cases h2 : q.W = p.W
    · by_cases h3 : q.D < p.D
      · have : ¬ q.D = p.D := by omega
        simp [h2, h3, this]
      · by_cases h4 : q.D = p.D
        · by_cases h5 : q.color = 0 <;> simp [h2, h4, h5]
        · simp [h2, h3, h4]
    · simp [h1, h2]

end Go.Proofs.YtaaeapjnjjbglaaGreatDoor

namespace Go.Proofs.YtaaeapjnjjbglaaGreatDoor
open Go.RowKit

end Go.Proofs.YtaaeapjnjjbglaaGreatDoor

namespace Go.Proofs.YtaaeapjnjjbglaaGreatDoor
open Go.RowKit

theorem comp_bad {s : Shape} {l : List Plate} {c : List Laid} {k : Nat} (hk : k < c.length) (h : compAt s l c k = false) : compB s l c = false := by
  unfold compB
  rw [Bool.and_eq_false_iff]
  left
  rw [List.all_eq_false]
  exact ⟨k, List.mem_range.2 hk, by simp [h]⟩
theorem comp_open {s : Shape} {l : List Plate} {c : List Laid} {k : Nat} (hk : k < s.cells.length) (h : coveredAt s l c k = false) : compB s l c = false := by
  unfold compB
  rw [Bool.and_eq_false_iff]
  right
  rw [List.all_eq_false]
  exact ⟨k, List.mem_range.2 hk, by simp [h]⟩
theorem comp_good {s : Shape} {l : List Plate} {c : List Laid} (h1 : ∀ j, j < c.length → compAt s l c j = true) (h2 : ∀ j, j < s.cells.length → coveredAt s l c j = true) : compB s l c = true := by
  unfold compB
  rw [Bool.and_eq_true, List.all_eq_true, List.all_eq_true]
  exact ⟨fun j hj => h1 j (List.mem_range.1 hj), fun j hj => h2 j (List.mem_range.1 hj)⟩

/-- The error of a composition. -/
def compErr (s : Shape) (l : List Plate) (c : List Laid) : Int := if s.valid = true then (if platesB l = true then (if compB s l c = true then 0 else 8) else 71) else 70
def askedErr (s : Shape) (l : List Plate) : Int := if s.valid = true then platesErr l else 70
end Go.Proofs.YtaaeapjnjjbglaaGreatDoor

namespace Go.Proofs.YtaaeapjnjjbglaaGreatDoor
open Go.RowKit

theorem infoU32 : (Tryz.prog.info? 106).map (fun i => (i.zero, i.size, i.bytes)) = some (some (.int .u32 0), 1, 4) := by kernel_rfl
def uv (n : Nat) : Value := .int .u32 (n : Int)
/-- What a lookup of a sort gives. -/
def sortV : Option Nat → Value
  | some v => .tuple #[.int .u32 (v : Int), .bool true]
  | none => .tuple #[.int .u32 0, .bool false]
theorem look_sort {w : World} {M : Nat} {m : List ((Int × Bool) × Nat)} (h : MapOf encSort encSet w M m) (a : Int) (b : Bool) : (Instr.lookup 140 (.map (some M)) (.agg #[.int .i64 a, .bool b]) true).run Tryz.prog w = .ok (sortV (getK m (a, b))) w := by
  have := lookup_run sortKey Tryz.underlying140 (w := w) (z := .int .u32 0) (by kernel_rfl) h (a, b) true
  rw [show Value.agg #[.int .i64 a, .bool b] = encSort (a, b) from rfl, this]
  cases getK m (a, b) <;> rfl
/-- The map of a place. -/
theorem lay_place {s : Shape} {l : List Plate} (ok : s.Ok) {x y z : Int} {n : Nat} (h : s.num x y z = n) (q : Int × Bool) :
    layAt s l ((placesS s s.cells.length).getD n 0) q = layF s l x y z (s.colorAt x y z) l.length q := by
  have hin : s.inside x y z = true := num_in (by omega)
  have hid := s.idx_in ok hin
  obtain ⟨p1, p2, p3⟩ := s.place_of ok hin
  have hne : s.num x y z = numOf s.cells (s.idx x y z).toNat := s.num_eq hin
  have hg := placesS_get (s := s) (Nat.le_refl _) (show (s.idx x y z).toNat < s.cells.length by omega) (by omega)
  rw [← hne, h, Int.toNat_natCast] at hg
  rw [List.getD_eq_getElem?_getD, hg]
  show layAt s l (s.idx x y z).toNat q = _
  unfold layAt Shape.colorAt
  rw [p1, p2, p3, if_pos hin]
theorem bits_and {a b : Nat} (ha : a < 65536) (hb : b < 65536) : bits .and .u32 (a : Int) (b : Int) = ((a &&& b : Nat) : Int) := by
  exact u32_and_nat a b (by omega) (by omega)
theorem bits_or {a b : Nat} (ha : a < 65536) (hb : b < 65536) : bits .or .u32 (a : Int) (b : Int) = ((a ||| b : Nat) : Int) := by
  exact u32_or_nat a b (by omega) (by omega)
theorem cover_small {s : Shape} {l : List Plate} {c : Laid} {m : Nat} (ok : s.Ok) (hm : coverOf s l c = some m) : m < 65536 := by
  have : m < 2 ^ 16 := by
    apply Nat.lt_pow_two_of_testBit
    intro i hi
    cases hb : m.testBit i
    · rfl
    · have := (cover_lt ok hm hb).1
      have := ok.full
      omega
  omega
theorem liesB_plate {s : Shape} {l : List Plate} {c : Laid} (h : liesB s l c = true) : 0 ≤ c.plate ∧ c.plate < l.length := (lies_iff.1 h).1
theorem own_setCell_ne {w : World} {base : Nat} {e : TypeId} {size : Nat} {v : Value} {n : Nat} {xs : List Value} (h : w.ownsRow base e size v n xs) {p : Addr} (hp : p.block < base) (u : Value) : (w.setCell p u).ownsRow base e size v n xs := own_setCell h hp u
theorem flat_uv (xs : List Nat) : (xs.map fun n => [uv n]).flatten = xs.map uv := by
  induction xs with
  | nil => rfl
  | cons x l ih => simp [ih]
theorem full_eq {F all : Nat} (hF : F ≤ 16) : ((all : Int) == ((2 : Int) ^ F - 1) % 4294967296) = decide (all = 2 ^ F - 1) := by
  have h1 : 2 ^ F ≤ 2 ^ 16 := Nat.pow_le_pow_right (by omega) hF
  have h2 : 1 ≤ 2 ^ F := Nat.one_le_two_pow
  have e : (2 : Int) ^ F = ((2 ^ F : Nat) : Int) := (Int.natCast_pow 2 F).symm
  rw [e]
  generalize 2 ^ F = p at h1 h2
  rw [Bool.eq_iff_iff]
  simp only [beq_iff_eq, decide_eq_true_eq]
  omega
/-- What set hands back. -/
def SetRes (s : Shape) (l : List Plate) (c : List Laid) (w : World) (e : Ending) (w' : World) : Prop :=
  (∃ SA sc, ∃ out : List Nat, e = .returned (.tuple #[.slice SA out.length sc, .bool (setB s l c)]) ∧ (setB s l c = true → SliceIs w' SA out.length sc 1 (out.map fun m => [uv m]) ∧ ∃ all, setRun s l c c.length = some (out, all) ∧ all = 2 ^ fullN s.cells - 1)) ∧ Ext w w'
theorem setB_bad {s : Shape} {l : List Plate} {c : List Laid} {k : Nat} {out : List Nat} {all : Nat} (h : setRun s l c k = some (out, all)) (hk : k < c.length) (hs : setStep s l c k (out, all) = none) : setB s l c = false := by
  have : setRun s l c c.length = none := runs_fail h hs hk
  unfold setB
  rw [this]

set_option maxRecDepth 100000 in
set_option maxHeartbeats 8000000 in
theorem set_c (g : Nat) (s : Shape) (A : Option Addr) (cap : Nat) (l : List Plate) (PA : Option Addr) (pcap : Nat) (NA : Option Addr) (ncap : Nat) (AA : Option Addr) (acap : Nat) (EA : Option Addr) (ec : Nat) (OA : Option Addr) (oc : Nat) (LA : Option Addr) (lc : Nat) (ms : List Nat)
    (c : List Laid) (CA : Option Addr) (ccap : Nat) (ok : s.Ok) (okl : platesB l = true) (hclen : c.length ≤ 1000) (w : World) (hB : Board w g s A cap l PA pcap NA ncap AA acap EA ec OA oc LA lc ms) (hcs : Laids w CA ccap c) :
    Calls Tryz.prog 42 #[.pointer (some ⟨g, 0, none⟩), .slice CA c.length ccap] w (SetRes s l c w) := by
  have hl8 := plates_len okl
  have hmk := make_ints l.length (by omega)
  obtain ⟨W2, hW2, E2, B2, hz2⟩ := box_ w (intsA (List.replicate l.length 0)) 3
  rw [← usedL_zero l c] at B2
  obtain ⟨U, hU⟩ : ∃ U, w.heap.size = U := ⟨_, rfl⟩
  rw [hU] at B2 hz2
  have c4 := hB.brd.c4
  have hF := ok.full
  go_enter Tryz.func42, Tryz.ntmps42
  go_wp2_with fail
  clear hmk hW2 c4
  have HU := Lib.hid hU
  clear hU
  go_loopw [6, 7, 8, 23] (fun ov al la i wr => ∃ (k : Nat) (out : List Nat) (all : Nat), k ≤ c.length ∧ i = .int .i64 k ∧ al = .int .u32 (all : Int) ∧ la = .int .i64 (prevNum s c k) ∧ setRun s l c k = some (out, all) ∧ all < 65536 ∧ Ext w wr ∧
    Blk wr U 3 (intsA (usedL l c k)) ∧ wr.ownsRow (U + 1) 106 1 ov out.length (out.map uv)) (fun _ _ _ i _ => c.length - (intOf i).toNat)
  case atStart => exact ⟨0, [], 0, by omega, rfl, rfl, rfl, rfl, by omega, E2, B2, World.ownsRow_nil _ _ _ _⟩
  case round =>
    obtain ⟨k, out, all, hk, rfl, rfl, rfl, hrun, hall, E, BU, own⟩ := hrel
    have hol1 : out.length ≤ 1000 := by have := (setRun_is hrun).len; omega
    have Hrun := Lib.hid hrun
    clear hrun
    have hUr : U < wr.heap.size := BU.lt
    by_cases hlt : k < c.length
    · obtain ⟨b, off, a, rfl, ha, hb, a0, a1, a2, a3, a4⟩ := hcs.at_ hlt
      obtain ⟨q0, q1, q2, q3, q4⟩ := E.five a0 a1 a2 a3 a4
      have hbr : b < wr.heap.size := Nat.lt_of_lt_of_le hb E.size
      have Ha := Lib.hid ha
      have Hla := Lib.hid (laidAt_eq ha)
      clear ha
      obtain ⟨W1, hW1, E1, B1, hz1⟩ := box_ wr #[.int .i64 a.plate, .int .i64 a.x, .int .i64 a.y, .int .i64 a.z, .bool a.turned] 55
      have b1 := B1.cell
      have BU1 := BU.ext E1
      have own1 := own_ext own E1
      have E01 := E.trans E1
      have hB1 := hB.ext E01
      obtain ⟨n, hn⟩ : ∃ n, s.num a.x a.y a.z = n := ⟨_, rfl⟩
      obtain ⟨la, hla⟩ : ∃ la, prevNum s c k = la := ⟨_, rfl⟩
      have hlo : -1 ≤ la := by rw [← hla]; exact prevNum_ge s c k
      have Hn := Lib.hid hn
      have Hlast := Lib.hid hla
      rw [hla]
      clear hla
      by_cases hle : n ≤ la
      · have hd : decide (n ≤ la) = true := by simpa using hle
        have Hbad := Lib.hid (setB_bad Hrun.out hlt (by
          unfold setStep numL
          rw [Hla.out, Hn.out, Hlast.out, if_pos hle]))
        clear hn hle
        go_wp2_with fail
        refine (at_c a.x a.y a.z g s A cap _ _ ok _ hB1.brd.base).mono ?_
        rintro e W3 ⟨rfl, E3⟩
        rw [Hn.out]
        go_wp2_with fail
        go_ret2
        exact ⟨⟨none, 0, [], by rw [Hbad.out]; rfl, fun h => by rw [Hbad.out] at h; cases h⟩, E01.trans E3⟩
      · have hd : decide (n ≤ la) = false := by simpa using hle
        have hnlt : n < fullN s.cells := by rw [← hn]; exact num_lt_full ok _ _ _
        clear hn
        obtain ⟨j, hj⟩ := Int.eq_ofNat_of_zero_le (show 0 ≤ n by omega)
        subst hj
        have hjm : j < ms.length := by rw [hB.len]; omega
        obtain ⟨Mj, hMj⟩ : ∃ Mj, ms[j]? = some Mj := ⟨_, List.getElem?_eq_getElem hjm⟩
        obtain ⟨m, hmap, hget⟩ := hB.maps j Mj hMj
        have Hcov : Hid (getK m (a.plate, a.turned) = coverOf s l a) := Lib.hid (by
          rw [hget, lay_place ok Hn.out]
          rfl)
        clear hget
        obtain ⟨lb, loff, hLA, hlb, hlc⟩ := hB.lays.cells (by omega)
        have lcell := hlc j [mapV Mj] (by rw [List.getElem?_map, hMj]; rfl) 0 _ rfl
        simp only [Nat.mul_one, Nat.add_zero, mapV] at lcell
        subst hLA
        clear hlc hMj hjm
        obtain ⟨r, hr⟩ : ∃ r, coverOf s l a = r := ⟨_, rfl⟩
        have Hr := Lib.hid hr
        clear hr
        cases r with
        | none =>
          have Hbad := Lib.hid (setB_bad Hrun.out hlt (by
            unfold setStep numL
            rw [Hla.out, Hn.out, Hlast.out, if_neg (show ¬ ((j : Int) ≤ la) by omega), Hr.out]))
          go_wp2_with fail
          refine (at_c a.x a.y a.z g s _ cap _ _ ok _ hB1.brd.base).mono ?_
          rintro e W3 ⟨rfl, E3⟩
          rw [Hn.out]
          have E03 := E01.trans E3
          have hB3 := hB.ext E03
          have c9 := hB3.c9
          have lcell3 := E03.cell lcell
          have B3 := B1.ext E3
          have b3 := B3.cell
          have hlk : ∀ x, (Instr.lookup 140 (.map (some Mj)) (.agg #[.int .i64 a.plate, .bool a.turned]) true).run Tryz.prog (grow W3 x) = .ok (sortV none) (grow W3 x) := fun x => by
            rw [look_sort (hmap.ext (E03.trans ((Ext.refl _).grow x))), Hcov.out, Hr.out]
          have hj63 : (j : Int) < 16 := by omega
          clear b1 q0 q1 q2 q3 q4
          dsimp only [sortV] at hlk
          go_wp2_with fail
          refine wp_region_grow (by kernel_rfl) (by kernel_rfl) ?_
          repeat (go_big_quiet_step (fail))
          refine wpQuiet_nil ?_
          intro W4 hW4
          have E4 : Ext W3 W4 := by
            obtain ⟨x, rfl⟩ := hW4
            exact (Ext.refl _).grow x
          clear hW4
          obtain ⟨hcW4, hfW4, hzW4⟩ := ext_facts E4
          go_wp2_with fail
          go_ret2
          exact ⟨⟨none, 0, [], by rw [Hbad.out]; rfl, fun h => by rw [Hbad.out] at h; cases h⟩, E03.trans E4⟩
        | some mm =>
          have hmm := cover_small ok Hr.out
          have hb0 := bits_and hmm hall
          by_cases hand : mm &&& all = 0
          · have hpl := liesB_plate (lies_cover.2 ⟨by rw [Hn.out]; omega, by rw [Hr.out]; rfl⟩)
            have hb1 : (bits .and .u32 (mm : Int) (all : Int) != 0) = false := by rw [hb0, hand]; rfl
            have hb2 : (bits .and .u32 (mm : Int) (all : Int) == 0) = true := by rw [hb0, hand]; rfl
            have hb3 : bits .or .u32 (all : Int) (mm : Int) = ((all ||| mm : Nat) : Int) := bits_or hall hmm
            have hor : all ||| mm < 65536 := by
              have := Nat.or_lt_two_pow (x := all) (y := mm) (n := 16) (by omega) (by omega)
              omega
            obtain ⟨hp1, hp2⟩ := hpl
            obtain ⟨pb, poff, p, hPA, hpl, hpb, p0, p1, p2, p3⟩ := hB.brd.plates.at_ (k := a.plate.toNat) (by omega)
            subst hPA
            have okp := (plate_ok okl hpl).n
            have Hp := Lib.hid (plateAt_eq hpl)
            clear hpl
            have hun : usedN c k a.plate ≤ 1000 := by have := usedN_le c k a.plate; omega
            have hpt : ((a.plate.toNat : Nat) : Int) = a.plate := by omega
            have Hget : Hid ((usedL l c k)[a.plate.toNat]? = some (usedN c k a.plate : Int)) := Lib.hid (by
              have := usedL_get (l := l) (c := c) (k := k) (p := a.plate.toNat) (by omega)
              rwa [hpt] at this)
            have Hset : Hid ((usedL l c k).set a.plate.toNat ((usedN c k a.plate : Int) + 1) = usedL l c (k + 1)) := Lib.hid (by
              have := usedL_succ (l := l) (p := a.plate.toNat) Ha.out hpt.symm
              rwa [hpt] at this)
            have Hsucc : Hid (usedN c (k + 1) a.plate = usedN c k a.plate + 1) := Lib.hid (by
              have := usedN_succ Ha.out a.plate
              rwa [if_pos rfl] at this)
            clear hpt
            have Hand := Lib.hid hand
            clear hand hb0
            go_wp2_with fail
            refine (at_c a.x a.y a.z g s _ cap _ _ ok _ hB1.brd.base).mono ?_
            rintro e W3 ⟨rfl, E3⟩
            rw [Hn.out]
            have E03 := E01.trans E3
            have hB3 := hB.ext E03
            have c9 := hB3.c9
            have lcell3 := E03.cell lcell
            have B3 := B1.ext E3
            have b3 := B3.cell
            have hlk : ∀ x, (Instr.lookup 140 (.map (some Mj)) (.agg #[.int .i64 a.plate, .bool a.turned]) true).run Tryz.prog (grow W3 x) = .ok (sortV (some mm)) (grow W3 x) := fun x => by
              rw [look_sort (hmap.ext (E03.trans ((Ext.refl _).grow x))), Hcov.out, Hr.out]
            have hj63 : (j : Int) < 16 := by omega
            clear b1 q0 q1 q2 q3 q4
            dsimp only [sortV] at hlk
            go_wp2_with fail
            refine wp_region_grow (by kernel_rfl) (by kernel_rfl) ?_
            repeat (go_big_quiet_step (fail))
            refine wpQuiet_nil ?_
            intro W4 hW4
            have E4 : Ext W3 W4 := by
              obtain ⟨x, rfl⟩ := hW4
              exact (Ext.refl _).grow x
            clear hW4
            obtain ⟨hcW4, hfW4, hzW4⟩ := ext_facts E4
            clear hlk b3
            have E04 := E03.trans E4
            have B4 := B3.ext E4
            have b4 := B4.cell
            have BU4 := (BU1.ext E3).ext E4
            have own4 := own_ext (own_ext own1 E3) E4
            have bu4 : W4.cell? ⟨U, a.plate.toNat, none⟩ = some (.int .i64 (usedN c k a.plate)) := by rw [BU4.cell, intsA_get, Hget.out]; rfl
            have fu4 := BU4.frozen a.plate.toNat
            obtain ⟨W5, hW5, BU5, keep5, ext5, hz5⟩ := BU4.store1 a.plate.toNat (.int .i64 ((usedN c k a.plate : Int) + 1))
            rw [intsA_set, Hset.out] at BU5
            have E05 : Ext w W5 := ext5 w E04 (by rw [HU.out]; exact Nat.le_refl _)
            have B5 := keep5 _ _ _ (by omega) B4
            have b5 := B5.cell
            have own5 := own_setCell_ne own4 (p := ⟨U, a.plate.toNat, none⟩) (by show U < U + 1; omega) (.int .i64 ((usedN c k a.plate : Int) + 1))
            rw [hW5] at own5
            obtain ⟨t0, t1, t2, t3⟩ := E05.four p0 p1 p2 p3
            have c45 := (hB.ext E05).brd.c4
            have bu5 : W5.cell? ⟨U, a.plate.toNat, none⟩ = some (.int .i64 ((usedN c k a.plate : Int) + 1)) := by
              have hg := usedL_get (l := l) (c := c) (k := k + 1) (p := a.plate.toNat) (by omega)
              rw [show ((a.plate.toNat : Nat) : Int) = a.plate by omega, Hsucc.out] at hg
              rw [BU5.cell, intsA_get, hg]
              simp [iv]
            clear hz5
            by_cases hu : p.N < (usedN c k a.plate : Int) + 1
            · have hub : decide (p.N < (usedN c k a.plate : Int) + 1) = true := by simpa using hu
              have Hbad := Lib.hid (setB_bad Hrun.out hlt (by
                unfold setStep numL
                rw [Hla.out, Hn.out, Hlast.out, if_neg (show ¬ ((j : Int) ≤ la) by omega), Hr.out, Hp.out, Hsucc.out]
                show (if _ ∨ p.N < ((usedN c k a.plate + 1 : Nat) : Int) then _ else _) = _
                rw [if_pos (Or.inr (by omega))]))
              clear hu
              go_wp2_with fail
              refine wp_region_grow (by kernel_rfl) (by kernel_rfl) ?_
              repeat (go_big_quiet_step (fail))
              refine wpQuiet_nil ?_
              intro W6 hW6
              have E6 : Ext W5 W6 := by
                obtain ⟨x, rfl⟩ := hW6
                exact (Ext.refl _).grow x
              clear hW6
              obtain ⟨hcW6, hfW6, hzW6⟩ := ext_facts E6
              go_wp2_with fail
              go_ret2
              exact ⟨⟨none, 0, [], by rw [Hbad.out]; rfl, fun h => by rw [Hbad.out] at h; cases h⟩, E05.trans E6⟩
            · have hub : decide (p.N < (usedN c k a.plate : Int) + 1) = false := by simpa using hu
              have Hgood : Hid (setRun s l c (k + 1) = some (out ++ [mm], all ||| mm)) := Lib.hid (by
                show runs _ (k + 1) _ = _
                rw [runs_succ Hrun.out]
                unfold setStep numL
                rw [Hla.out, Hn.out, Hlast.out, if_neg (show ¬ ((j : Int) ≤ la) by omega), Hr.out, Hp.out, Hsucc.out]
                show (if mm &&& all ≠ 0 ∨ p.N < ((usedN c k a.plate + 1 : Nat) : Int) then none else some (out ++ [mm], all ||| mm)) = _
                rw [if_neg]
                rintro (h | h)
                · exact h Hand.out
                · omega)
              have Hprev : Hid (prevNum s c (k + 1) = (j : Int)) := Lib.hid (by
                show numL s (laidAt c k) = _
                rw [Hla.out]
                exact Hn.out)
              clear hu
              obtain ⟨i0, hi, hz0, hz1', hz2'⟩ := info_parts infoU32
              have hml : out.length + 1 ≤ maxLen := by unfold maxLen; omega
              have hml2 : (out.length + 1) * 4 ≤ 140737488355328 := by omega
              go_wp2_with fail
              refine wp_region_grow (by kernel_rfl) (by kernel_rfl) ?_
              repeat (go_big_quiet_step (fail))
              refine wpQuiet_nil ?_
              intro W6 hW6
              have E6 : Ext W5 W6 := by
                obtain ⟨x, rfl⟩ := hW6
                exact (Ext.refl _).grow x
              clear hW6
              obtain ⟨hcW6, hfW6, hzW6⟩ := ext_facts E6
              have own6 := own_ext own5 E6
              have BU6 := BU5.ext E6
              have hbase6 : U + 1 ≤ W6.heap.size := BU6.lt
              clear b4 b5 bu4 bu5 t0 t1 t2 t3 c45 fu4
              go_wp2_with (at_builtin; refine wpList_append_one #[.int .u32 (mm : Int)] rfl (.tmp 87) (.tmp 89) 66 rfl (U + 1) 106 106 i0 (.int .u32 0) 1 4 Tryz.underlying66 hi hz0 hz1' hz2' rfl (by decide) _ out.length _ _ rfl own6 rfl rfl (by simp [Value.oneCell']) hml hml2 hbase6 ?_; intro g7 cap7 w7 own7 hg7; have BU7 := (BU6.alloc (.cells #[.int .u32 (mm : Int)] 106)).grown hg7 (own_ne own6 (by omega)); have E7 := ((E05.trans E6).alloc (.cells #[.int .u32 (mm : Int)] 106)).grown hg7 (fun q hq => by have := (own6.lt q hq).1; rw [HU.out]; omega))
              go_roundw
              case rel =>
                refine ⟨k + 1, out ++ [mm], all ||| mm, by omega, by go_num, by first | rfl | rw [hb3], by rw [Hprev.out], Hgood.out, hor, E7, BU7, ?_⟩
                rw [List.map_append, List.length_append]
                exact own7
              case measure => simp only [intOf]; omega
          · have hb1 : (bits .and .u32 (mm : Int) (all : Int) != 0) = true := by rw [hb0]; simpa using hand
            have hb2 : (bits .and .u32 (mm : Int) (all : Int) == 0) = false := by rw [hb0]; simpa using hand
            have Hbad := Lib.hid (setB_bad Hrun.out hlt (by
              unfold setStep numL
              rw [Hla.out, Hn.out, Hlast.out, if_neg (show ¬ ((j : Int) ≤ la) by omega), Hr.out]
              show (if mm &&& all ≠ 0 ∨ _ then _ else _) = _
              rw [if_pos (Or.inl hand)]))
            clear hand hb0
            go_wp2_with fail
            refine (at_c a.x a.y a.z g s _ cap _ _ ok _ hB1.brd.base).mono ?_
            rintro e W3 ⟨rfl, E3⟩
            rw [Hn.out]
            have E03 := E01.trans E3
            have hB3 := hB.ext E03
            have c9 := hB3.c9
            have lcell3 := E03.cell lcell
            have B3 := B1.ext E3
            have b3 := B3.cell
            have hlk : ∀ x, (Instr.lookup 140 (.map (some Mj)) (.agg #[.int .i64 a.plate, .bool a.turned]) true).run Tryz.prog (grow W3 x) = .ok (sortV (some mm)) (grow W3 x) := fun x => by
              rw [look_sort (hmap.ext (E03.trans ((Ext.refl _).grow x))), Hcov.out, Hr.out]
            have hj63 : (j : Int) < 16 := by omega
            clear b1 q0 q1 q2 q3 q4
            dsimp only [sortV] at hlk
            go_wp2_with fail
            refine wp_region_grow (by kernel_rfl) (by kernel_rfl) ?_
            repeat (go_big_quiet_step (fail))
            refine wpQuiet_nil ?_
            intro W4 hW4
            have E4 : Ext W3 W4 := by
              obtain ⟨x, rfl⟩ := hW4
              exact (Ext.refl _).grow x
            clear hW4
            obtain ⟨hcW4, hfW4, hzW4⟩ := ext_facts E4
            go_wp2_with fail
            go_ret2
            exact ⟨⟨none, 0, [], by rw [Hbad.out]; rfl, fun h => by rw [Hbad.out] at h; cases h⟩, E03.trans E4⟩
    · obtain rfl : k = c.length := by omega
      have hBr := hB.ext E
      have c6 := hBr.c6
      obtain ⟨SA, sc, rfl⟩ := own_forms own
      have hsl : SliceIs wr SA out.length sc 1 (out.map fun m => [uv m]) := own_any (by decide) (by simp) (by simp) (by rw [flat_uv]; exact own)
      have Hsl := Lib.hid hsl
      have Hset : Hid (setB s l c = decide (all = 2 ^ fullN s.cells - 1)) := Lib.hid (by
        unfold setB
        rw [Hrun.out])
      have Hfe := Lib.hid (full_eq (all := all) hF.2)
      clear hsl own BU
      go_wp2_with fail
      refine wp_region_grow (by kernel_rfl) (by kernel_rfl) ?_
      repeat (go_big_quiet_step (fail))
      refine wpQuiet_nil ?_
      intro W3 hW3
      have E3 : Ext wr W3 := by
        obtain ⟨x, rfl⟩ := hW3
        exact (Ext.refl _).grow x
      clear hW3
      obtain ⟨hcW3, hfW3, hzW3⟩ := ext_facts E3
      go_wp2_with fail
      go_ret2
      refine ⟨⟨SA, sc, out, by rw [Hset.out, ← Hfe.out]; rfl, fun h => ⟨Hsl.out.ext E3, all, Hrun.out, ?_⟩⟩, E.trans E3⟩
      rw [Hset.out] at h
      simpa using h
end Go.Proofs.YtaaeapjnjjbglaaGreatDoor

namespace Go.Proofs.YtaaeapjnjjbglaaGreatDoor
open Go.RowKit

/-- What sets hands back for a composition. -/
def SetsOk (s : Shape) (l : List Plate) (c : List Laid) (A : Option Addr) (cap : Nat) (PA : Option Addr) (pcap : Nat) (w : World) (e : Ending) (w' : World) : Prop :=
  ∃ g NA ncap AA acap EA ecap OA ocap LA lcap ms SA sc, ∃ out : List Nat, ∃ all, e = .returned (.tuple #[.pointer (some ⟨g, 0, none⟩), .slice SA out.length sc, .int .i64 0]) ∧ Board w' g s A cap l PA pcap NA ncap AA acap EA ecap OA ocap LA lcap ms ∧
    SliceIs w' SA out.length sc 1 (out.map fun m => [uv m]) ∧ setRun s l c c.length = some (out, all) ∧ all = 2 ^ fullN s.cells - 1 ∧ Ext w w'
set_option maxRecDepth 100000 in
set_option maxHeartbeats 2000000 in
theorem sets_ok (s : Shape) (A : Option Addr) (cap : Nat) (l : List Plate) (PA : Option Addr) (pcap : Nat) (c : List Laid) (CA : Option Addr) (ccap : Nat) (hv : s.valid = true) (hp : platesB l = true) (hc : compB s l c = true) (hclen : c.length ≤ 1000) (w : World)
    (hs : Bytes w A cap s.cells) (hl : Plates w PA pcap l) (hcs : Laids w CA ccap c) :
    Calls Tryz.prog 21 #[.agg #[.int .i64 s.W, .int .i64 s.D, .int .i64 s.H, .slice A s.cells.length cap], .slice PA l.length pcap, .slice CA c.length ccap] w (SetsOk s l c A cap PA pcap w) := by
  obtain ⟨W1, hW1, E1, B1, hz1⟩ := box_ w #[.int .i64 s.W, .int .i64 s.D, .int .i64 s.H, .slice A s.cells.length cap] 24
  have b1 := B1.cell
  have ok := Shape.ok_of hv
  have Hset : Hid (setB s l c = true) := Lib.hid ((set_comp ok).trans hc)
  have Hv := Lib.hid hv
  clear hc hv
  go_enter Tryz.func21, Tryz.ntmps21
  go_wp2_with fail
  refine (look_ok s l A cap PA pcap Hv.out hp _ (hs.ext E1) (hl.ext E1)).mono ?_
  rintro e w2 ⟨g, NA, ncap, AA, acap, EA, ec, OA, oc, LA, lc, ms, rfl, hB, E2⟩
  go_wp2_with fail
  refine (set_c g s A cap l PA pcap NA ncap AA acap EA ec OA oc LA lc ms c CA ccap ok hp hclen _ hB ((hcs.ext E1).ext E2)).mono ?_
  rintro e w3 ⟨⟨SA, sc, out, rfl, hres⟩, E3⟩
  rw [Hset.out]
  have Hres := Lib.hid (hres Hset.out)
  have HB := Lib.hid (hB.ext E3)
  clear hB hres
  go_wp2_with fail
  go_ret3
  obtain ⟨h1, all, h2, h3⟩ := Hres.out
  exact ⟨g, NA, ncap, AA, acap, EA, ec, OA, oc, LA, lc, ms, SA, sc, out, all, rfl, HB.out, h1, h2, h3, (E1.trans E2).trans E3⟩
set_option maxRecDepth 100000 in
set_option maxHeartbeats 2000000 in
theorem sets_bad (s : Shape) (A : Option Addr) (cap : Nat) (l : List Plate) (PA : Option Addr) (pcap : Nat) (c : List Laid) (CA : Option Addr) (ccap : Nat) (e0 : Int) (he : compErr s l c = e0) (h0 : e0 ≠ 0) (hclen : c.length ≤ 1000) (w : World)
    (hs : Bytes w A cap s.cells) (hl : Plates w PA pcap l) (hcs : Laids w CA ccap c) :
    Calls Tryz.prog 21 #[.agg #[.int .i64 s.W, .int .i64 s.D, .int .i64 s.H, .slice A s.cells.length cap], .slice PA l.length pcap, .slice CA c.length ccap] w fun e w' =>
      e = .returned (.tuple #[.pointer none, .slice none 0 0, .int .i64 e0]) ∧ Ext w w' := by
  obtain ⟨W1, hW1, E1, B1, hz1⟩ := box_ w #[.int .i64 s.W, .int .i64 s.D, .int .i64 s.H, .slice A s.cells.length cap] 24
  have b1 := B1.cell
  by_cases hv : s.valid = true ∧ platesB l = true
  · obtain ⟨hv, hp⟩ := hv
    have ok := Shape.ok_of hv
    unfold compErr at he
    rw [if_pos hv, if_pos hp] at he
    have hcf : compB s l c = false := by
      cases hh : compB s l c
      · rfl
      · rw [hh] at he
        exact absurd he.symm h0
    rw [hcf] at he
    have he8 : e0 = 8 := he.symm
    subst he8
    have Hset : Hid (setB s l c = false) := Lib.hid ((set_comp ok).trans hcf)
    have Hv := Lib.hid hv
    clear hcf hv he h0
    go_enter Tryz.func21, Tryz.ntmps21
    go_wp2_with fail
    refine (look_ok s l A cap PA pcap Hv.out hp _ (hs.ext E1) (hl.ext E1)).mono ?_
    rintro e w2 ⟨g, NA, ncap, AA, acap, EA, ec, OA, oc, LA, lc, ms, rfl, hB, E2⟩
    go_wp2_with fail
    refine (set_c g s A cap l PA pcap NA ncap AA acap EA ec OA oc LA lc ms c CA ccap ok hp hclen _ hB ((hcs.ext E1).ext E2)).mono ?_
    rintro e w3 ⟨⟨SA, sc, out, rfl, hres⟩, E3⟩
    rw [Hset.out]
    clear hB hres
    go_wp2_with fail
    go_ret3
    exact ⟨rfl, (E1.trans E2).trans E3⟩
  · have he2 : (if s.valid = true then platesErr l else 70) = e0 := by
      unfold compErr at he
      unfold platesErr
      by_cases h1 : s.valid = true
      · rw [if_pos h1] at he ⊢
        have h2 : ¬ platesB l = true := fun h => hv ⟨h1, h⟩
        rw [if_neg h2] at he ⊢
        exact he
      · rw [if_neg h1] at he ⊢
        exact he
    have He2 := Lib.hid he2
    have h0b : (e0 == 0) = false := by simpa using h0
    have h0c : (e0 != 0) = true := by simpa using h0
    have H0 := Lib.hid h0
    clear he he2 hv h0
    go_enter Tryz.func21, Tryz.ntmps21
    go_wp2_with fail
    refine (look_bad s l A cap PA pcap e0 He2.out H0.out _ (hs.ext E1) (hl.ext E1)).mono ?_
    rintro e w2 ⟨rfl, E2⟩
    go_wp2_with fail
    go_ret3
    exact ⟨rfl, E1.trans E2⟩
set_option maxRecDepth 100000 in
set_option maxHeartbeats 2000000 in
theorem check_c (s : Shape) (A : Option Addr) (cap : Nat) (l : List Plate) (PA : Option Addr) (pcap : Nat) (c : List Laid) (CA : Option Addr) (ccap : Nat) (hclen : c.length ≤ 1000) (w : World)
    (hs : Bytes w A cap s.cells) (hl : Plates w PA pcap l) (hcs : Laids w CA ccap c) :
    Calls Tryz.prog 19 #[.agg #[.int .i64 s.W, .int .i64 s.D, .int .i64 s.H, .slice A s.cells.length cap], .slice PA l.length pcap, .slice CA c.length ccap] w fun e w' =>
      e = .returned (.int .i64 (compErr s l c)) ∧ Ext w w' := by
  obtain ⟨W1, hW1, E1, B1, hz1⟩ := box_ w #[.int .i64 s.W, .int .i64 s.D, .int .i64 s.H, .slice A s.cells.length cap] 24
  have b1 := B1.cell
  obtain ⟨e0, he⟩ : ∃ e0, compErr s l c = e0 := ⟨_, rfl⟩
  have He := Lib.hid he
  by_cases h0 : e0 = 0
  · subst h0
    have h3 : s.valid = true ∧ platesB l = true ∧ compB s l c = true := by
      unfold compErr at he
      split at he
      · split at he
        · split at he
          · exact ⟨by assumption, by assumption, by assumption⟩
          · omega
        · omega
      · omega
    have H3 := Lib.hid h3
    clear he h3
    go_enter Tryz.func19, Tryz.ntmps19
    go_wp2_with fail
    refine (sets_ok s A cap l PA pcap c CA ccap H3.out.1 H3.out.2.1 H3.out.2.2 hclen _ (hs.ext E1) (hl.ext E1) (hcs.ext E1)).mono ?_
    rintro e w2 ⟨g, NA, ncap, AA, acap, EA, ec, OA, oc, LA, lc, ms, SA, sc, out, all, rfl, -, -, -, -, E2⟩
    go_wp2_with fail
    go_ret
    exact ⟨by rw [He.out]; rfl, E1.trans E2⟩
  · have H0 := Lib.hid h0
    clear he h0
    go_enter Tryz.func19, Tryz.ntmps19
    go_wp2_with fail
    refine (sets_bad s A cap l PA pcap c CA ccap e0 He.out H0.out hclen _ (hs.ext E1) (hl.ext E1) (hcs.ext E1)).mono ?_
    rintro e w2 ⟨rfl, E2⟩
    go_wp2_with fail
    go_ret
    exact ⟨by rw [He.out]; rfl, E1.trans E2⟩
end Go.Proofs.YtaaeapjnjjbglaaGreatDoor
