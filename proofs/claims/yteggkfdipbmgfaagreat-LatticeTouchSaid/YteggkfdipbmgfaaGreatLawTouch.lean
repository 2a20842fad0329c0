/- The given statement LatticeTouchSaid: for every input the law returns true, and each argument reads behind the call as it did. No conditions. -/
import Derived.Test.YteggkfdipbmgfaaGreatBAlive
import Derived.Test.YteggkfdipbmgfaaGreatBTouch
import Derived.Test.YteggkfdipbmgfaaGreatBApi
import Derived.Test.YteggkfdipbmgfaaGreatBLinks
import Derived.Test.YteggkfdipbmgfaaGreatBJointsP
import Derived.Test.YteggkfdipbmgfaaGreatBLinkS
import Derived.Test.YteggkfdipbmgfaaGreatBLib
import Derived.Great.BuildSlice
import Derived.Test.YteggkfdipbmgfaaGreatBOpen
namespace Go.Proofs.YteggkfdipbmgfaaGreat
open Go.RowKit

theorem great_tc {qs : List (Knd × KAt)} {A : Option Addr} {cap : Nat} {B : Option Addr} {n cb : Nat} {r : Bool} (h : greatB (qs.map (·.1)) n = r) {w : World} (hk : Kinds w A cap qs) (hn : n ≤ maxLen) :
    Calls Tryz.prog 7 #[.slice A qs.length cap, .agg #[.slice B n cb]] w fun e w' => e = .returned (.bool r) ∧ Ext w w' := by
  subst h
  exact great_c _ _ _ _ _ _ _ hk hn
theorem look_pr {w : World} {M : Nat} {m : List ((Int × Int) × Int)} (h : MapOf encPr evI w M m) (a b : Int) :
    (Instr.lookup 35 (.map (some M)) (.agg #[.int .i64 a, .int .i64 b]) false).run Tryz.prog w = .ok (.int .i64 ((getK m (a, b)).getD 0)) w := by
  have := lookup_run prKey Tryz.underlying35 (w := w) (z := .int .i64 0) (by kernel_rfl) h (a, b) false
  rw [show Value.agg #[.int .i64 a, .int .i64 b] = encPr (a, b) from rfl, this]
  cases getK m (a, b) <;> rfl
theorem len_map {K V : Type} {enc : K → Value} {ev : V → Value} {w : World} {b : Nat} {m : List (K × V)} (h : MapOf enc ev w b m) {P : Program} {t k e : TypeId} (ht : P.underlying t = some (.map k e)) (ty : TypeId) : (Builtin.len_ #[t] ty #[.map (some b)]).run P w = .ok (.int .i64 m.length) w := by
  obtain ⟨es, clock, hb, hm, -⟩ := h
  have hl : m.length = es.size := by
    have := congrArg List.length hm
    rw [List.length_map, List.length_map, Array.length_toList] at this
    exact this.symm
  rw [hl]
  simp [Builtin.len_, run_underlying ht, MapKept.run_getObj_map hb, goInt, Result.andThen]
theorem infoKnbT : (Tryz.prog.info? 47).map (fun i => (i.zero, i.size, i.bytes)) = some (some (.agg #[.int .i64 0, .int .i64 0, .int .i64 0, .int .u8 0, .int .u8 0]), 5, 32) := by kernel_rfl
theorem infoI64 : (Tryz.prog.info? 3).map (fun i => (i.zero, i.size, i.bytes)) = some (some (.int .i64 0), 1, 8) := by kernel_rfl
theorem five_far {w : World} {g h : Nat} {t : TypeId} {cs : Array Value} (hb : Blk w h t cs) (hne : h ≠ g) (a b c d e : Value) : Blk (((((w.setCell ⟨g, 0, none⟩ a).setCell ⟨g, 1, none⟩ b).setCell ⟨g, 2, none⟩ c).setCell ⟨g, 3, none⟩ d).setCell ⟨g, 4, none⟩ e) h t cs :=
  ((((hb.far (p := ⟨g, 0, none⟩) hne a).far (p := ⟨g, 1, none⟩) hne b).far (p := ⟨g, 2, none⟩) hne c).far (p := ⟨g, 3, none⟩) hne d).far (p := ⟨g, 4, none⟩) hne e
def jntGet (l : List Jnt) (i : Nat) : Jnt := l.getD i ⟨0, 0, 0, 0, false⟩
theorem jntGet_get {l : List Jnt} {i : Nat} (h : i < l.length) : l[i]? = some (jntGet l i) := by
  unfold jntGet
  rw [List.getD_eq_getElem?_getD, List.getElem?_eq_getElem h]
  rfl
theorem jnts_cell {w : World} {A : Option Addr} {cap : Nat} {l : List Jnt} (h : Jnts w A cap l) {k : Nat} (hk : k < l.length) {g off : Nat} (hA : A = some ⟨g, off, none⟩) : w.cell? ⟨g, off + k * 5, none⟩ = some (.int .i64 (jntGet l k).a) ∧ w.cell? ⟨g, off + k * 5 + 1, none⟩ = some (.int .i64 (jntGet l k).b) ∧
    w.cell? ⟨g, off + k * 5 + 2, none⟩ = some (.int .i64 (jntGet l k).strength) ∧ w.cell? ⟨g, off + k * 5 + 3, none⟩ = some (.int .u8 (jntGet l k).axis) ∧ w.cell? ⟨g, off + k * 5 + 4, none⟩ = some (.bool (jntGet l k).slides) := by
  obtain ⟨b, o, hA', -, hc⟩ := SliceIs.cells h (by omega)
  rw [hA'] at hA
  cases hA
  have hr : (l.map Jnt.cs)[k]? = some (jntGet l k).cs := by rw [List.getElem?_map, jntGet_get hk]; rfl
  exact ⟨hc k _ hr 0 _ rfl, hc k _ hr 1 _ rfl, hc k _ hr 2 _ rfl, hc k _ hr 3 _ rfl, hc k _ hr 4 _ rfl⟩
theorem EntOf.ext {K V : Type} {enc : K → Value} {ev : V → Value} [DecidableEq K] {w w' : World} {b : Nat} {m : List (K × V)} {x : K} {born : Nat} (h : EntOf enc ev w b m x born) (E : Ext w w') : EntOf enc ev w' b m x born := by
  have hlt := h.lt
  obtain ⟨es, clock, hb, r⟩ := h
  exact ⟨es, clock, (Below.block E b hlt).trans hb, r⟩
abbrev kz5 : Array Value := #[.int .i64 0, .int .i64 0, .int .i64 0, .int .u8 0, .int .u8 0]
structure Tc18 (W0 : World) (X PG PH la ca lb cb2 xk xo : Nat) (ka kb : Array Value) (L : Nat → Bool) (us : Nat → Value) (w : World) : Prop where
  x : Ext W0 w
  g3 : L 10 = true → W0.heap.size ≤ bk (us 10) ∧ bk (us 10) < w.heap.size
  g4 : L 11 = true → W0.heap.size ≤ bk (us 11) ∧ bk (us 11) < w.heap.size
  g5 : L 10 = true → L 12 = false → Blk w (bk (us 10)) 47 kz5
  g6 : L 11 = true → L 13 = false → Blk w (bk (us 11)) 47 kz5
  g7 : L 10 = true → L 11 = true → bk (us 10) ≠ bk (us 11)
  f0 : L 0 = true → us 0 = .slice (some ⟨PG, 0, none⟩) la ca
  f1 : L 1 = true → us 1 = .pointer (some ⟨X, 2, none⟩)
  f2 : L 2 = true → us 2 = .int .i64 xk
  f3 : L 3 = true → us 3 = .pointer (some ⟨PG, xk * 5, none⟩)
  f4 : L 4 = true → us 4 = .agg ka
  f5 : L 5 = true → us 5 = .slice (some ⟨PH, 0, none⟩) lb cb2
  f6 : L 6 = true → us 6 = .pointer (some ⟨X, 3, none⟩)
  f7 : L 7 = true → us 7 = .int .i64 xo
  f8 : L 8 = true → us 8 = .pointer (some ⟨PH, xo * 5, none⟩)
  f9 : L 9 = true → us 9 = .agg kb
  f10 : L 10 = true → us 10 = .pointer (some ⟨bk (us 10), 0, none⟩)
  f11 : L 11 = true → us 11 = .pointer (some ⟨bk (us 11), 0, none⟩)
  f12 : L 12 = true → Blk w (bk (us 10)) 47 ka
  f13 : L 13 = true → Blk w (bk (us 11)) 47 kb
structure Tc21 (W0 : World) (M X : Nat) (xa xb xk xo : Nat) (xs : Int) (si : Nat) (v s : Int) (m : List ((Int × Int) × Int)) (L : Nat → Bool) (us : Nat → Value) (w : World) : Prop where
  x : Ext W0 w
  g0 : Blk w X 37 #[.int .i64 xa, .int .i64 xb, .int .i64 xk, .int .i64 xo, .int .u8 xs]
  g1 : L 14 = false → MapOf encPr evI w M m
  g2 : L 14 = true → us 14 = .tuple #[.int .i64 v, .int .i64 (bornOf (us 14))]
  g3 : L 14 = true → L 16 = false → EntOf encPr evI w M (putK m (xa, xb) v) (xa, xb) (bornOf (us 14))
  g4 : L 16 = true → MapOf encPr evI w M (putK m (xa, xb) (v + s))
  g5 : L 7 = true → Blk w (bk (us 7)) 3 #[.int .i64 2, .int .i64 3, .int .i64 5]
  f0 : L 0 = true → us 0 = .map (some M)
  f1 : L 1 = true → us 1 = .pointer (some ⟨X, 0, none⟩)
  f2 : L 2 = true → us 2 = .int .i64 xa
  f3 : L 3 = true → us 3 = .pointer (some ⟨X, 1, none⟩)
  f4 : L 4 = true → us 4 = .int .i64 xb
  f5 : L 5 = true → us 5 = .agg #[.int .i64 xa, .int .i64 xb]
  f6 : L 6 = true → us 6 = .int .i64 v
  f7 : L 7 = true → us 7 = .slice (some ⟨bk (us 7), 0, none⟩) 3 3
  f8 : L 8 = true → us 8 = .pointer (some ⟨X, 4, none⟩)
  f9 : L 9 = true → us 9 = .int .u8 xs
  f10 : L 10 = true → us 10 = .int .u8 si
  f11 : L 11 = true → us 11 = .pointer (some ⟨bk (us 7), si, none⟩)
  f12 : L 12 = true → us 12 = .int .i64 s
  f13 : L 13 = true → us 13 = .int .i64 (v + s)
  f15 : L 15 = true → us 15 = .int .i64 (bornOf (us 14))
set_option maxRecDepth 100000 in
set_option maxHeartbeats 16000000 in
theorem touch_walk (qs : List (Knd × KAt)) (QA : Option Addr) (qc : Nat) (bs : List Brk) (B : Option Addr) (cb : Nat) (w : World) (hk : Kinds w QA qc qs) (hb : Bricks w B cb bs) (_ : B = none → cb = 0) :
    Calls Tryz.prog 3 #[.slice QA qs.length qc, .agg #[.slice B bs.length cb]] w fun e w' => e = .returned (.bool true) ∧ Ext w w' := by
  have hmm := @run_makeMap Tryz.prog
  obtain ⟨W1, hW1, E1, B1, hz1⟩ := mk_ w #[.slice B bs.length cb] 25
  have b1 := B1.cell
  clear hz1
  obtain ⟨gr, hg⟩ : ∃ r, greatB (qs.map (·.1)) bs.length = r := ⟨_, rfl⟩
  have GR := Lib.hid (fun W (E : Ext w W) => great_tc (B := B) (cb := cb) hg (hk.ext E) hb.len)
  have hfew := fun h => links_few hk hb.2 h
  have LA := Lib.hid (fun W (E : Ext w W) => linksA_c qs QA qc bs B cb W (hk.ext E) (hb.ext E))
  have JO := Lib.hid (fun W (E : Ext w W) => joints_c qs QA qc bs B cb W (hk.ext E) (hb.ext E) hfew)
  cases gr
  rotate_left
  · clear hg hk hb hfew
    go_enter Tryz.func3, Tryz.ntmps3
    go_wp2_with fail
    refine (alive_c _).mono ?_
    rintro e W2 ⟨rfl, E2⟩
    have b2 := (B1.ext E2).cell
    clear b1 hW1
    go_wp2_with fail
    refine (GR.out _ (E1.trans E2)).mono ?_
    rintro e W3 ⟨rfl, E3⟩
    have E := (E1.trans E2).trans E3
    have BM := (B1.ext E2).ext E3
    clear b2 E1 E2 E3 B1 GR
    have b1 := BM.cell
    go_wp2_with fail
    go_ret
    exact ⟨rfl, E⟩
  by_cases hce : checkErr (qs.map (·.1)) bs = 0
  rotate_left
  · obtain ⟨ce, he⟩ : ∃ c, checkErr (qs.map (·.1)) bs = c := ⟨_, rfl⟩
    obtain ⟨jl, hjl⟩ : ∃ l, jointR (qs.map (·.1)) bs = l := ⟨_, rfl⟩
    obtain ⟨ll, hll⟩ : ∃ l, linkR (qs.map (·.1)) bs = l := ⟨_, rfl⟩
    rw [he, hjl] at JO
    rw [he, hll] at LA
    rw [he] at hce
    have h1 : (ce != 0) = true := by simpa using hce
    have h2 : (ce == ce) = true := by simp
    clear hg hk hb hfew he hjl hll
    go_enter Tryz.func3, Tryz.ntmps3
    go_wp2_with fail
    refine (alive_c _).mono ?_
    rintro e W2 ⟨rfl, E2⟩
    have b2 := (B1.ext E2).cell
    clear b1 hW1
    go_wp2_with fail
    refine (GR.out _ (E1.trans E2)).mono ?_
    rintro e W3 ⟨rfl, E3⟩
    have E := (E1.trans E2).trans E3
    have BM := (B1.ext E2).ext E3
    clear b2 E1 E2 E3 B1 GR
    have b1 := BM.cell
    go_wp2_with fail
    refine (LA.out _ E).mono ?_
    rintro e W4 ⟨A4, lc, rfl, hL, E4⟩
    replace E := E.trans E4
    replace BM := BM.ext E4
    clear b1 E4 LA
    have b1 := BM.cell
    go_wp2_with fail
    refine (JO.out _ E).mono ?_
    rintro e W5 ⟨A5, jc, rfl, hJ, E5⟩
    replace E := E.trans E5
    replace BM := BM.ext E5
    replace hL := hL.ext E5
    clear b1 E5 JO
    go_wp2_with fail
    go_ret
    exact ⟨rfl, E⟩
  have hm0 := check_model hce
  have hft := fit_of hk hb.2 hce
  have hjl : jointR (qs.map (·.1)) bs = jointL (qs.map (·.1)) bs := if_pos hce
  have hll : linkR (qs.map (·.1)) bs = linkL (qs.map (·.1)) bs := if_pos hce
  have hjo := jntsOk hft rfl
  have hfe := hfew hce
  have hasc := linkL_asc hft
  have hisl : ∀ x ∈ linkL (qs.map (·.1)) bs, IsLnk (qs.map (·.1)) bs x := fun x hx => mem_linkL.1 hx
  have hnb := hft.n
  rw [hjl, hce] at JO
  rw [hll, hce] at LA
  have HKN := Lib.hid (fun j (hj : j < bs.length) W (E : Ext w W) => knobsAt_c hk hb.2 hm0 hj W E)
  have Hft := Lib.hid hft
  have HB := Lib.hid hb
  obtain ⟨ks, hks⟩ : ∃ ks, qs.map (·.1) = ks := ⟨_, rfl⟩
  rw [hks] at JO LA HKN Hft hjo hisl hasc hfe
  have hjlen : (jointL ks bs).length ≤ (linkL ks bs).length := pj_len _ _
  obtain ⟨J, hJJ⟩ : ∃ l, jointL ks bs = l := ⟨_, rfl⟩
  rw [hJJ] at hjlen
  have hjo' : JntsOk (linkL ks bs) J := hJJ ▸ hjo
  rw [hJJ] at JO
  obtain ⟨L, hLL⟩ : ∃ l, linkL ks bs = l := ⟨_, rfl⟩
  rw [hLL] at LA hjo' hisl hasc hfe hjlen
  obtain ⟨nb, hnbe⟩ : ∃ n, bs.length = n := ⟨_, rfl⟩
  rw [hnbe] at B1 b1 hW1 GR JO LA HKN hnb ⊢
  have Hnb := Lib.hid hnbe
  obtain ⟨nq, hnq⟩ : ∃ n, qs.length = n := ⟨_, rfl⟩
  rw [hnq] at GR JO LA HKN ⊢
  obtain ⟨n, hn⟩ : ∃ n, L.length = n := ⟨_, rfl⟩
  obtain ⟨nj, hnj⟩ : ∃ n, J.length = n := ⟨_, rfl⟩
  rw [hn] at hfe hjlen
  rw [hnj] at hjlen
  have Hn := Lib.hid hn
  have Hnj := Lib.hid hnj
  have Hjo := Lib.hid hjo'
  have Hisl := Lib.hid hisl
  have Hasc := Lib.hid hasc
  clear hg hk hb hfew hce hft hjl hll hks hJJ hLL hnbe hnq hn hnj hjo hjo' hisl hasc hm0
  go_enter Tryz.func3, Tryz.ntmps3
  go_wp2_with fail
  refine (alive_c _).mono ?_
  rintro e W2 ⟨rfl, E2⟩
  have b2 := (B1.ext E2).cell
  clear b1 hW1
  go_wp2_with fail
  refine (GR.out _ (E1.trans E2)).mono ?_
  rintro e W3 ⟨rfl, E3⟩
  have E := (E1.trans E2).trans E3
  have BM := (B1.ext E2).ext E3
  clear b2 E1 E2 E3 B1 GR
  have b1 := BM.cell
  go_wp2_with fail
  refine (LA.out _ E).mono ?_
  rintro e W4 ⟨A4, lc, rfl, hL, E4⟩
  replace E := E.trans E4
  replace BM := BM.ext E4
  clear b1 E4 LA
  have b1 := BM.cell
  go_wp2_with fail
  refine (JO.out _ E).mono ?_
  rintro e W5 ⟨A5, jc, rfl, hJ, E5⟩
  replace E := E.trans E5
  replace BM := BM.ext E5
  replace hL := hL.ext E5
  clear b1 E5 JO
  have b1 := BM.cell
  have HE := Lib.hid E
  obtain ⟨W6, hW6, E6, M6, hz6⟩ := mapbox_ encPr evI W5
  obtain ⟨M, hM⟩ : ∃ M, W5.heap.size = M := ⟨_, rfl⟩
  rw [hM] at M6 hz6
  have HM := Lib.hid (show W5.heap.size ≤ M by omega)
  have b6 := (BM.ext E6).cell
  have HLL := Lib.hid hL
  have HJJ := Lib.hid hJ
  clear b1 E hL hJ
  go_wp2_with fail
  rw [Hn.out]
  clear hW6 hM hz6 b6
  go_loopw [53] (fun ii wr => ∃ (q : Nat) (m : List ((Int × Int) × Int)), q ≤ n ∧ ii = .int .i64 q ∧ Ext W5 wr ∧ MapOf encPr evI wr M m ∧ Sums m (L.take q)) (fun ii _ => n - (intOf ii).toNat)
  case atStart => exact ⟨0, [], by omega, rfl, E6, M6, Sums.nil⟩
  case round =>
    clear E6 M6
    obtain ⟨q, m, hq, rfl, Er, MA, SU⟩ := hrel
    by_cases hqt : q < n
    · obtain ⟨lg, loff, hLA⟩ : ∃ g off, A4 = some ⟨g, off, none⟩ := by
        obtain ⟨g, off, hA, -, -⟩ := SliceIs.cells HLL.out (by rw [Hn.out]; omega)
        exact ⟨g, off, hA⟩
      subst hLA
      have hlc : n ≤ lc := by have := HLL.out.le; rw [Hn.out] at this; exact this
      obtain ⟨c0, c1, c2, c3, c4⟩ := links_cell (HLL.out.ext Er) (k := q) (by rw [Hn.out]; exact hqt) rfl
      have hget := lnkAt_get (l := L) (k := q) (by rw [Hn.out]; exact hqt)
      have hil := Hisl.out _ (List.mem_of_getElem? hget)
      have hsn := Sums.put SU (lnkAt L q)
      have htk : L.take (q + 1) = L.take q ++ [lnkAt L q] := by rw [List.take_add_one, hget]; rfl
      rw [← htk] at hsn
      have hso := hil.sorts Hft.out
      have hba := hil.back Hft.out
      have hmt := meetB_iff.1 hil.m
      have hma := Hft.out.meets (Nat.lt_trans hil.ab hil.b) hil.k
      have hmb := Hft.out.meets hil.b hil.o
      have hprev : 0 < q → ltK (lnkAt L (q - 1)) (lnkAt L q) = true := fun h0 => by
        have := List.pairwise_iff_getElem.1 Hasc.out (q - 1) q (by have := Hn.out; omega) (by have := Hn.out; omega) (by omega)
        rwa [Option.some.inj ((List.getElem?_eq_getElem (by have := Hn.out; omega)).symm.trans (lnkAt_get (l := L) (k := q - 1) (by have := Hn.out; omega))), Option.some.inj ((List.getElem?_eq_getElem (by have := Hn.out; omega)).symm.trans hget)] at this
      obtain ⟨⟨xa, xb, xk, xo, xs⟩, hx⟩ : ∃ x, lnkAt L q = x := ⟨_, rfl⟩
      rw [hx] at c0 c1 c2 c3 c4 hil hsn hso hba hmt hma hmb hprev
      unfold prOf at hsn
      have hab := hil.ab
      have hbl := hil.b
      have hkl := hil.k
      have hol := hil.o
      simp only at c0 c1 c2 c3 c4 hsn hso hba hmt hma hmb hab hbl hkl hol
      rw [Hnb.out] at hbl
      obtain ⟨hs3, hmin, hmax⟩ := hso
      unfold knobAt at hmin hmax
      have KA := Lib.hid (HKN.out xa (by omega))
      have KB := Lib.hid (HKN.out xb (by omega))
      have HPA := Lib.hid (show ((bknobs ks (brkAt bs xa)).map Knb.cs)[xk]? = some (Knb.cs (knbAt (bknobs ks (brkAt bs xa)) xk)) by
        rw [List.getElem?_map, List.getElem?_eq_getElem hkl, Option.map_some, ← knbAt_eq (List.getElem?_eq_getElem hkl)])
      have HPB := Lib.hid (show ((bknobs ks (brkAt bs xb)).map Knb.cs)[xo]? = some (Knb.cs (knbAt (bknobs ks (brkAt bs xb)) xo)) by
        rw [List.getElem?_map, List.getElem?_eq_getElem hol, Option.map_some, ← knbAt_eq (List.getElem?_eq_getElem hol)])
      obtain ⟨ka, hka⟩ : ∃ k, knbAt (bknobs ks (brkAt bs xa)) xk = k := ⟨_, rfl⟩
      obtain ⟨kb, hkb⟩ : ∃ k, knbAt (bknobs ks (brkAt bs xb)) xo = k := ⟨_, rfl⟩
      rw [hka] at hba hmt hma hmin hmax HPA
      rw [hkb] at hba hmt hmb hmin hmax HPB
      obtain ⟨ax, ay, az, ad, as_, rfl, hma⟩ := hma.nat
      obtain ⟨bx, by_, bz, bd, bs_, rfl, hmb⟩ := hmb.nat
      have e1 : Pt.eqB ⟨ax + (stepS ad).x, ay + (stepS ad).y, az + (stepS ad).z⟩ ⟨bx, by_, bz⟩ = true := Pt.eqB_iff.2 hmt.1
      have e2 : Pt.eqB ⟨bx + (stepS bd).x, by_ + (stepS bd).y, bz + (stepS bd).z⟩ ⟨ax, ay, az⟩ = true := Pt.eqB_iff.2 hba.1
      have aok := hma.ok
      have bok := hmb.ok
      have had : ad < 6 := by have := hma.d5; simp only at this; omega
      have hbd : bd < 6 := by have := hmb.d5; simp only at this; omega
      simp only at aok bok hmin hmax
      have hs7 := (show 1 ≤ as_ ∧ as_ ≤ 6 from ⟨hma.s1, hma.s6⟩)
      have hs8 := (show 1 ≤ bs_ ∧ bs_ ≤ 6 from ⟨hmb.s1, hmb.s6⟩)
      obtain ⟨la, hla⟩ : ∃ n, (bknobs ks (brkAt bs xa)).length = n := ⟨_, rfl⟩
      obtain ⟨lb, hlb⟩ : ∃ n, (bknobs ks (brkAt bs xb)).length = n := ⟨_, rfl⟩
      rw [hla] at KA hkl
      rw [hlb] at KB hol
      unfold KnobsRes at KA KB
      obtain ⟨RA0, hRA⟩ : ∃ r, (bknobs ks (brkAt bs xa)).map Knb.cs = r := ⟨_, rfl⟩
      obtain ⟨RB0, hRB⟩ : ∃ r, (bknobs ks (brkAt bs xb)).map Knb.cs = r := ⟨_, rfl⟩
      have HWA := Lib.hid (show ∀ r ∈ RA0, r.length = 5 from hRA ▸ knbs_wide _)
      have HWB := Lib.hid (show ∀ r ∈ RB0, r.length = 5 from hRB ▸ knbs_wide _)
      rw [hRA] at KA HPA
      rw [hRB] at KB HPB
      obtain ⟨bg, boff, rfl⟩ := bricks_addr HB.out (by rw [Hnb.out]; omega)
      have HBC := Lib.hid (fun (j : Nat) (hj : j < nb) => bricks_cell HB.out (k := j) (by rw [Hnb.out]; exact hj) rfl)
      obtain ⟨v, hv⟩ : ∃ v, (getK m ((xa : Int), (xb : Int))).getD 0 = v := ⟨_, rfl⟩
      rw [hv] at hsn
      have hvb : 0 ≤ v ∧ v ≤ 500000 := by
        have h1 := SU.at_ ((xa : Int), (xb : Int))
        have h2 := sumL_le (L.take q) ((xa : Int), (xb : Int))
        have h3 : (L.take q).length ≤ n := by rw [List.length_take, Hn.out]; omega
        omega
      have Hv := Lib.hid hv
      have Hsn := Lib.hid hsn
      obtain ⟨W8, hW8, E8, B8, -⟩ := mk_ wr #[.int .i64 xa, .int .i64 xb, .int .i64 xk, .int .i64 xo, .int .u8 xs] 37
      obtain ⟨X, hX⟩ : ∃ X, wr.heap.size = X := ⟨_, rfl⟩
      rw [hX] at B8
      have HX := Lib.hid hX
      have E58 := Er.trans E8
      have M8 := MA.ext E8
      have q0 : (0 : Int) ≤ q := by omega
      have q1 : (q : Int) < n := by omega
      have q2 : (q : Int) < lc := by omega
      have a0 : (0 : Int) ≤ xa := by omega
      have a1 : (xa : Int) < nb := by omega
      have a2 : ¬ (xa : Int) < 0 := by omega
      have b0 : (0 : Int) ≤ xb := by omega
      have b1 : (xb : Int) < nb := by omega
      have b2 : ¬ xb ≤ xa := by omega
      have b3 : ¬ nb ≤ xb := by omega
      have k0 : (0 : Int) ≤ xk := by omega
      have k1 : (xk : Int) < la := by omega
      have k2 : ¬ (xk : Int) < 0 := by omega
      have k3 : ¬ la ≤ xk := by omega
      have o0 : (0 : Int) ≤ xo := by omega
      have o1 : (xo : Int) < lb := by omega
      have o2 : ¬ (xo : Int) < 0 := by omega
      have o3 : ¬ lb ≤ xo := by omega
      have heq := pt_neq
      have Hpr := Lib.hid hprev
      have bm := (BM.ext E58).cell
      clear hget hil htk hba hmt hma hmb hka hkb hla hlb hRA hRB hv hsn hX hx SU MA E8 hprev hab hbl hkl hol
      by_cases hq0 : q = 0
      · have q3 : ¬ (0 : Int) < (q : Int) := by omega
        have q4 : decide (0 < q) = false := by simp; omega
        clear hq0
        as_aux_lemma =>
        go_upto_region 12 with (fail)
        rw [HX.out]
        clear hW8 c0 c1 c2 c3 c4
        have bx1 := B8.cell
        refine wp_region_grow (by kernel_rfl) (by kernel_rfl) ?_
        repeat (go_big_quiet_step ((go_at_call 10; exact quiet_ext (HLS.out _))))
        refine wpQuiet_nil ?_
        intro W9 hW9
        have E9 : Ext W8 W9 := by
          obtain ⟨x, rfl⟩ := hW9
          exact (Ext.refl _).grow x
        clear hW9
        obtain ⟨hcW9, hfW9, hzW9⟩ := ext_facts E9
        clear hcW9 hfW9 hzW9 bx1 bm
        skip
        have bx1 := (B8.ext E9).cell
        have bm := (BM.ext (E58.trans E9)).cell
        have E09 := Lib.hid (HE.out.trans (E58.trans E9))
        obtain ⟨u0, u1, u2, u3, u4, u5⟩ := HBC.out xa (by omega)
        replace u0 := E09.out.cell u0
        replace u1 := E09.out.cell u1
        replace u2 := E09.out.cell u2
        replace u3 := E09.out.cell u3
        replace u4 := E09.out.cell u4
        replace u5 := E09.out.cell u5
        go_wp2_with fail
        refine (KA.out _ E09.out).mono ?_
        rintro e W10 ⟨PG, ca, hPG, rfl, hca1, hca2, RA, E10⟩
        clear u0 u1 u2 u3 u4 u5 bx1 bm
        have bx1 := ((B8.ext E9).ext E10).cell
        have bm := (BM.ext ((E58.trans E9).trans E10)).cell
        have E010 := Lib.hid (E09.out.trans E10)
        obtain ⟨u0, u1, u2, u3, u4, u5⟩ := HBC.out xb (by omega)
        replace u0 := E010.out.cell u0
        replace u1 := E010.out.cell u1
        replace u2 := E010.out.cell u2
        replace u3 := E010.out.cell u3
        replace u4 := E010.out.cell u4
        replace u5 := E010.out.cell u5
        go_wp2_with fail
        refine (KB.out _ E010.out).mono ?_
        rintro e W11 ⟨PH, cb2, hPH, rfl, hcb1, hcb2, RB, E11⟩
        clear u0 u1 u2 u3 u4 u5 bx1 bm
        have BX := ((B8.ext E9).ext E10).ext E11
        have E511 := Lib.hid (((E58.trans E9).trans E10).trans E11)
        have M11 := ((M8.ext E9).ext E10).ext E11
        replace RA := RA.ext E11
        have bx1 := BX.cell
        have HRA := Lib.hid RA
        have HRB := Lib.hid RB
        have BX0 := Lib.hid BX
        have HM11 := Lib.hid M11
        clear E09 E010 E9 E10 E11 hPG hPH RA RB BX M11
        go_upto_region 18 with (fail)
        clear bx1
        refine wp_region_byF (Tc18 W11 X PG PH la ca lb cb2 xk xo #[.int .i64 ax, .int .i64 ay, .int .i64 az, .int .u8 ad, .int .u8 as_] #[.int .i64 bx, .int .i64 by_, .int .i64 bz, .int .u8 bd, .int .u8 bs_]) (by intro us; simp only [putAll, Act.put, List.setIfInBounds_toArray, List.set_cons_succ, List.set_cons_zero, Nat.reduceAdd]; rfl) (by kernel_rfl) (by kernel_rfl) (by kernel_rfl) ⟨(Ext.refl _).drew, (nofun), (nofun), (nofun), (nofun), (nofun), (nofun), (nofun), (nofun), (nofun), (nofun), (nofun), (nofun), (nofun), (nofun), (nofun), (nofun), (nofun), (nofun), (nofun)⟩ ⟨?_, ?_, ?_, ?_, ?_, ?_, ?_, ?_, ?_, ?_, ?_, ?_, ?_, ?_, trivial⟩ ?_
        · intro L us wx K a ha hp hd hun hI hK
          have HX := hI.x
          clear hp HX
          replace hd := Lib.hid hd
          subst ha
          simp only [Act.put, List.setIfInBounds_toArray, List.set_cons_succ, List.set_cons_zero] at hK
          go_simp
          refine hK _ _ ?_
          first
          | (refine ⟨hI.x, hI.g3, hI.g4, hI.g5, hI.g6, hI.g7, ?_, hI.f1, hI.f2, hI.f3, hI.f4, hI.f5, hI.f6, hI.f7, hI.f8, hI.f9, hI.f10, hI.f11, hI.f12, hI.f13⟩ <;> (first | exact fun _ => rfl | skip))
          | (refine ⟨?_, ?_, ?_, ?_, ?_, ?_, ?_, ?_, ?_, ?_, ?_, ?_, ?_, ?_, ?_, ?_, ?_, ?_, ?_, ?_⟩ <;> (first | exact hI.x | exact hI.g3 | exact hI.g4 | exact hI.g5 | exact hI.g6 | exact hI.g7 | exact hI.f0 | exact hI.f1 | exact hI.f2 | exact hI.f3 | exact hI.f4 | exact hI.f5 | exact hI.f6 | exact hI.f7 | exact hI.f8 | exact hI.f9 | exact hI.f10 | exact hI.f11 | exact hI.f12 | exact hI.f13 | exact fun _ => rfl | skip))
        · intro L us wx K a ha hp hd hun hI hK
          have HX := hI.x
          clear hp HX
          replace hd := Lib.hid hd
          subst ha
          simp only [Act.put, List.setIfInBounds_toArray, List.set_cons_succ, List.set_cons_zero] at hK
          go_simp
          refine hK _ _ ?_
          first
          | (refine ⟨hI.x, hI.g3, hI.g4, hI.g5, hI.g6, hI.g7, hI.f0, ?_, hI.f2, hI.f3, hI.f4, hI.f5, hI.f6, hI.f7, hI.f8, hI.f9, hI.f10, hI.f11, hI.f12, hI.f13⟩ <;> (first | exact fun _ => rfl | skip))
          | (refine ⟨?_, ?_, ?_, ?_, ?_, ?_, ?_, ?_, ?_, ?_, ?_, ?_, ?_, ?_, ?_, ?_, ?_, ?_, ?_, ?_⟩ <;> (first | exact hI.x | exact hI.g3 | exact hI.g4 | exact hI.g5 | exact hI.g6 | exact hI.g7 | exact hI.f0 | exact hI.f1 | exact hI.f2 | exact hI.f3 | exact hI.f4 | exact hI.f5 | exact hI.f6 | exact hI.f7 | exact hI.f8 | exact hI.f9 | exact hI.f10 | exact hI.f11 | exact hI.f12 | exact hI.f13 | exact fun _ => rfl | skip))
        · intro L us wx K a ha hp hd hun hI hK
          have HX := hI.x
          have u1 := hI.f1 (hp 1 (by kernel_rfl))
          have bb := (BX0.out.ext HX).cell
          clear hp HX
          replace hd := Lib.hid hd
          simp only [u1] at ha
          subst ha
          simp only [Act.put, List.setIfInBounds_toArray, List.set_cons_succ, List.set_cons_zero] at hK
          go_simp
          refine hK _ _ ?_
          first
          | (refine ⟨hI.x, hI.g3, hI.g4, hI.g5, hI.g6, hI.g7, hI.f0, hI.f1, ?_, hI.f3, hI.f4, hI.f5, hI.f6, hI.f7, hI.f8, hI.f9, hI.f10, hI.f11, hI.f12, hI.f13⟩ <;> (first | exact fun _ => rfl | skip))
          | (refine ⟨?_, ?_, ?_, ?_, ?_, ?_, ?_, ?_, ?_, ?_, ?_, ?_, ?_, ?_, ?_, ?_, ?_, ?_, ?_, ?_⟩ <;> (first | exact hI.x | exact hI.g3 | exact hI.g4 | exact hI.g5 | exact hI.g6 | exact hI.g7 | exact hI.f0 | exact hI.f1 | exact hI.f2 | exact hI.f3 | exact hI.f4 | exact hI.f5 | exact hI.f6 | exact hI.f7 | exact hI.f8 | exact hI.f9 | exact hI.f10 | exact hI.f11 | exact hI.f12 | exact hI.f13 | exact fun _ => rfl | skip))
        · intro L us wx K a ha hp hd hun hI hK
          have HX := hI.x
          have u0 := hI.f0 (hp 0 (by kernel_rfl))
          have u2 := hI.f2 (hp 2 (by kernel_rfl))
          clear hp HX
          replace hd := Lib.hid hd
          simp only [u0, u2] at ha
          subst ha
          simp only [Act.put, List.setIfInBounds_toArray, List.set_cons_succ, List.set_cons_zero] at hK
          go_simp
          refine hK _ _ ?_
          first
          | (refine ⟨hI.x, hI.g3, hI.g4, hI.g5, hI.g6, hI.g7, hI.f0, hI.f1, hI.f2, ?_, hI.f4, hI.f5, hI.f6, hI.f7, hI.f8, hI.f9, hI.f10, hI.f11, hI.f12, hI.f13⟩ <;> (first | exact fun _ => rfl | skip))
          | (refine ⟨?_, ?_, ?_, ?_, ?_, ?_, ?_, ?_, ?_, ?_, ?_, ?_, ?_, ?_, ?_, ?_, ?_, ?_, ?_, ?_⟩ <;> (first | exact hI.x | exact hI.g3 | exact hI.g4 | exact hI.g5 | exact hI.g6 | exact hI.g7 | exact hI.f0 | exact hI.f1 | exact hI.f2 | exact hI.f3 | exact hI.f4 | exact hI.f5 | exact hI.f6 | exact hI.f7 | exact hI.f8 | exact hI.f9 | exact hI.f10 | exact hI.f11 | exact hI.f12 | exact hI.f13 | exact fun _ => rfl | skip))
        · intro L us wx K a ha hp hd hun hI hK
          have HX := hI.x
          have u3 := hI.f3 (hp 3 (by kernel_rfl))
          have cc0 := (HRA.out.ext HX).cell HWA.out (j := 0) HPA.out rfl
          have cc1 := (HRA.out.ext HX).cell HWA.out (j := 1) HPA.out rfl
          have cc2 := (HRA.out.ext HX).cell HWA.out (j := 2) HPA.out rfl
          have cc3 := (HRA.out.ext HX).cell HWA.out (j := 3) HPA.out rfl
          have cc4 := (HRA.out.ext HX).cell HWA.out (j := 4) HPA.out rfl
          simp only [Nat.add_zero] at cc0
          clear hp HX
          replace hd := Lib.hid hd
          simp only [u3] at ha
          subst ha
          simp only [Act.put, List.setIfInBounds_toArray, List.set_cons_succ, List.set_cons_zero] at hK
          go_simp
          refine hK _ _ ?_
          first
          | (refine ⟨hI.x, hI.g3, hI.g4, hI.g5, hI.g6, hI.g7, hI.f0, hI.f1, hI.f2, hI.f3, ?_, hI.f5, hI.f6, hI.f7, hI.f8, hI.f9, hI.f10, hI.f11, hI.f12, hI.f13⟩ <;> (first | exact fun _ => rfl | skip))
          | (refine ⟨?_, ?_, ?_, ?_, ?_, ?_, ?_, ?_, ?_, ?_, ?_, ?_, ?_, ?_, ?_, ?_, ?_, ?_, ?_, ?_⟩ <;> (first | exact hI.x | exact hI.g3 | exact hI.g4 | exact hI.g5 | exact hI.g6 | exact hI.g7 | exact hI.f0 | exact hI.f1 | exact hI.f2 | exact hI.f3 | exact hI.f4 | exact hI.f5 | exact hI.f6 | exact hI.f7 | exact hI.f8 | exact hI.f9 | exact hI.f10 | exact hI.f11 | exact hI.f12 | exact hI.f13 | exact fun _ => rfl | skip))
        · intro L us wx K a ha hp hd hun hI hK
          have HX := hI.x
          clear hp HX
          replace hd := Lib.hid hd
          subst ha
          simp only [Act.put, List.setIfInBounds_toArray, List.set_cons_succ, List.set_cons_zero] at hK
          go_simp
          refine hK _ _ ?_
          first
          | (refine ⟨hI.x, hI.g3, hI.g4, hI.g5, hI.g6, hI.g7, hI.f0, hI.f1, hI.f2, hI.f3, hI.f4, ?_, hI.f6, hI.f7, hI.f8, hI.f9, hI.f10, hI.f11, hI.f12, hI.f13⟩ <;> (first | exact fun _ => rfl | skip))
          | (refine ⟨?_, ?_, ?_, ?_, ?_, ?_, ?_, ?_, ?_, ?_, ?_, ?_, ?_, ?_, ?_, ?_, ?_, ?_, ?_, ?_⟩ <;> (first | exact hI.x | exact hI.g3 | exact hI.g4 | exact hI.g5 | exact hI.g6 | exact hI.g7 | exact hI.f0 | exact hI.f1 | exact hI.f2 | exact hI.f3 | exact hI.f4 | exact hI.f5 | exact hI.f6 | exact hI.f7 | exact hI.f8 | exact hI.f9 | exact hI.f10 | exact hI.f11 | exact hI.f12 | exact hI.f13 | exact fun _ => rfl | skip))
        · intro L us wx K a ha hp hd hun hI hK
          have HX := hI.x
          clear hp HX
          replace hd := Lib.hid hd
          subst ha
          simp only [Act.put, List.setIfInBounds_toArray, List.set_cons_succ, List.set_cons_zero] at hK
          go_simp
          refine hK _ _ ?_
          first
          | (refine ⟨hI.x, hI.g3, hI.g4, hI.g5, hI.g6, hI.g7, hI.f0, hI.f1, hI.f2, hI.f3, hI.f4, hI.f5, ?_, hI.f7, hI.f8, hI.f9, hI.f10, hI.f11, hI.f12, hI.f13⟩ <;> (first | exact fun _ => rfl | skip))
          | (refine ⟨?_, ?_, ?_, ?_, ?_, ?_, ?_, ?_, ?_, ?_, ?_, ?_, ?_, ?_, ?_, ?_, ?_, ?_, ?_, ?_⟩ <;> (first | exact hI.x | exact hI.g3 | exact hI.g4 | exact hI.g5 | exact hI.g6 | exact hI.g7 | exact hI.f0 | exact hI.f1 | exact hI.f2 | exact hI.f3 | exact hI.f4 | exact hI.f5 | exact hI.f6 | exact hI.f7 | exact hI.f8 | exact hI.f9 | exact hI.f10 | exact hI.f11 | exact hI.f12 | exact hI.f13 | exact fun _ => rfl | skip))
        · intro L us wx K a ha hp hd hun hI hK
          have HX := hI.x
          have u6 := hI.f6 (hp 6 (by kernel_rfl))
          have bb := (BX0.out.ext HX).cell
          clear hp HX
          replace hd := Lib.hid hd
          simp only [u6] at ha
          subst ha
          simp only [Act.put, List.setIfInBounds_toArray, List.set_cons_succ, List.set_cons_zero] at hK
          go_simp
          refine hK _ _ ?_
          first
          | (refine ⟨hI.x, hI.g3, hI.g4, hI.g5, hI.g6, hI.g7, hI.f0, hI.f1, hI.f2, hI.f3, hI.f4, hI.f5, hI.f6, ?_, hI.f8, hI.f9, hI.f10, hI.f11, hI.f12, hI.f13⟩ <;> (first | exact fun _ => rfl | skip))
          | (refine ⟨?_, ?_, ?_, ?_, ?_, ?_, ?_, ?_, ?_, ?_, ?_, ?_, ?_, ?_, ?_, ?_, ?_, ?_, ?_, ?_⟩ <;> (first | exact hI.x | exact hI.g3 | exact hI.g4 | exact hI.g5 | exact hI.g6 | exact hI.g7 | exact hI.f0 | exact hI.f1 | exact hI.f2 | exact hI.f3 | exact hI.f4 | exact hI.f5 | exact hI.f6 | exact hI.f7 | exact hI.f8 | exact hI.f9 | exact hI.f10 | exact hI.f11 | exact hI.f12 | exact hI.f13 | exact fun _ => rfl | skip))
        · intro L us wx K a ha hp hd hun hI hK
          have HX := hI.x
          have u5 := hI.f5 (hp 5 (by kernel_rfl))
          have u7 := hI.f7 (hp 7 (by kernel_rfl))
          clear hp HX
          replace hd := Lib.hid hd
          simp only [u5, u7] at ha
          subst ha
          simp only [Act.put, List.setIfInBounds_toArray, List.set_cons_succ, List.set_cons_zero] at hK
          go_simp
          refine hK _ _ ?_
          first
          | (refine ⟨hI.x, hI.g3, hI.g4, hI.g5, hI.g6, hI.g7, hI.f0, hI.f1, hI.f2, hI.f3, hI.f4, hI.f5, hI.f6, hI.f7, ?_, hI.f9, hI.f10, hI.f11, hI.f12, hI.f13⟩ <;> (first | exact fun _ => rfl | skip))
          | (refine ⟨?_, ?_, ?_, ?_, ?_, ?_, ?_, ?_, ?_, ?_, ?_, ?_, ?_, ?_, ?_, ?_, ?_, ?_, ?_, ?_⟩ <;> (first | exact hI.x | exact hI.g3 | exact hI.g4 | exact hI.g5 | exact hI.g6 | exact hI.g7 | exact hI.f0 | exact hI.f1 | exact hI.f2 | exact hI.f3 | exact hI.f4 | exact hI.f5 | exact hI.f6 | exact hI.f7 | exact hI.f8 | exact hI.f9 | exact hI.f10 | exact hI.f11 | exact hI.f12 | exact hI.f13 | exact fun _ => rfl | skip))
        · intro L us wx K a ha hp hd hun hI hK
          have HX := hI.x
          have u8 := hI.f8 (hp 8 (by kernel_rfl))
          have cc0 := (HRB.out.ext HX).cell HWB.out (j := 0) HPB.out rfl
          have cc1 := (HRB.out.ext HX).cell HWB.out (j := 1) HPB.out rfl
          have cc2 := (HRB.out.ext HX).cell HWB.out (j := 2) HPB.out rfl
          have cc3 := (HRB.out.ext HX).cell HWB.out (j := 3) HPB.out rfl
          have cc4 := (HRB.out.ext HX).cell HWB.out (j := 4) HPB.out rfl
          simp only [Nat.add_zero] at cc0
          clear hp HX
          replace hd := Lib.hid hd
          simp only [u8] at ha
          subst ha
          simp only [Act.put, List.setIfInBounds_toArray, List.set_cons_succ, List.set_cons_zero] at hK
          go_simp
          refine hK _ _ ?_
          first
          | (refine ⟨hI.x, hI.g3, hI.g4, hI.g5, hI.g6, hI.g7, hI.f0, hI.f1, hI.f2, hI.f3, hI.f4, hI.f5, hI.f6, hI.f7, hI.f8, ?_, hI.f10, hI.f11, hI.f12, hI.f13⟩ <;> (first | exact fun _ => rfl | skip))
          | (refine ⟨?_, ?_, ?_, ?_, ?_, ?_, ?_, ?_, ?_, ?_, ?_, ?_, ?_, ?_, ?_, ?_, ?_, ?_, ?_, ?_⟩ <;> (first | exact hI.x | exact hI.g3 | exact hI.g4 | exact hI.g5 | exact hI.g6 | exact hI.g7 | exact hI.f0 | exact hI.f1 | exact hI.f2 | exact hI.f3 | exact hI.f4 | exact hI.f5 | exact hI.f6 | exact hI.f7 | exact hI.f8 | exact hI.f9 | exact hI.f10 | exact hI.f11 | exact hI.f12 | exact hI.f13 | exact fun _ => rfl | skip))
        · intro L' us wx K a ha hp hd hun hI hK
          have h12 : L' 12 = false := Bool.eq_false_iff.2 fun hl => absurd (hd 12 10 hl (by kernel_rfl)) (by rw [hun]; decide)
          have far' : ∀ o, L' 11 = true → W11.heap.size ≤ bk (us 11) ∧ bk (us 11) < (wx.alloc o).heap.size := fun o h => ⟨(hI.g4 h).1, by have := (hI.g4 h).2; simp; omega⟩
          have ne' : L' 11 = true → wx.heap.size ≠ bk (us 11) := fun h e => by have := (hI.g4 h).2; omega
          replace hd := Lib.hid hd
          subst ha
          simp only [Act.put, List.setIfInBounds_toArray, List.set_cons_succ, List.set_cons_zero] at hK
          go_simp
          refine hK _ _ ⟨hI.x.alloc _, (fun _ => ⟨hI.x.size, by show wx.heap.size < (wx.alloc _).heap.size; simp⟩), (fun h => far' _ h), (fun _ _ => Blk.new _ _ _), (fun h h' => (hI.g6 h h').alloc _), (fun _ h => ne' h), hI.f0, hI.f1, hI.f2, hI.f3, hI.f4, hI.f5, hI.f6, hI.f7, hI.f8, hI.f9, (fun _ => rfl), hI.f11, (fun h => absurd (show L' 12 = true from h) (by rw [h12]; decide)), (fun h => (hI.f13 h).alloc _)⟩
        · intro L' us wx K a ha hp hd hun hI hK
          have h13 : L' 13 = false := Bool.eq_false_iff.2 fun hl => absurd (hd 13 11 hl (by kernel_rfl)) (by rw [hun]; decide)
          have far' : ∀ o, L' 10 = true → W11.heap.size ≤ bk (us 10) ∧ bk (us 10) < (wx.alloc o).heap.size := fun o h => ⟨(hI.g3 h).1, by have := (hI.g3 h).2; simp; omega⟩
          have ne' : L' 10 = true → bk (us 10) ≠ wx.heap.size := fun h e => by have := (hI.g3 h).2; omega
          replace hd := Lib.hid hd
          subst ha
          simp only [Act.put, List.setIfInBounds_toArray, List.set_cons_succ, List.set_cons_zero] at hK
          go_simp
          refine hK _ _ ⟨hI.x.alloc _, (fun h => far' _ h), (fun _ => ⟨hI.x.size, by show wx.heap.size < (wx.alloc _).heap.size; simp⟩), (fun h h' => (hI.g5 h h').alloc _), (fun _ _ => Blk.new _ _ _), (fun h _ => ne' h), hI.f0, hI.f1, hI.f2, hI.f3, hI.f4, hI.f5, hI.f6, hI.f7, hI.f8, hI.f9, hI.f10, (fun _ => rfl), (fun h => (hI.f12 h).alloc _), (fun h => absurd (show L' 13 = true from h) (by rw [h13]; decide))⟩
        · intro L' us wx K a ha hp hd hun hI hK
          have u10 := hI.f10 (hp 10 (by kernel_rfl))
          have u4 := hI.f4 (hp 4 (by kernel_rfl))
          have hb := hI.g5 (hp 10 (by kernel_rfl)) hun
          have hg := hI.g3 (hp 10 (by kernel_rfl))
          have hn7 := hI.g7 (hp 10 (by kernel_rfl))
          have k13 := hI.f13
          have k6 := hI.g6
          have k3' := hI.g3
          have k4' := hI.g4
          obtain ⟨gs, hgs⟩ : ∃ gs, bk (us 10) = gs := ⟨_, rfl⟩
          rw [hgs] at u10 hb hg hn7
          have cb := hb.cell
          have fb := hb.frozen
          obtain ⟨V, hV, BV, EV, hVz⟩ := five_put hb hI.x hg.1 (.int .i64 ax) (.int .i64 ay) (.int .i64 az) (.int .u8 ad) (.int .u8 as_)
          have far : ∀ {k t cs}, Blk wx k t cs → k ≠ gs → Blk V k t cs := fun {k t cs} h hne => hV ▸ five_far h hne _ _ _ _ _
          have BV' : Blk V (bk (us 10)) 47 #[.int .i64 ax, .int .i64 ay, .int .i64 az, .int .u8 ad, .int .u8 as_] := by rw [hgs]; exact BV
          have f4' : L' 11 = true → W11.heap.size ≤ bk (us 11) ∧ bk (us 11) < V.heap.size := by rw [hVz]; exact k4'
          have f3' : L' 10 = true → W11.heap.size ≤ bk (us 10) ∧ bk (us 10) < V.heap.size := by rw [hVz]; exact k3'
          have f6' : L' 11 = true → L' 13 = false → Blk V (bk (us 11)) 47 kz5 := fun h h' => far (k6 h h') (fun e => hn7 h e.symm)
          have hp11 : L' 13 = true → L' 11 = true := fun h => hd 13 11 h (by kernel_rfl)
          have f13' : L' 13 = true → Blk V (bk (us 11)) 47 #[.int .i64 bx, .int .i64 by_, .int .i64 bz, .int .u8 bd, .int .u8 bs_] := fun h => far (k13 h) (fun e => hn7 (hp11 h) e.symm)
          clear BV far hVz hb hn7 k13 k6 k3' k4' hg
          replace hgs := Lib.hid hgs
          replace hd := Lib.hid hd
          simp only [u10, u4] at ha
          subst ha
          simp only [Act.put] at hK
          go_simp
          exact hK undef _ ⟨EV, f3', f4', (fun _ h => nomatch (show true = false from h)), f6', hI.g7, hI.f0, hI.f1, hI.f2, hI.f3, hI.f4, hI.f5, hI.f6, hI.f7, hI.f8, hI.f9, hI.f10, hI.f11, (fun _ => BV'), f13'⟩
        · intro L' us wx K a ha hp hd hun hI hK
          have u11 := hI.f11 (hp 11 (by kernel_rfl))
          have u9 := hI.f9 (hp 9 (by kernel_rfl))
          have hb := hI.g6 (hp 11 (by kernel_rfl)) hun
          have hg := hI.g4 (hp 11 (by kernel_rfl))
          have hn7 : L' 10 = true → bk (us 10) ≠ bk (us 11) := fun h => hI.g7 h (hp 11 (by kernel_rfl))
          have k12 := hI.f12
          have k5 := hI.g5
          have k3' := hI.g3
          have k4' := hI.g4
          obtain ⟨gs, hgs⟩ : ∃ gs, bk (us 11) = gs := ⟨_, rfl⟩
          rw [hgs] at u11 hb hg hn7
          have cb := hb.cell
          have fb := hb.frozen
          obtain ⟨V, hV, BV, EV, hVz⟩ := five_put hb hI.x hg.1 (.int .i64 bx) (.int .i64 by_) (.int .i64 bz) (.int .u8 bd) (.int .u8 bs_)
          have far : ∀ {k t cs}, Blk wx k t cs → k ≠ gs → Blk V k t cs := fun {k t cs} h hne => hV ▸ five_far h hne _ _ _ _ _
          have BV' : Blk V (bk (us 11)) 47 #[.int .i64 bx, .int .i64 by_, .int .i64 bz, .int .u8 bd, .int .u8 bs_] := by rw [hgs]; exact BV
          have f4' : L' 11 = true → W11.heap.size ≤ bk (us 11) ∧ bk (us 11) < V.heap.size := by rw [hVz]; exact k4'
          have f3' : L' 10 = true → W11.heap.size ≤ bk (us 10) ∧ bk (us 10) < V.heap.size := by rw [hVz]; exact k3'
          have f5' : L' 10 = true → L' 12 = false → Blk V (bk (us 10)) 47 kz5 := fun h h' => far (k5 h h') (hn7 h)
          have hp10 : L' 12 = true → L' 10 = true := fun h => hd 12 10 h (by kernel_rfl)
          have f12' : L' 12 = true → Blk V (bk (us 10)) 47 #[.int .i64 ax, .int .i64 ay, .int .i64 az, .int .u8 ad, .int .u8 as_] := fun h => far (k12 h) (hn7 (hp10 h))
          clear BV far hVz hb hn7 k12 k5 k3' k4' hg
          replace hgs := Lib.hid hgs
          replace hd := Lib.hid hd
          simp only [u11, u9] at ha
          subst ha
          simp only [Act.put] at hK
          go_simp
          exact hK undef _ ⟨EV, f3', f4', f5', (fun _ h => nomatch (show true = false from h)), hI.g7, hI.f0, hI.f1, hI.f2, hI.f3, hI.f4, hI.f5, hI.f6, hI.f7, hI.f8, hI.f9, hI.f10, hI.f11, f12', (fun _ => BV')⟩
        intro L' us wx hall hI
        have e10 := hI.f10 (hall 10 (by simp))
        have e11 := hI.f11 (hall 11 (by simp))
        have BT1 := hI.f12 (hall 12 (by simp))
        have BT2 := hI.f13 (hall 13 (by simp))
        have EX := hI.x
        obtain ⟨T1, hT1⟩ : ∃ T, bk (us 10) = T := ⟨_, rfl⟩
        obtain ⟨T2, hT2⟩ : ∃ T, bk (us 11) = T := ⟨_, rfl⟩
        rw [hT1] at e10 BT1
        rw [hT2] at e11 BT2
        simp only [e10, e11]
        have E5x := Lib.hid (E511.out.trans EX)
        have BXx := Lib.hid (BX0.out.ext EX)
        have Mx := Lib.hid (HM11.out.ext EX)
        clear hall hI e10 e11 hT1 hT2 EX
        have t1 := BT1.cell
        have t2 := BT2.cell
        have bx1 := BXx.out.cell
        obtain ⟨si, s, hsi, hsi3, hs0, hs5, hss, hsg⟩ : ∃ (si : Nat) (s : Int), xs / 2 = si ∧ si < 3 ∧ 0 ≤ s ∧ s ≤ 5 ∧ strongS xs = s ∧ (#[.int .i64 2, .int .i64 3, .int .i64 5] : Array Value)[si]? = some (.int .i64 s) := by
          rcases hs3 with rfl | rfl | rfl
          · exact ⟨0, 2, rfl, by omega, by omega, by omega, rfl, rfl⟩
          · exact ⟨1, 3, rfl, by omega, by omega, by omega, rfl, rfl⟩
          · exact ⟨2, 5, rfl, by omega, by omega, by omega, rfl, rfl⟩
        have hx2 : xs % 2 = 1 := by omega
        have hx3 : xs.tmod 2 = 1 := by rcases hs3 with rfl | rfl | rfl <;> rfl
        have hx4 : xs.tdiv 2 = si := by rw [← hsi]; rcases hs3 with rfl | rfl | rfl <;> rfl
        have hx5 : 1 ≤ xs := by omega
        have hx6 : xs ≤ 5 := by omega
        have hsj : (si : Int) < 3 := by omega
        have hsk : (0 : Int) ≤ si := by omega
        have Hsg := Lib.hid hsg
        have Hwsi := Lib.hid (show IntKind.u8.wrap (si : Int) = si by have : si = 0 ∨ si = 1 ∨ si = 2 := by omega
                                                                      rcases this with rfl | rfl | rfl <;> rfl)
        have Hsn2 := Lib.hid (show Sums (putK m ((xa : Int), (xb : Int)) (v + s)) (L.take (q + 1)) by have := Hsn.out; rwa [hss] at this)
        clear hs3 hss hsg
        as_aux_lemma =>
        go_upto_region 19 with (fail)
        refine wp_region_grow (by kernel_rfl) (by kernel_rfl) ?_
        repeat (go_big_quiet_step ((first | (go_at_call 13; exact quiet_ext (rstep_c _ (by assumption) _)) | (go_at_call 12; exact quiet_ext (lPlus_c _ _ _ _ _ _ _ (by assumption) (stepS_ok _))))))
        refine wpQuiet_nil ?_
        intro W14 hW14
        have E14 : Ext wx W14 := by
          obtain ⟨x, rfl⟩ := hW14
          exact (Ext.refl _).grow x
        clear hW14
        obtain ⟨hcW14, hfW14, hzW14⟩ := ext_facts E14
        clear hcW14 hfW14 hzW14 t1 t2 bx1
        have BX14 := Lib.hid (BXx.out.ext E14)
        have M14 := Mx.out.ext E14
        have E514 := Lib.hid (E5x.out.trans E14)
        go_upto_region 21 with (fail)
        have Hw := Lib.hid (show IntKind.i64.wrap (v + s) = v + s from IntWalk.i64_in _ (by omega))
        refine wp_region_byF (Tc21 W5 M X xa xb xk xo xs si v s m) (by intro us; simp only [putAll, Act.put, List.setIfInBounds_toArray, List.set_cons_succ, List.set_cons_zero, Nat.reduceAdd]; rfl) (by kernel_rfl) (by kernel_rfl) (by kernel_rfl) ⟨E514.out.drew, BX14.out.drew, (fun _ => M14.ext (Ext.refl _).drew), (nofun), (nofun), (nofun), (nofun), (nofun), (nofun), (nofun), (nofun), (nofun), (nofun), (nofun), (nofun), (nofun), (nofun), (nofun), (nofun), (nofun), (nofun), (nofun)⟩ ⟨?_, ?_, ?_, ?_, ?_, ?_, ?_, ?_, ?_, ?_, ?_, ?_, ?_, ?_, ?_, ?_, ?_, trivial⟩ ?_
        all_goals clear M14
        · intro L us wx K a ha hp hd hun hI hK
          have HX := hI.x
          clear hp HX
          replace hd := Lib.hid hd
          subst ha
          simp only [Act.put, List.setIfInBounds_toArray, List.set_cons_succ, List.set_cons_zero] at hK
          go_simp
          refine hK _ _ ?_
          first
          | (refine ⟨hI.x, hI.g0, hI.g1, hI.g2, hI.g3, hI.g4, hI.g5, ?_, hI.f1, hI.f2, hI.f3, hI.f4, hI.f5, hI.f6, hI.f7, hI.f8, hI.f9, hI.f10, hI.f11, hI.f12, hI.f13, hI.f15⟩ <;> (first | exact fun _ => rfl | skip))
          | (refine ⟨?_, ?_, ?_, ?_, ?_, ?_, ?_, ?_, ?_, ?_, ?_, ?_, ?_, ?_, ?_, ?_, ?_, ?_, ?_, ?_, ?_, ?_⟩ <;> (first | exact hI.x | exact hI.g0 | exact hI.g1 | exact hI.g2 | exact hI.g3 | exact hI.g4 | exact hI.g5 | exact hI.f0 | exact hI.f1 | exact hI.f2 | exact hI.f3 | exact hI.f4 | exact hI.f5 | exact hI.f6 | exact hI.f7 | exact hI.f8 | exact hI.f9 | exact hI.f10 | exact hI.f11 | exact hI.f12 | exact hI.f13 | exact hI.f15 | exact fun _ => rfl | skip))
        · intro L us wx K a ha hp hd hun hI hK
          have HX := hI.x
          clear hp HX
          replace hd := Lib.hid hd
          subst ha
          simp only [Act.put, List.setIfInBounds_toArray, List.set_cons_succ, List.set_cons_zero] at hK
          go_simp
          refine hK _ _ ?_
          first
          | (refine ⟨hI.x, hI.g0, hI.g1, hI.g2, hI.g3, hI.g4, hI.g5, hI.f0, ?_, hI.f2, hI.f3, hI.f4, hI.f5, hI.f6, hI.f7, hI.f8, hI.f9, hI.f10, hI.f11, hI.f12, hI.f13, hI.f15⟩ <;> (first | exact fun _ => rfl | skip))
          | (refine ⟨?_, ?_, ?_, ?_, ?_, ?_, ?_, ?_, ?_, ?_, ?_, ?_, ?_, ?_, ?_, ?_, ?_, ?_, ?_, ?_, ?_, ?_⟩ <;> (first | exact hI.x | exact hI.g0 | exact hI.g1 | exact hI.g2 | exact hI.g3 | exact hI.g4 | exact hI.g5 | exact hI.f0 | exact hI.f1 | exact hI.f2 | exact hI.f3 | exact hI.f4 | exact hI.f5 | exact hI.f6 | exact hI.f7 | exact hI.f8 | exact hI.f9 | exact hI.f10 | exact hI.f11 | exact hI.f12 | exact hI.f13 | exact hI.f15 | exact fun _ => rfl | skip))
        · intro L us wx K a ha hp hd hun hI hK
          have HX := hI.x
          have u1 := hI.f1 (hp 1 (by kernel_rfl))
          have bb := hI.g0.cell
          clear hp HX
          replace hd := Lib.hid hd
          simp only [u1] at ha
          subst ha
          simp only [Act.put, List.setIfInBounds_toArray, List.set_cons_succ, List.set_cons_zero] at hK
          go_simp
          refine hK _ _ ?_
          first
          | (refine ⟨hI.x, hI.g0, hI.g1, hI.g2, hI.g3, hI.g4, hI.g5, hI.f0, hI.f1, ?_, hI.f3, hI.f4, hI.f5, hI.f6, hI.f7, hI.f8, hI.f9, hI.f10, hI.f11, hI.f12, hI.f13, hI.f15⟩ <;> (first | exact fun _ => rfl | skip))
          | (refine ⟨?_, ?_, ?_, ?_, ?_, ?_, ?_, ?_, ?_, ?_, ?_, ?_, ?_, ?_, ?_, ?_, ?_, ?_, ?_, ?_, ?_, ?_⟩ <;> (first | exact hI.x | exact hI.g0 | exact hI.g1 | exact hI.g2 | exact hI.g3 | exact hI.g4 | exact hI.g5 | exact hI.f0 | exact hI.f1 | exact hI.f2 | exact hI.f3 | exact hI.f4 | exact hI.f5 | exact hI.f6 | exact hI.f7 | exact hI.f8 | exact hI.f9 | exact hI.f10 | exact hI.f11 | exact hI.f12 | exact hI.f13 | exact hI.f15 | exact fun _ => rfl | skip))
        · intro L us wx K a ha hp hd hun hI hK
          have HX := hI.x
          clear hp HX
          replace hd := Lib.hid hd
          subst ha
          simp only [Act.put, List.setIfInBounds_toArray, List.set_cons_succ, List.set_cons_zero] at hK
          go_simp
          refine hK _ _ ?_
          first
          | (refine ⟨hI.x, hI.g0, hI.g1, hI.g2, hI.g3, hI.g4, hI.g5, hI.f0, hI.f1, hI.f2, ?_, hI.f4, hI.f5, hI.f6, hI.f7, hI.f8, hI.f9, hI.f10, hI.f11, hI.f12, hI.f13, hI.f15⟩ <;> (first | exact fun _ => rfl | skip))
          | (refine ⟨?_, ?_, ?_, ?_, ?_, ?_, ?_, ?_, ?_, ?_, ?_, ?_, ?_, ?_, ?_, ?_, ?_, ?_, ?_, ?_, ?_, ?_⟩ <;> (first | exact hI.x | exact hI.g0 | exact hI.g1 | exact hI.g2 | exact hI.g3 | exact hI.g4 | exact hI.g5 | exact hI.f0 | exact hI.f1 | exact hI.f2 | exact hI.f3 | exact hI.f4 | exact hI.f5 | exact hI.f6 | exact hI.f7 | exact hI.f8 | exact hI.f9 | exact hI.f10 | exact hI.f11 | exact hI.f12 | exact hI.f13 | exact hI.f15 | exact fun _ => rfl | skip))
        · intro L us wx K a ha hp hd hun hI hK
          have HX := hI.x
          have u3 := hI.f3 (hp 3 (by kernel_rfl))
          have bb := hI.g0.cell
          clear hp HX
          replace hd := Lib.hid hd
          simp only [u3] at ha
          subst ha
          simp only [Act.put, List.setIfInBounds_toArray, List.set_cons_succ, List.set_cons_zero] at hK
          go_simp
          refine hK _ _ ?_
          first
          | (refine ⟨hI.x, hI.g0, hI.g1, hI.g2, hI.g3, hI.g4, hI.g5, hI.f0, hI.f1, hI.f2, hI.f3, ?_, hI.f5, hI.f6, hI.f7, hI.f8, hI.f9, hI.f10, hI.f11, hI.f12, hI.f13, hI.f15⟩ <;> (first | exact fun _ => rfl | skip))
          | (refine ⟨?_, ?_, ?_, ?_, ?_, ?_, ?_, ?_, ?_, ?_, ?_, ?_, ?_, ?_, ?_, ?_, ?_, ?_, ?_, ?_, ?_, ?_⟩ <;> (first | exact hI.x | exact hI.g0 | exact hI.g1 | exact hI.g2 | exact hI.g3 | exact hI.g4 | exact hI.g5 | exact hI.f0 | exact hI.f1 | exact hI.f2 | exact hI.f3 | exact hI.f4 | exact hI.f5 | exact hI.f6 | exact hI.f7 | exact hI.f8 | exact hI.f9 | exact hI.f10 | exact hI.f11 | exact hI.f12 | exact hI.f13 | exact hI.f15 | exact fun _ => rfl | skip))
        · intro L us wx K a ha hp hd hun hI hK
          have HX := hI.x
          have u2 := hI.f2 (hp 2 (by kernel_rfl))
          have u4 := hI.f4 (hp 4 (by kernel_rfl))
          clear hp HX
          replace hd := Lib.hid hd
          simp only [u2, u4] at ha
          subst ha
          simp only [Act.put, List.setIfInBounds_toArray, List.set_cons_succ, List.set_cons_zero] at hK
          go_simp
          refine hK _ _ ?_
          first
          | (refine ⟨hI.x, hI.g0, hI.g1, hI.g2, hI.g3, hI.g4, hI.g5, hI.f0, hI.f1, hI.f2, hI.f3, hI.f4, ?_, hI.f6, hI.f7, hI.f8, hI.f9, hI.f10, hI.f11, hI.f12, hI.f13, hI.f15⟩ <;> (first | exact fun _ => rfl | skip))
          | (refine ⟨?_, ?_, ?_, ?_, ?_, ?_, ?_, ?_, ?_, ?_, ?_, ?_, ?_, ?_, ?_, ?_, ?_, ?_, ?_, ?_, ?_, ?_⟩ <;> (first | exact hI.x | exact hI.g0 | exact hI.g1 | exact hI.g2 | exact hI.g3 | exact hI.g4 | exact hI.g5 | exact hI.f0 | exact hI.f1 | exact hI.f2 | exact hI.f3 | exact hI.f4 | exact hI.f5 | exact hI.f6 | exact hI.f7 | exact hI.f8 | exact hI.f9 | exact hI.f10 | exact hI.f11 | exact hI.f12 | exact hI.f13 | exact hI.f15 | exact fun _ => rfl | skip))
        · intro L us wx K a ha hp hd hun hI hK
          have HX := hI.x
          have u0 := hI.f0 (hp 0 (by kernel_rfl))
          have u5 := hI.f5 (hp 5 (by kernel_rfl))
          have h16 : L 16 = false := Bool.eq_false_iff.2 fun hl => absurd (hd 13 6 (hd 16 13 hl (by kernel_rfl)) (by kernel_rfl)) (by rw [hun]; decide)
          have lk : (Instr.lookup 35 (.map (some M)) (.agg #[.int .i64 xa, .int .i64 xb]) false).run Tryz.prog wx = .ok (.int .i64 v) wx := by
            cases h14 : L 14
            · have := look_pr (hI.g1 h14) xa xb
              rwa [Hv.out] at this
            · have := look_pr (hI.g3 h14 h16).asMap xa xb
              rwa [got_put] at this
          clear hp HX
          replace hd := Lib.hid hd
          simp only [u0, u5] at ha
          subst ha
          simp only [Act.put, List.setIfInBounds_toArray, List.set_cons_succ, List.set_cons_zero] at hK
          go_simp
          refine hK _ _ ?_
          first
          | (refine ⟨hI.x, hI.g0, hI.g1, hI.g2, hI.g3, hI.g4, hI.g5, hI.f0, hI.f1, hI.f2, hI.f3, hI.f4, hI.f5, ?_, hI.f7, hI.f8, hI.f9, hI.f10, hI.f11, hI.f12, hI.f13, hI.f15⟩ <;> (first | exact fun _ => rfl | skip))
          | (refine ⟨?_, ?_, ?_, ?_, ?_, ?_, ?_, ?_, ?_, ?_, ?_, ?_, ?_, ?_, ?_, ?_, ?_, ?_, ?_, ?_, ?_, ?_⟩ <;> (first | exact hI.x | exact hI.g0 | exact hI.g1 | exact hI.g2 | exact hI.g3 | exact hI.g4 | exact hI.g5 | exact hI.f0 | exact hI.f1 | exact hI.f2 | exact hI.f3 | exact hI.f4 | exact hI.f5 | exact hI.f6 | exact hI.f7 | exact hI.f8 | exact hI.f9 | exact hI.f10 | exact hI.f11 | exact hI.f12 | exact hI.f13 | exact hI.f15 | exact fun _ => rfl | skip))
        · intro L' us wx K a ha hp hd hun hI hK
          have h11 : L' 11 = false := Bool.eq_false_iff.2 fun hl => absurd (hd 11 7 hl (by kernel_rfl)) (by rw [hun]; decide)
          replace hd := Lib.hid hd
          subst ha
          simp only [Act.put, List.setIfInBounds_toArray, List.set_cons_succ, List.set_cons_zero] at hK
          go_simp
          refine hK _ _ ⟨hI.x.alloc _, hI.g0.alloc _, (fun h => (hI.g1 h).ext ((Ext.refl _).alloc _)), hI.g2, (fun h h' => (hI.g3 h h').ext ((Ext.refl _).alloc _)), (fun h => (hI.g4 h).ext ((Ext.refl _).alloc _)), (fun _ => Blk.new _ _ _), hI.f0, hI.f1, hI.f2, hI.f3, hI.f4, hI.f5, hI.f6, (fun _ => rfl), hI.f8, hI.f9, hI.f10, (fun h => absurd (show L' 11 = true from h) (by rw [h11]; decide)), hI.f12, hI.f13, hI.f15⟩
        · intro L us wx K a ha hp hd hun hI hK
          have HX := hI.x
          clear hp HX
          replace hd := Lib.hid hd
          subst ha
          simp only [Act.put, List.setIfInBounds_toArray, List.set_cons_succ, List.set_cons_zero] at hK
          go_simp
          refine hK _ _ ?_
          first
          | (refine ⟨hI.x, hI.g0, hI.g1, hI.g2, hI.g3, hI.g4, hI.g5, hI.f0, hI.f1, hI.f2, hI.f3, hI.f4, hI.f5, hI.f6, hI.f7, ?_, hI.f9, hI.f10, hI.f11, hI.f12, hI.f13, hI.f15⟩ <;> (first | exact fun _ => rfl | skip))
          | (refine ⟨?_, ?_, ?_, ?_, ?_, ?_, ?_, ?_, ?_, ?_, ?_, ?_, ?_, ?_, ?_, ?_, ?_, ?_, ?_, ?_, ?_, ?_⟩ <;> (first | exact hI.x | exact hI.g0 | exact hI.g1 | exact hI.g2 | exact hI.g3 | exact hI.g4 | exact hI.g5 | exact hI.f0 | exact hI.f1 | exact hI.f2 | exact hI.f3 | exact hI.f4 | exact hI.f5 | exact hI.f6 | exact hI.f7 | exact hI.f8 | exact hI.f9 | exact hI.f10 | exact hI.f11 | exact hI.f12 | exact hI.f13 | exact hI.f15 | exact fun _ => rfl | skip))
        · intro L us wx K a ha hp hd hun hI hK
          have HX := hI.x
          have u8 := hI.f8 (hp 8 (by kernel_rfl))
          have bb := hI.g0.cell
          clear hp HX
          replace hd := Lib.hid hd
          simp only [u8] at ha
          subst ha
          simp only [Act.put, List.setIfInBounds_toArray, List.set_cons_succ, List.set_cons_zero] at hK
          go_simp
          refine hK _ _ ?_
          first
          | (refine ⟨hI.x, hI.g0, hI.g1, hI.g2, hI.g3, hI.g4, hI.g5, hI.f0, hI.f1, hI.f2, hI.f3, hI.f4, hI.f5, hI.f6, hI.f7, hI.f8, ?_, hI.f10, hI.f11, hI.f12, hI.f13, hI.f15⟩ <;> (first | exact fun _ => rfl | skip))
          | (refine ⟨?_, ?_, ?_, ?_, ?_, ?_, ?_, ?_, ?_, ?_, ?_, ?_, ?_, ?_, ?_, ?_, ?_, ?_, ?_, ?_, ?_, ?_⟩ <;> (first | exact hI.x | exact hI.g0 | exact hI.g1 | exact hI.g2 | exact hI.g3 | exact hI.g4 | exact hI.g5 | exact hI.f0 | exact hI.f1 | exact hI.f2 | exact hI.f3 | exact hI.f4 | exact hI.f5 | exact hI.f6 | exact hI.f7 | exact hI.f8 | exact hI.f9 | exact hI.f10 | exact hI.f11 | exact hI.f12 | exact hI.f13 | exact hI.f15 | exact fun _ => rfl | skip))
        · intro L us wx K a ha hp hd hun hI hK
          have HX := hI.x
          have u9 := hI.f9 (hp 9 (by kernel_rfl))
          clear hp HX
          replace hd := Lib.hid hd
          simp only [u9] at ha
          subst ha
          simp only [Act.put, List.setIfInBounds_toArray, List.set_cons_succ, List.set_cons_zero] at hK
          go_simp
          refine hK _ _ ?_
          first
          | (refine ⟨hI.x, hI.g0, hI.g1, hI.g2, hI.g3, hI.g4, hI.g5, hI.f0, hI.f1, hI.f2, hI.f3, hI.f4, hI.f5, hI.f6, hI.f7, hI.f8, hI.f9, ?_, hI.f11, hI.f12, hI.f13, hI.f15⟩ <;> (first | exact fun _ => rfl | skip))
          | (refine ⟨?_, ?_, ?_, ?_, ?_, ?_, ?_, ?_, ?_, ?_, ?_, ?_, ?_, ?_, ?_, ?_, ?_, ?_, ?_, ?_, ?_, ?_⟩ <;> (first | exact hI.x | exact hI.g0 | exact hI.g1 | exact hI.g2 | exact hI.g3 | exact hI.g4 | exact hI.g5 | exact hI.f0 | exact hI.f1 | exact hI.f2 | exact hI.f3 | exact hI.f4 | exact hI.f5 | exact hI.f6 | exact hI.f7 | exact hI.f8 | exact hI.f9 | exact hI.f10 | exact hI.f11 | exact hI.f12 | exact hI.f13 | exact hI.f15 | exact fun _ => rfl | skip))
          exact fun _ => congrArg (Value.int .u8) Hwsi.out
        · intro L' us wx K a ha hp hd hun hI hK
          have u7 := hI.f7 (hp 7 (by kernel_rfl))
          have u10 := hI.f10 (hp 10 (by kernel_rfl))
          obtain ⟨g7, hg7⟩ : ∃ g, bk (us 7) = g := ⟨_, rfl⟩
          rw [hg7] at u7
          have HG7 := Lib.hid hg7
          clear hg7
          replace hd := Lib.hid hd
          dsimp only at ha
          rw [u7, u10] at ha
          subst ha
          simp only [Act.put, List.setIfInBounds_toArray, List.set_cons_succ, List.set_cons_zero] at hK
          go_simp
          exact hK _ _ ⟨hI.x, hI.g0, hI.g1, hI.g2, hI.g3, hI.g4, hI.g5, hI.f0, hI.f1, hI.f2, hI.f3, hI.f4, hI.f5, hI.f6, hI.f7, hI.f8, hI.f9, hI.f10, (fun _ => by show Value.pointer _ = Value.pointer (some ⟨bk (us 7), si, none⟩); rw [HG7.out]), hI.f12, hI.f13, hI.f15⟩
        · intro L' us wx K a ha hp hd hun hI hK
          have u11 := hI.f11 (hp 11 (by kernel_rfl))
          have bb := (hI.g5 (hd 11 7 (hp 11 (by kernel_rfl)) (by kernel_rfl))).cell si
          rw [Hsg.out] at bb
          obtain ⟨g7, hg7⟩ : ∃ g, bk (us 7) = g := ⟨_, rfl⟩
          rw [hg7] at u11 bb
          clear hg7
          replace hd := Lib.hid hd
          dsimp only at ha
          rw [u11] at ha
          subst ha
          simp only [Act.put, List.setIfInBounds_toArray, List.set_cons_succ, List.set_cons_zero] at hK
          go_simp
          exact hK _ _ ⟨hI.x, hI.g0, hI.g1, hI.g2, hI.g3, hI.g4, hI.g5, hI.f0, hI.f1, hI.f2, hI.f3, hI.f4, hI.f5, hI.f6, hI.f7, hI.f8, hI.f9, hI.f10, hI.f11, (fun _ => rfl), hI.f13, hI.f15⟩
        · intro L us wx K a ha hp hd hun hI hK
          have HX := hI.x
          have u6 := hI.f6 (hp 6 (by kernel_rfl))
          have u12 := hI.f12 (hp 12 (by kernel_rfl))
          clear hp HX
          replace hd := Lib.hid hd
          simp only [u6, u12] at ha
          subst ha
          simp only [Act.put, List.setIfInBounds_toArray, List.set_cons_succ, List.set_cons_zero] at hK
          go_simp
          refine hK _ _ ?_
          first
          | (refine ⟨hI.x, hI.g0, hI.g1, hI.g2, hI.g3, hI.g4, hI.g5, hI.f0, hI.f1, hI.f2, hI.f3, hI.f4, hI.f5, hI.f6, hI.f7, hI.f8, hI.f9, hI.f10, hI.f11, hI.f12, ?_, hI.f15⟩ <;> (first | exact fun _ => rfl | skip))
          | (refine ⟨?_, ?_, ?_, ?_, ?_, ?_, ?_, ?_, ?_, ?_, ?_, ?_, ?_, ?_, ?_, ?_, ?_, ?_, ?_, ?_, ?_, ?_⟩ <;> (first | exact hI.x | exact hI.g0 | exact hI.g1 | exact hI.g2 | exact hI.g3 | exact hI.g4 | exact hI.g5 | exact hI.f0 | exact hI.f1 | exact hI.f2 | exact hI.f3 | exact hI.f4 | exact hI.f5 | exact hI.f6 | exact hI.f7 | exact hI.f8 | exact hI.f9 | exact hI.f10 | exact hI.f11 | exact hI.f12 | exact hI.f13 | exact hI.f15 | exact fun _ => rfl | skip))
          exact fun _ => congrArg (Value.int .i64) Hw.out
        · intro L' us wx K a ha hp hd hun hI hK
          have u0 := hI.f0 (hp 0 (by kernel_rfl))
          have u5 := hI.f5 (hp 5 (by kernel_rfl))
          have h16 : L' 16 = false := Bool.eq_false_iff.2 fun hl => absurd (hd 16 14 hl (by kernel_rfl)) (by rw [hun]; decide)
          have h15 : L' 15 = false := Bool.eq_false_iff.2 fun hl => absurd (hd 15 14 hl (by kernel_rfl)) (by rw [hun]; decide)
          have hM := hI.g1 hun
          obtain ⟨w', born, hrun, r1, r2, r3⟩ := entry_run prKey Tryz.underlying35 (z := (0 : Int)) (w := wx) (by kernel_rfl) hM ((xa : Int), (xb : Int))
          rw [Hv.out] at hrun r1
          have hrun' : (Instr.mapEntry 35 (.map (some M)) (.agg #[.int .i64 xa, .int .i64 xb])).run Tryz.prog wx = .ok (.tuple #[.int .i64 v, .int .i64 (born : Nat)]) w' := hrun
          clear hrun
          replace hd := Lib.hid hd
          simp only [u0, u5] at ha
          subst ha
          simp only [Act.put, List.setIfInBounds_toArray, List.set_cons_succ, List.set_cons_zero] at hK
          go_simp
          exact hK _ _ ⟨hI.x.grown r2 (fun r hr => by cases hr; exact HM.out), hI.g0.grown r2 (fun e => hM.blk_ne hI.g0 (by cases e; rfl)), (fun h => nomatch (show true = false from h)), (fun _ => rfl), (fun _ _ => r1), (fun h => absurd (show L' 16 = true from h) (by rw [h16]; decide)), (fun h => (hI.g5 h).grown r2 (fun e => hM.blk_ne (hI.g5 h) (by cases e; rfl))), hI.f0, hI.f1, hI.f2, hI.f3, hI.f4, hI.f5, hI.f6, hI.f7, hI.f8, hI.f9, hI.f10, hI.f11, hI.f12, hI.f13, (fun h => absurd (show L' 15 = true from h) (by rw [h15]; decide))⟩
        · intro L' us wx K a ha hp hd hun hI hK
          have u14 := hI.g2 (hp 14 (by kernel_rfl))
          obtain ⟨born, hb14⟩ : ∃ b, bornOf (us 14) = b := ⟨_, rfl⟩
          rw [hb14] at u14
          replace hd := Lib.hid hd
          dsimp only at ha
          rw [u14] at ha
          subst ha
          clear u14
          simp only [Act.put, List.setIfInBounds_toArray, List.set_cons_succ, List.set_cons_zero] at hK
          go_simp
          exact hK _ _ ⟨hI.x, hI.g0, hI.g1, hI.g2, hI.g3, hI.g4, hI.g5, hI.f0, hI.f1, hI.f2, hI.f3, hI.f4, hI.f5, hI.f6, hI.f7, hI.f8, hI.f9, hI.f10, hI.f11, hI.f12, hI.f13, (fun _ => congrArg (fun n : Nat => Value.int .i64 n) hb14.symm)⟩
        · intro L' us wx K a ha hp hd hun hI hK
          have u0 := hI.f0 (hp 0 (by kernel_rfl))
          have u13 := hI.f13 (hp 13 (by kernel_rfl))
          have u15 := hI.f15 (hp 15 (by kernel_rfl))
          have h14 := hp 14 (by kernel_rfl)
          have hM := hI.g3 h14 hun
          obtain ⟨w', hrun, r1, r2, r3⟩ := store_run (P := Tryz.prog) hM 35 (v + s)
          rw [putK_put] at r1
          have hrun' : (Instr.entryStore 35 (.map (some M)) (.int .i64 (bornOf (us 14) : Nat)) (.int .i64 (v + s))).run Tryz.prog wx = .ok () w' := hrun
          clear hrun
          replace hd := Lib.hid hd
          simp only [u0, u13, u15] at ha
          subst ha
          simp only [Act.put] at hK
          go_simp
          exact hK undef _ ⟨hI.x.grown r2 (fun r hr => by cases hr; exact HM.out), hI.g0.grown r2 (fun e => hM.asMap.blk_ne hI.g0 (by cases e; rfl)), (fun h => absurd (show L' 14 = false from h) (by rw [h14]; decide)), hI.g2, (fun _ h => nomatch (show true = false from h)), (fun _ => r1), (fun h => (hI.g5 h).grown r2 (fun e => hM.asMap.blk_ne (hI.g5 h) (by cases e; rfl))), hI.f0, hI.f1, hI.f2, hI.f3, hI.f4, hI.f5, hI.f6, hI.f7, hI.f8, hI.f9, hI.f10, hI.f11, hI.f12, hI.f13, hI.f15⟩
        intro L' us wy hall hI
        have Mn := hI.g4 (hall 16 (by simp))
        have En := hI.x
        clear hall hI
        go_wp2_with fail
        go_roundw
        case rel => exact ⟨q + 1, _, by omega, by go_num, En, Mn, Hsn2.out⟩
        case measure => simp only [intOf]; omega
      · have q3 : (0 : Int) < (q : Int) := by omega
        have q4 : decide (0 < q) = true := by simp; omega
        have q5 : decide ((0 : Int) < (q : Int)) = true := by simp; omega
        have ht : ((q : Int) - 1).toNat = q - 1 := by omega
        have hk1 : (1 : Int) ≤ q := by omega
        have q6 : (q : Int) - 1 < n := by omega
        have q7 : (0 : Int) ≤ (q : Int) - 1 := by omega
        obtain ⟨d0, d1, d2, d3, d4⟩ := links_cell (HLL.out.ext E58) (k := q - 1) (by rw [Hn.out]; omega) rfl
        have hpl := Hpr.out (by omega)
        obtain ⟨⟨ya, yb, yk, yo, ys⟩, hy⟩ : ∃ y, lnkAt L (q - 1) = y := ⟨_, rfl⟩
        rw [hy] at d0 d1 d2 d3 d4 hpl
        rw [ltK_iff] at hpl
        simp only at d0 d1 d2 d3 d4 hpl
        have HLS := Lib.hid (fun W => lLess_c ya yb yk yo ys xa xb xk xo xs W (by omega))
        clear hq0 hpl hy
        as_aux_lemma =>
        go_upto_region 12 with (fail)
        rw [HX.out]
        clear hW8 c0 c1 c2 c3 c4
        have bx1 := B8.cell
        refine wp_region_grow (by kernel_rfl) (by kernel_rfl) ?_
        repeat (go_big_quiet_step ((go_at_call 10; exact quiet_ext (HLS.out _))))
        refine wpQuiet_nil ?_
        intro W9 hW9
        have E9 : Ext W8 W9 := by
          obtain ⟨x, rfl⟩ := hW9
          exact (Ext.refl _).grow x
        clear hW9
        obtain ⟨hcW9, hfW9, hzW9⟩ := ext_facts E9
        clear hcW9 hfW9 hzW9 bx1 bm
        clear d0 d1 d2 d3 d4
        have bx1 := (B8.ext E9).cell
        have bm := (BM.ext (E58.trans E9)).cell
        have E09 := Lib.hid (HE.out.trans (E58.trans E9))
        obtain ⟨u0, u1, u2, u3, u4, u5⟩ := HBC.out xa (by omega)
        replace u0 := E09.out.cell u0
        replace u1 := E09.out.cell u1
        replace u2 := E09.out.cell u2
        replace u3 := E09.out.cell u3
        replace u4 := E09.out.cell u4
        replace u5 := E09.out.cell u5
        go_wp2_with fail
        refine (KA.out _ E09.out).mono ?_
        rintro e W10 ⟨PG, ca, hPG, rfl, hca1, hca2, RA, E10⟩
        clear u0 u1 u2 u3 u4 u5 bx1 bm
        have bx1 := ((B8.ext E9).ext E10).cell
        have bm := (BM.ext ((E58.trans E9).trans E10)).cell
        have E010 := Lib.hid (E09.out.trans E10)
        obtain ⟨u0, u1, u2, u3, u4, u5⟩ := HBC.out xb (by omega)
        replace u0 := E010.out.cell u0
        replace u1 := E010.out.cell u1
        replace u2 := E010.out.cell u2
        replace u3 := E010.out.cell u3
        replace u4 := E010.out.cell u4
        replace u5 := E010.out.cell u5
        go_wp2_with fail
        refine (KB.out _ E010.out).mono ?_
        rintro e W11 ⟨PH, cb2, hPH, rfl, hcb1, hcb2, RB, E11⟩
        clear u0 u1 u2 u3 u4 u5 bx1 bm
        have BX := ((B8.ext E9).ext E10).ext E11
        have E511 := Lib.hid (((E58.trans E9).trans E10).trans E11)
        have M11 := ((M8.ext E9).ext E10).ext E11
        replace RA := RA.ext E11
        have bx1 := BX.cell
        have HRA := Lib.hid RA
        have HRB := Lib.hid RB
        have BX0 := Lib.hid BX
        have HM11 := Lib.hid M11
        clear E09 E010 E9 E10 E11 hPG hPH RA RB BX M11
        go_upto_region 18 with (fail)
        clear bx1
        refine wp_region_byF (Tc18 W11 X PG PH la ca lb cb2 xk xo #[.int .i64 ax, .int .i64 ay, .int .i64 az, .int .u8 ad, .int .u8 as_] #[.int .i64 bx, .int .i64 by_, .int .i64 bz, .int .u8 bd, .int .u8 bs_]) (by intro us; simp only [putAll, Act.put, List.setIfInBounds_toArray, List.set_cons_succ, List.set_cons_zero, Nat.reduceAdd]; rfl) (by kernel_rfl) (by kernel_rfl) (by kernel_rfl) ⟨(Ext.refl _).drew, (nofun), (nofun), (nofun), (nofun), (nofun), (nofun), (nofun), (nofun), (nofun), (nofun), (nofun), (nofun), (nofun), (nofun), (nofun), (nofun), (nofun), (nofun), (nofun)⟩ ⟨?_, ?_, ?_, ?_, ?_, ?_, ?_, ?_, ?_, ?_, ?_, ?_, ?_, ?_, trivial⟩ ?_
        · intro L us wx K a ha hp hd hun hI hK
          have HX := hI.x
          clear hp HX
          replace hd := Lib.hid hd
          subst ha
          simp only [Act.put, List.setIfInBounds_toArray, List.set_cons_succ, List.set_cons_zero] at hK
          go_simp
          refine hK _ _ ?_
          first
          | (refine ⟨hI.x, hI.g3, hI.g4, hI.g5, hI.g6, hI.g7, ?_, hI.f1, hI.f2, hI.f3, hI.f4, hI.f5, hI.f6, hI.f7, hI.f8, hI.f9, hI.f10, hI.f11, hI.f12, hI.f13⟩ <;> (first | exact fun _ => rfl | skip))
          | (refine ⟨?_, ?_, ?_, ?_, ?_, ?_, ?_, ?_, ?_, ?_, ?_, ?_, ?_, ?_, ?_, ?_, ?_, ?_, ?_, ?_⟩ <;> (first | exact hI.x | exact hI.g3 | exact hI.g4 | exact hI.g5 | exact hI.g6 | exact hI.g7 | exact hI.f0 | exact hI.f1 | exact hI.f2 | exact hI.f3 | exact hI.f4 | exact hI.f5 | exact hI.f6 | exact hI.f7 | exact hI.f8 | exact hI.f9 | exact hI.f10 | exact hI.f11 | exact hI.f12 | exact hI.f13 | exact fun _ => rfl | skip))
        · intro L us wx K a ha hp hd hun hI hK
          have HX := hI.x
          clear hp HX
          replace hd := Lib.hid hd
          subst ha
          simp only [Act.put, List.setIfInBounds_toArray, List.set_cons_succ, List.set_cons_zero] at hK
          go_simp
          refine hK _ _ ?_
          first
          | (refine ⟨hI.x, hI.g3, hI.g4, hI.g5, hI.g6, hI.g7, hI.f0, ?_, hI.f2, hI.f3, hI.f4, hI.f5, hI.f6, hI.f7, hI.f8, hI.f9, hI.f10, hI.f11, hI.f12, hI.f13⟩ <;> (first | exact fun _ => rfl | skip))
          | (refine ⟨?_, ?_, ?_, ?_, ?_, ?_, ?_, ?_, ?_, ?_, ?_, ?_, ?_, ?_, ?_, ?_, ?_, ?_, ?_, ?_⟩ <;> (first | exact hI.x | exact hI.g3 | exact hI.g4 | exact hI.g5 | exact hI.g6 | exact hI.g7 | exact hI.f0 | exact hI.f1 | exact hI.f2 | exact hI.f3 | exact hI.f4 | exact hI.f5 | exact hI.f6 | exact hI.f7 | exact hI.f8 | exact hI.f9 | exact hI.f10 | exact hI.f11 | exact hI.f12 | exact hI.f13 | exact fun _ => rfl | skip))
        · intro L us wx K a ha hp hd hun hI hK
          have HX := hI.x
          have u1 := hI.f1 (hp 1 (by kernel_rfl))
          have bb := (BX0.out.ext HX).cell
          clear hp HX
          replace hd := Lib.hid hd
          simp only [u1] at ha
          subst ha
          simp only [Act.put, List.setIfInBounds_toArray, List.set_cons_succ, List.set_cons_zero] at hK
          go_simp
          refine hK _ _ ?_
          first
          | (refine ⟨hI.x, hI.g3, hI.g4, hI.g5, hI.g6, hI.g7, hI.f0, hI.f1, ?_, hI.f3, hI.f4, hI.f5, hI.f6, hI.f7, hI.f8, hI.f9, hI.f10, hI.f11, hI.f12, hI.f13⟩ <;> (first | exact fun _ => rfl | skip))
          | (refine ⟨?_, ?_, ?_, ?_, ?_, ?_, ?_, ?_, ?_, ?_, ?_, ?_, ?_, ?_, ?_, ?_, ?_, ?_, ?_, ?_⟩ <;> (first | exact hI.x | exact hI.g3 | exact hI.g4 | exact hI.g5 | exact hI.g6 | exact hI.g7 | exact hI.f0 | exact hI.f1 | exact hI.f2 | exact hI.f3 | exact hI.f4 | exact hI.f5 | exact hI.f6 | exact hI.f7 | exact hI.f8 | exact hI.f9 | exact hI.f10 | exact hI.f11 | exact hI.f12 | exact hI.f13 | exact fun _ => rfl | skip))
        · intro L us wx K a ha hp hd hun hI hK
          have HX := hI.x
          have u0 := hI.f0 (hp 0 (by kernel_rfl))
          have u2 := hI.f2 (hp 2 (by kernel_rfl))
          clear hp HX
          replace hd := Lib.hid hd
          simp only [u0, u2] at ha
          subst ha
          simp only [Act.put, List.setIfInBounds_toArray, List.set_cons_succ, List.set_cons_zero] at hK
          go_simp
          refine hK _ _ ?_
          first
          | (refine ⟨hI.x, hI.g3, hI.g4, hI.g5, hI.g6, hI.g7, hI.f0, hI.f1, hI.f2, ?_, hI.f4, hI.f5, hI.f6, hI.f7, hI.f8, hI.f9, hI.f10, hI.f11, hI.f12, hI.f13⟩ <;> (first | exact fun _ => rfl | skip))
          | (refine ⟨?_, ?_, ?_, ?_, ?_, ?_, ?_, ?_, ?_, ?_, ?_, ?_, ?_, ?_, ?_, ?_, ?_, ?_, ?_, ?_⟩ <;> (first | exact hI.x | exact hI.g3 | exact hI.g4 | exact hI.g5 | exact hI.g6 | exact hI.g7 | exact hI.f0 | exact hI.f1 | exact hI.f2 | exact hI.f3 | exact hI.f4 | exact hI.f5 | exact hI.f6 | exact hI.f7 | exact hI.f8 | exact hI.f9 | exact hI.f10 | exact hI.f11 | exact hI.f12 | exact hI.f13 | exact fun _ => rfl | skip))
        · intro L us wx K a ha hp hd hun hI hK
          have HX := hI.x
          have u3 := hI.f3 (hp 3 (by kernel_rfl))
          have cc0 := (HRA.out.ext HX).cell HWA.out (j := 0) HPA.out rfl
          have cc1 := (HRA.out.ext HX).cell HWA.out (j := 1) HPA.out rfl
          have cc2 := (HRA.out.ext HX).cell HWA.out (j := 2) HPA.out rfl
          have cc3 := (HRA.out.ext HX).cell HWA.out (j := 3) HPA.out rfl
          have cc4 := (HRA.out.ext HX).cell HWA.out (j := 4) HPA.out rfl
          simp only [Nat.add_zero] at cc0
          clear hp HX
          replace hd := Lib.hid hd
          simp only [u3] at ha
          subst ha
          simp only [Act.put, List.setIfInBounds_toArray, List.set_cons_succ, List.set_cons_zero] at hK
          go_simp
          refine hK _ _ ?_
          first
          | (refine ⟨hI.x, hI.g3, hI.g4, hI.g5, hI.g6, hI.g7, hI.f0, hI.f1, hI.f2, hI.f3, ?_, hI.f5, hI.f6, hI.f7, hI.f8, hI.f9, hI.f10, hI.f11, hI.f12, hI.f13⟩ <;> (first | exact fun _ => rfl | skip))
          | (refine ⟨?_, ?_, ?_, ?_, ?_, ?_, ?_, ?_, ?_, ?_, ?_, ?_, ?_, ?_, ?_, ?_, ?_, ?_, ?_, ?_⟩ <;> (first | exact hI.x | exact hI.g3 | exact hI.g4 | exact hI.g5 | exact hI.g6 | exact hI.g7 | exact hI.f0 | exact hI.f1 | exact hI.f2 | exact hI.f3 | exact hI.f4 | exact hI.f5 | exact hI.f6 | exact hI.f7 | exact hI.f8 | exact hI.f9 | exact hI.f10 | exact hI.f11 | exact hI.f12 | exact hI.f13 | exact fun _ => rfl | skip))
        · intro L us wx K a ha hp hd hun hI hK
          have HX := hI.x
          clear hp HX
          replace hd := Lib.hid hd
          subst ha
          simp only [Act.put, List.setIfInBounds_toArray, List.set_cons_succ, List.set_cons_zero] at hK
          go_simp
          refine hK _ _ ?_
          first
          | (refine ⟨hI.x, hI.g3, hI.g4, hI.g5, hI.g6, hI.g7, hI.f0, hI.f1, hI.f2, hI.f3, hI.f4, ?_, hI.f6, hI.f7, hI.f8, hI.f9, hI.f10, hI.f11, hI.f12, hI.f13⟩ <;> (first | exact fun _ => rfl | skip))
          | (refine ⟨?_, ?_, ?_, ?_, ?_, ?_, ?_, ?_, ?_, ?_, ?_, ?_, ?_, ?_, ?_, ?_, ?_, ?_, ?_, ?_⟩ <;> (first | exact hI.x | exact hI.g3 | exact hI.g4 | exact hI.g5 | exact hI.g6 | exact hI.g7 | exact hI.f0 | exact hI.f1 | exact hI.f2 | exact hI.f3 | exact hI.f4 | exact hI.f5 | exact hI.f6 | exact hI.f7 | exact hI.f8 | exact hI.f9 | exact hI.f10 | exact hI.f11 | exact hI.f12 | exact hI.f13 | exact fun _ => rfl | skip))
        · intro L us wx K a ha hp hd hun hI hK
          have HX := hI.x
          clear hp HX
          replace hd := Lib.hid hd
          subst ha
          simp only [Act.put, List.setIfInBounds_toArray, List.set_cons_succ, List.set_cons_zero] at hK
          go_simp
          refine hK _ _ ?_
          first
          | (refine ⟨hI.x, hI.g3, hI.g4, hI.g5, hI.g6, hI.g7, hI.f0, hI.f1, hI.f2, hI.f3, hI.f4, hI.f5, ?_, hI.f7, hI.f8, hI.f9, hI.f10, hI.f11, hI.f12, hI.f13⟩ <;> (first | exact fun _ => rfl | skip))
          | (refine ⟨?_, ?_, ?_, ?_, ?_, ?_, ?_, ?_, ?_, ?_, ?_, ?_, ?_, ?_, ?_, ?_, ?_, ?_, ?_, ?_⟩ <;> (first | exact hI.x | exact hI.g3 | exact hI.g4 | exact hI.g5 | exact hI.g6 | exact hI.g7 | exact hI.f0 | exact hI.f1 | exact hI.f2 | exact hI.f3 | exact hI.f4 | exact hI.f5 | exact hI.f6 | exact hI.f7 | exact hI.f8 | exact hI.f9 | exact hI.f10 | exact hI.f11 | exact hI.f12 | exact hI.f13 | exact fun _ => rfl | skip))
        · intro L us wx K a ha hp hd hun hI hK
          have HX := hI.x
          have u6 := hI.f6 (hp 6 (by kernel_rfl))
          have bb := (BX0.out.ext HX).cell
          clear hp HX
          replace hd := Lib.hid hd
          simp only [u6] at ha
          subst ha
          simp only [Act.put, List.setIfInBounds_toArray, List.set_cons_succ, List.set_cons_zero] at hK
          go_simp
          refine hK _ _ ?_
          first
          | (refine ⟨hI.x, hI.g3, hI.g4, hI.g5, hI.g6, hI.g7, hI.f0, hI.f1, hI.f2, hI.f3, hI.f4, hI.f5, hI.f6, ?_, hI.f8, hI.f9, hI.f10, hI.f11, hI.f12, hI.f13⟩ <;> (first | exact fun _ => rfl | skip))
          | (refine ⟨?_, ?_, ?_, ?_, ?_, ?_, ?_, ?_, ?_, ?_, ?_, ?_, ?_, ?_, ?_, ?_, ?_, ?_, ?_, ?_⟩ <;> (first | exact hI.x | exact hI.g3 | exact hI.g4 | exact hI.g5 | exact hI.g6 | exact hI.g7 | exact hI.f0 | exact hI.f1 | exact hI.f2 | exact hI.f3 | exact hI.f4 | exact hI.f5 | exact hI.f6 | exact hI.f7 | exact hI.f8 | exact hI.f9 | exact hI.f10 | exact hI.f11 | exact hI.f12 | exact hI.f13 | exact fun _ => rfl | skip))
        · intro L us wx K a ha hp hd hun hI hK
          have HX := hI.x
          have u5 := hI.f5 (hp 5 (by kernel_rfl))
          have u7 := hI.f7 (hp 7 (by kernel_rfl))
          clear hp HX
          replace hd := Lib.hid hd
          simp only [u5, u7] at ha
          subst ha
          simp only [Act.put, List.setIfInBounds_toArray, List.set_cons_succ, List.set_cons_zero] at hK
          go_simp
          refine hK _ _ ?_
          first
          | (refine ⟨hI.x, hI.g3, hI.g4, hI.g5, hI.g6, hI.g7, hI.f0, hI.f1, hI.f2, hI.f3, hI.f4, hI.f5, hI.f6, hI.f7, ?_, hI.f9, hI.f10, hI.f11, hI.f12, hI.f13⟩ <;> (first | exact fun _ => rfl | skip))
          | (refine ⟨?_, ?_, ?_, ?_, ?_, ?_, ?_, ?_, ?_, ?_, ?_, ?_, ?_, ?_, ?_, ?_, ?_, ?_, ?_, ?_⟩ <;> (first | exact hI.x | exact hI.g3 | exact hI.g4 | exact hI.g5 | exact hI.g6 | exact hI.g7 | exact hI.f0 | exact hI.f1 | exact hI.f2 | exact hI.f3 | exact hI.f4 | exact hI.f5 | exact hI.f6 | exact hI.f7 | exact hI.f8 | exact hI.f9 | exact hI.f10 | exact hI.f11 | exact hI.f12 | exact hI.f13 | exact fun _ => rfl | skip))
        · intro L us wx K a ha hp hd hun hI hK
          have HX := hI.x
          have u8 := hI.f8 (hp 8 (by kernel_rfl))
          have cc0 := (HRB.out.ext HX).cell HWB.out (j := 0) HPB.out rfl
          have cc1 := (HRB.out.ext HX).cell HWB.out (j := 1) HPB.out rfl
          have cc2 := (HRB.out.ext HX).cell HWB.out (j := 2) HPB.out rfl
          have cc3 := (HRB.out.ext HX).cell HWB.out (j := 3) HPB.out rfl
          have cc4 := (HRB.out.ext HX).cell HWB.out (j := 4) HPB.out rfl
          simp only [Nat.add_zero] at cc0
          clear hp HX
          replace hd := Lib.hid hd
          simp only [u8] at ha
          subst ha
          simp only [Act.put, List.setIfInBounds_toArray, List.set_cons_succ, List.set_cons_zero] at hK
          go_simp
          refine hK _ _ ?_
          first
          | (refine ⟨hI.x, hI.g3, hI.g4, hI.g5, hI.g6, hI.g7, hI.f0, hI.f1, hI.f2, hI.f3, hI.f4, hI.f5, hI.f6, hI.f7, hI.f8, ?_, hI.f10, hI.f11, hI.f12, hI.f13⟩ <;> (first | exact fun _ => rfl | skip))
          | (refine ⟨?_, ?_, ?_, ?_, ?_, ?_, ?_, ?_, ?_, ?_, ?_, ?_, ?_, ?_, ?_, ?_, ?_, ?_, ?_, ?_⟩ <;> (first | exact hI.x | exact hI.g3 | exact hI.g4 | exact hI.g5 | exact hI.g6 | exact hI.g7 | exact hI.f0 | exact hI.f1 | exact hI.f2 | exact hI.f3 | exact hI.f4 | exact hI.f5 | exact hI.f6 | exact hI.f7 | exact hI.f8 | exact hI.f9 | exact hI.f10 | exact hI.f11 | exact hI.f12 | exact hI.f13 | exact fun _ => rfl | skip))
        · intro L' us wx K a ha hp hd hun hI hK
          have h12 : L' 12 = false := Bool.eq_false_iff.2 fun hl => absurd (hd 12 10 hl (by kernel_rfl)) (by rw [hun]; decide)
          have far' : ∀ o, L' 11 = true → W11.heap.size ≤ bk (us 11) ∧ bk (us 11) < (wx.alloc o).heap.size := fun o h => ⟨(hI.g4 h).1, by have := (hI.g4 h).2; simp; omega⟩
          have ne' : L' 11 = true → wx.heap.size ≠ bk (us 11) := fun h e => by have := (hI.g4 h).2; omega
          replace hd := Lib.hid hd
          subst ha
          simp only [Act.put, List.setIfInBounds_toArray, List.set_cons_succ, List.set_cons_zero] at hK
          go_simp
          refine hK _ _ ⟨hI.x.alloc _, (fun _ => ⟨hI.x.size, by show wx.heap.size < (wx.alloc _).heap.size; simp⟩), (fun h => far' _ h), (fun _ _ => Blk.new _ _ _), (fun h h' => (hI.g6 h h').alloc _), (fun _ h => ne' h), hI.f0, hI.f1, hI.f2, hI.f3, hI.f4, hI.f5, hI.f6, hI.f7, hI.f8, hI.f9, (fun _ => rfl), hI.f11, (fun h => absurd (show L' 12 = true from h) (by rw [h12]; decide)), (fun h => (hI.f13 h).alloc _)⟩
        · intro L' us wx K a ha hp hd hun hI hK
          have h13 : L' 13 = false := Bool.eq_false_iff.2 fun hl => absurd (hd 13 11 hl (by kernel_rfl)) (by rw [hun]; decide)
          have far' : ∀ o, L' 10 = true → W11.heap.size ≤ bk (us 10) ∧ bk (us 10) < (wx.alloc o).heap.size := fun o h => ⟨(hI.g3 h).1, by have := (hI.g3 h).2; simp; omega⟩
          have ne' : L' 10 = true → bk (us 10) ≠ wx.heap.size := fun h e => by have := (hI.g3 h).2; omega
          replace hd := Lib.hid hd
          subst ha
          simp only [Act.put, List.setIfInBounds_toArray, List.set_cons_succ, List.set_cons_zero] at hK
          go_simp
          refine hK _ _ ⟨hI.x.alloc _, (fun h => far' _ h), (fun _ => ⟨hI.x.size, by show wx.heap.size < (wx.alloc _).heap.size; simp⟩), (fun h h' => (hI.g5 h h').alloc _), (fun _ _ => Blk.new _ _ _), (fun h _ => ne' h), hI.f0, hI.f1, hI.f2, hI.f3, hI.f4, hI.f5, hI.f6, hI.f7, hI.f8, hI.f9, hI.f10, (fun _ => rfl), (fun h => (hI.f12 h).alloc _), (fun h => absurd (show L' 13 = true from h) (by rw [h13]; decide))⟩
        · intro L' us wx K a ha hp hd hun hI hK
          have u10 := hI.f10 (hp 10 (by kernel_rfl))
          have u4 := hI.f4 (hp 4 (by kernel_rfl))
          have hb := hI.g5 (hp 10 (by kernel_rfl)) hun
          have hg := hI.g3 (hp 10 (by kernel_rfl))
          have hn7 := hI.g7 (hp 10 (by kernel_rfl))
          have k13 := hI.f13
          have k6 := hI.g6
          have k3' := hI.g3
          have k4' := hI.g4
          obtain ⟨gs, hgs⟩ : ∃ gs, bk (us 10) = gs := ⟨_, rfl⟩
          rw [hgs] at u10 hb hg hn7
          have cb := hb.cell
          have fb := hb.frozen
          obtain ⟨V, hV, BV, EV, hVz⟩ := five_put hb hI.x hg.1 (.int .i64 ax) (.int .i64 ay) (.int .i64 az) (.int .u8 ad) (.int .u8 as_)
          have far : ∀ {k t cs}, Blk wx k t cs → k ≠ gs → Blk V k t cs := fun {k t cs} h hne => hV ▸ five_far h hne _ _ _ _ _
          have BV' : Blk V (bk (us 10)) 47 #[.int .i64 ax, .int .i64 ay, .int .i64 az, .int .u8 ad, .int .u8 as_] := by rw [hgs]; exact BV
          have f4' : L' 11 = true → W11.heap.size ≤ bk (us 11) ∧ bk (us 11) < V.heap.size := by rw [hVz]; exact k4'
          have f3' : L' 10 = true → W11.heap.size ≤ bk (us 10) ∧ bk (us 10) < V.heap.size := by rw [hVz]; exact k3'
          have f6' : L' 11 = true → L' 13 = false → Blk V (bk (us 11)) 47 kz5 := fun h h' => far (k6 h h') (fun e => hn7 h e.symm)
          have hp11 : L' 13 = true → L' 11 = true := fun h => hd 13 11 h (by kernel_rfl)
          have f13' : L' 13 = true → Blk V (bk (us 11)) 47 #[.int .i64 bx, .int .i64 by_, .int .i64 bz, .int .u8 bd, .int .u8 bs_] := fun h => far (k13 h) (fun e => hn7 (hp11 h) e.symm)
          clear BV far hVz hb hn7 k13 k6 k3' k4' hg
          replace hgs := Lib.hid hgs
          replace hd := Lib.hid hd
          simp only [u10, u4] at ha
          subst ha
          simp only [Act.put] at hK
          go_simp
          exact hK undef _ ⟨EV, f3', f4', (fun _ h => nomatch (show true = false from h)), f6', hI.g7, hI.f0, hI.f1, hI.f2, hI.f3, hI.f4, hI.f5, hI.f6, hI.f7, hI.f8, hI.f9, hI.f10, hI.f11, (fun _ => BV'), f13'⟩
        · intro L' us wx K a ha hp hd hun hI hK
          have u11 := hI.f11 (hp 11 (by kernel_rfl))
          have u9 := hI.f9 (hp 9 (by kernel_rfl))
          have hb := hI.g6 (hp 11 (by kernel_rfl)) hun
          have hg := hI.g4 (hp 11 (by kernel_rfl))
          have hn7 : L' 10 = true → bk (us 10) ≠ bk (us 11) := fun h => hI.g7 h (hp 11 (by kernel_rfl))
          have k12 := hI.f12
          have k5 := hI.g5
          have k3' := hI.g3
          have k4' := hI.g4
          obtain ⟨gs, hgs⟩ : ∃ gs, bk (us 11) = gs := ⟨_, rfl⟩
          rw [hgs] at u11 hb hg hn7
          have cb := hb.cell
          have fb := hb.frozen
          obtain ⟨V, hV, BV, EV, hVz⟩ := five_put hb hI.x hg.1 (.int .i64 bx) (.int .i64 by_) (.int .i64 bz) (.int .u8 bd) (.int .u8 bs_)
          have far : ∀ {k t cs}, Blk wx k t cs → k ≠ gs → Blk V k t cs := fun {k t cs} h hne => hV ▸ five_far h hne _ _ _ _ _
          have BV' : Blk V (bk (us 11)) 47 #[.int .i64 bx, .int .i64 by_, .int .i64 bz, .int .u8 bd, .int .u8 bs_] := by rw [hgs]; exact BV
          have f4' : L' 11 = true → W11.heap.size ≤ bk (us 11) ∧ bk (us 11) < V.heap.size := by rw [hVz]; exact k4'
          have f3' : L' 10 = true → W11.heap.size ≤ bk (us 10) ∧ bk (us 10) < V.heap.size := by rw [hVz]; exact k3'
          have f5' : L' 10 = true → L' 12 = false → Blk V (bk (us 10)) 47 kz5 := fun h h' => far (k5 h h') (hn7 h)
          have hp10 : L' 12 = true → L' 10 = true := fun h => hd 12 10 h (by kernel_rfl)
          have f12' : L' 12 = true → Blk V (bk (us 10)) 47 #[.int .i64 ax, .int .i64 ay, .int .i64 az, .int .u8 ad, .int .u8 as_] := fun h => far (k12 h) (hn7 (hp10 h))
          clear BV far hVz hb hn7 k12 k5 k3' k4' hg
          replace hgs := Lib.hid hgs
          replace hd := Lib.hid hd
          simp only [u11, u9] at ha
          subst ha
          simp only [Act.put] at hK
          go_simp
          exact hK undef _ ⟨EV, f3', f4', f5', (fun _ h => nomatch (show true = false from h)), hI.g7, hI.f0, hI.f1, hI.f2, hI.f3, hI.f4, hI.f5, hI.f6, hI.f7, hI.f8, hI.f9, hI.f10, hI.f11, f12', (fun _ => BV')⟩
        intro L' us wx hall hI
        have e10 := hI.f10 (hall 10 (by simp))
        have e11 := hI.f11 (hall 11 (by simp))
        have BT1 := hI.f12 (hall 12 (by simp))
        have BT2 := hI.f13 (hall 13 (by simp))
        have EX := hI.x
        obtain ⟨T1, hT1⟩ : ∃ T, bk (us 10) = T := ⟨_, rfl⟩
        obtain ⟨T2, hT2⟩ : ∃ T, bk (us 11) = T := ⟨_, rfl⟩
        rw [hT1] at e10 BT1
        rw [hT2] at e11 BT2
        simp only [e10, e11]
        have E5x := Lib.hid (E511.out.trans EX)
        have BXx := Lib.hid (BX0.out.ext EX)
        have Mx := Lib.hid (HM11.out.ext EX)
        clear hall hI e10 e11 hT1 hT2 EX
        have t1 := BT1.cell
        have t2 := BT2.cell
        have bx1 := BXx.out.cell
        obtain ⟨si, s, hsi, hsi3, hs0, hs5, hss, hsg⟩ : ∃ (si : Nat) (s : Int), xs / 2 = si ∧ si < 3 ∧ 0 ≤ s ∧ s ≤ 5 ∧ strongS xs = s ∧ (#[.int .i64 2, .int .i64 3, .int .i64 5] : Array Value)[si]? = some (.int .i64 s) := by
          rcases hs3 with rfl | rfl | rfl
          · exact ⟨0, 2, rfl, by omega, by omega, by omega, rfl, rfl⟩
          · exact ⟨1, 3, rfl, by omega, by omega, by omega, rfl, rfl⟩
          · exact ⟨2, 5, rfl, by omega, by omega, by omega, rfl, rfl⟩
        have hx2 : xs % 2 = 1 := by omega
        have hx3 : xs.tmod 2 = 1 := by rcases hs3 with rfl | rfl | rfl <;> rfl
        have hx4 : xs.tdiv 2 = si := by rw [← hsi]; rcases hs3 with rfl | rfl | rfl <;> rfl
        have hx5 : 1 ≤ xs := by omega
        have hx6 : xs ≤ 5 := by omega
        have hsj : (si : Int) < 3 := by omega
        have hsk : (0 : Int) ≤ si := by omega
        have Hsg := Lib.hid hsg
        have Hwsi := Lib.hid (show IntKind.u8.wrap (si : Int) = si by have : si = 0 ∨ si = 1 ∨ si = 2 := by omega
                                                                      rcases this with rfl | rfl | rfl <;> rfl)
        have Hsn2 := Lib.hid (show Sums (putK m ((xa : Int), (xb : Int)) (v + s)) (L.take (q + 1)) by have := Hsn.out; rwa [hss] at this)
        clear hs3 hss hsg
        as_aux_lemma =>
        go_upto_region 19 with (fail)
        refine wp_region_grow (by kernel_rfl) (by kernel_rfl) ?_
        repeat (go_big_quiet_step ((first | (go_at_call 13; exact quiet_ext (rstep_c _ (by assumption) _)) | (go_at_call 12; exact quiet_ext (lPlus_c _ _ _ _ _ _ _ (by assumption) (stepS_ok _))))))
        refine wpQuiet_nil ?_
        intro W14 hW14
        have E14 : Ext wx W14 := by
          obtain ⟨x, rfl⟩ := hW14
          exact (Ext.refl _).grow x
        clear hW14
        obtain ⟨hcW14, hfW14, hzW14⟩ := ext_facts E14
        clear hcW14 hfW14 hzW14 t1 t2 bx1
        have BX14 := Lib.hid (BXx.out.ext E14)
        have M14 := Mx.out.ext E14
        have E514 := Lib.hid (E5x.out.trans E14)
        go_upto_region 21 with (fail)
        have Hw := Lib.hid (show IntKind.i64.wrap (v + s) = v + s from IntWalk.i64_in _ (by omega))
        refine wp_region_byF (Tc21 W5 M X xa xb xk xo xs si v s m) (by intro us; simp only [putAll, Act.put, List.setIfInBounds_toArray, List.set_cons_succ, List.set_cons_zero, Nat.reduceAdd]; rfl) (by kernel_rfl) (by kernel_rfl) (by kernel_rfl) ⟨E514.out.drew, BX14.out.drew, (fun _ => M14.ext (Ext.refl _).drew), (nofun), (nofun), (nofun), (nofun), (nofun), (nofun), (nofun), (nofun), (nofun), (nofun), (nofun), (nofun), (nofun), (nofun), (nofun), (nofun), (nofun), (nofun), (nofun)⟩ ⟨?_, ?_, ?_, ?_, ?_, ?_, ?_, ?_, ?_, ?_, ?_, ?_, ?_, ?_, ?_, ?_, ?_, trivial⟩ ?_
        all_goals clear M14
        · intro L us wx K a ha hp hd hun hI hK
          have HX := hI.x
          clear hp HX
          replace hd := Lib.hid hd
          subst ha
          simp only [Act.put, List.setIfInBounds_toArray, List.set_cons_succ, List.set_cons_zero] at hK
          go_simp
          refine hK _ _ ?_
          first
          | (refine ⟨hI.x, hI.g0, hI.g1, hI.g2, hI.g3, hI.g4, hI.g5, ?_, hI.f1, hI.f2, hI.f3, hI.f4, hI.f5, hI.f6, hI.f7, hI.f8, hI.f9, hI.f10, hI.f11, hI.f12, hI.f13, hI.f15⟩ <;> (first | exact fun _ => rfl | skip))
          | (refine ⟨?_, ?_, ?_, ?_, ?_, ?_, ?_, ?_, ?_, ?_, ?_, ?_, ?_, ?_, ?_, ?_, ?_, ?_, ?_, ?_, ?_, ?_⟩ <;> (first | exact hI.x | exact hI.g0 | exact hI.g1 | exact hI.g2 | exact hI.g3 | exact hI.g4 | exact hI.g5 | exact hI.f0 | exact hI.f1 | exact hI.f2 | exact hI.f3 | exact hI.f4 | exact hI.f5 | exact hI.f6 | exact hI.f7 | exact hI.f8 | exact hI.f9 | exact hI.f10 | exact hI.f11 | exact hI.f12 | exact hI.f13 | exact hI.f15 | exact fun _ => rfl | skip))
        · intro L us wx K a ha hp hd hun hI hK
          have HX := hI.x
          clear hp HX
          replace hd := Lib.hid hd
          subst ha
          simp only [Act.put, List.setIfInBounds_toArray, List.set_cons_succ, List.set_cons_zero] at hK
          go_simp
          refine hK _ _ ?_
          first
          | (refine ⟨hI.x, hI.g0, hI.g1, hI.g2, hI.g3, hI.g4, hI.g5, hI.f0, ?_, hI.f2, hI.f3, hI.f4, hI.f5, hI.f6, hI.f7, hI.f8, hI.f9, hI.f10, hI.f11, hI.f12, hI.f13, hI.f15⟩ <;> (first | exact fun _ => rfl | skip))
          | (refine ⟨?_, ?_, ?_, ?_, ?_, ?_, ?_, ?_, ?_, ?_, ?_, ?_, ?_, ?_, ?_, ?_, ?_, ?_, ?_, ?_, ?_, ?_⟩ <;> (first | exact hI.x | exact hI.g0 | exact hI.g1 | exact hI.g2 | exact hI.g3 | exact hI.g4 | exact hI.g5 | exact hI.f0 | exact hI.f1 | exact hI.f2 | exact hI.f3 | exact hI.f4 | exact hI.f5 | exact hI.f6 | exact hI.f7 | exact hI.f8 | exact hI.f9 | exact hI.f10 | exact hI.f11 | exact hI.f12 | exact hI.f13 | exact hI.f15 | exact fun _ => rfl | skip))
        · intro L us wx K a ha hp hd hun hI hK
          have HX := hI.x
          have u1 := hI.f1 (hp 1 (by kernel_rfl))
          have bb := hI.g0.cell
          clear hp HX
          replace hd := Lib.hid hd
          simp only [u1] at ha
          subst ha
          simp only [Act.put, List.setIfInBounds_toArray, List.set_cons_succ, List.set_cons_zero] at hK
          go_simp
          refine hK _ _ ?_
          first
          | (refine ⟨hI.x, hI.g0, hI.g1, hI.g2, hI.g3, hI.g4, hI.g5, hI.f0, hI.f1, ?_, hI.f3, hI.f4, hI.f5, hI.f6, hI.f7, hI.f8, hI.f9, hI.f10, hI.f11, hI.f12, hI.f13, hI.f15⟩ <;> (first | exact fun _ => rfl | skip))
          | (refine ⟨?_, ?_, ?_, ?_, ?_, ?_, ?_, ?_, ?_, ?_, ?_, ?_, ?_, ?_, ?_, ?_, ?_, ?_, ?_, ?_, ?_, ?_⟩ <;> (first | exact hI.x | exact hI.g0 | exact hI.g1 | exact hI.g2 | exact hI.g3 | exact hI.g4 | exact hI.g5 | exact hI.f0 | exact hI.f1 | exact hI.f2 | exact hI.f3 | exact hI.f4 | exact hI.f5 | exact hI.f6 | exact hI.f7 | exact hI.f8 | exact hI.f9 | exact hI.f10 | exact hI.f11 | exact hI.f12 | exact hI.f13 | exact hI.f15 | exact fun _ => rfl | skip))
        · intro L us wx K a ha hp hd hun hI hK
          have HX := hI.x
          clear hp HX
          replace hd := Lib.hid hd
          subst ha
          simp only [Act.put, List.setIfInBounds_toArray, List.set_cons_succ, List.set_cons_zero] at hK
          go_simp
          refine hK _ _ ?_
          first
          | (refine ⟨hI.x, hI.g0, hI.g1, hI.g2, hI.g3, hI.g4, hI.g5, hI.f0, hI.f1, hI.f2, ?_, hI.f4, hI.f5, hI.f6, hI.f7, hI.f8, hI.f9, hI.f10, hI.f11, hI.f12, hI.f13, hI.f15⟩ <;> (first | exact fun _ => rfl | skip))
          | (refine ⟨?_, ?_, ?_, ?_, ?_, ?_, ?_, ?_, ?_, ?_, ?_, ?_, ?_, ?_, ?_, ?_, ?_, ?_, ?_, ?_, ?_, ?_⟩ <;> (first | exact hI.x | exact hI.g0 | exact hI.g1 | exact hI.g2 | exact hI.g3 | exact hI.g4 | exact hI.g5 | exact hI.f0 | exact hI.f1 | exact hI.f2 | exact hI.f3 | exact hI.f4 | exact hI.f5 | exact hI.f6 | exact hI.f7 | exact hI.f8 | exact hI.f9 | exact hI.f10 | exact hI.f11 | exact hI.f12 | exact hI.f13 | exact hI.f15 | exact fun _ => rfl | skip))
        · intro L us wx K a ha hp hd hun hI hK
          have HX := hI.x
          have u3 := hI.f3 (hp 3 (by kernel_rfl))
          have bb := hI.g0.cell
          clear hp HX
          replace hd := Lib.hid hd
          simp only [u3] at ha
          subst ha
          simp only [Act.put, List.setIfInBounds_toArray, List.set_cons_succ, List.set_cons_zero] at hK
          go_simp
          refine hK _ _ ?_
          first
          | (refine ⟨hI.x, hI.g0, hI.g1, hI.g2, hI.g3, hI.g4, hI.g5, hI.f0, hI.f1, hI.f2, hI.f3, ?_, hI.f5, hI.f6, hI.f7, hI.f8, hI.f9, hI.f10, hI.f11, hI.f12, hI.f13, hI.f15⟩ <;> (first | exact fun _ => rfl | skip))
          | (refine ⟨?_, ?_, ?_, ?_, ?_, ?_, ?_, ?_, ?_, ?_, ?_, ?_, ?_, ?_, ?_, ?_, ?_, ?_, ?_, ?_, ?_, ?_⟩ <;> (first | exact hI.x | exact hI.g0 | exact hI.g1 | exact hI.g2 | exact hI.g3 | exact hI.g4 | exact hI.g5 | exact hI.f0 | exact hI.f1 | exact hI.f2 | exact hI.f3 | exact hI.f4 | exact hI.f5 | exact hI.f6 | exact hI.f7 | exact hI.f8 | exact hI.f9 | exact hI.f10 | exact hI.f11 | exact hI.f12 | exact hI.f13 | exact hI.f15 | exact fun _ => rfl | skip))
        · intro L us wx K a ha hp hd hun hI hK
          have HX := hI.x
          have u2 := hI.f2 (hp 2 (by kernel_rfl))
          have u4 := hI.f4 (hp 4 (by kernel_rfl))
          clear hp HX
          replace hd := Lib.hid hd
          simp only [u2, u4] at ha
          subst ha
          simp only [Act.put, List.setIfInBounds_toArray, List.set_cons_succ, List.set_cons_zero] at hK
          go_simp
          refine hK _ _ ?_
          first
          | (refine ⟨hI.x, hI.g0, hI.g1, hI.g2, hI.g3, hI.g4, hI.g5, hI.f0, hI.f1, hI.f2, hI.f3, hI.f4, ?_, hI.f6, hI.f7, hI.f8, hI.f9, hI.f10, hI.f11, hI.f12, hI.f13, hI.f15⟩ <;> (first | exact fun _ => rfl | skip))
          | (refine ⟨?_, ?_, ?_, ?_, ?_, ?_, ?_, ?_, ?_, ?_, ?_, ?_, ?_, ?_, ?_, ?_, ?_, ?_, ?_, ?_, ?_, ?_⟩ <;> (first | exact hI.x | exact hI.g0 | exact hI.g1 | exact hI.g2 | exact hI.g3 | exact hI.g4 | exact hI.g5 | exact hI.f0 | exact hI.f1 | exact hI.f2 | exact hI.f3 | exact hI.f4 | exact hI.f5 | exact hI.f6 | exact hI.f7 | exact hI.f8 | exact hI.f9 | exact hI.f10 | exact hI.f11 | exact hI.f12 | exact hI.f13 | exact hI.f15 | exact fun _ => rfl | skip))
        · intro L us wx K a ha hp hd hun hI hK
          have HX := hI.x
          have u0 := hI.f0 (hp 0 (by kernel_rfl))
          have u5 := hI.f5 (hp 5 (by kernel_rfl))
          have h16 : L 16 = false := Bool.eq_false_iff.2 fun hl => absurd (hd 13 6 (hd 16 13 hl (by kernel_rfl)) (by kernel_rfl)) (by rw [hun]; decide)
          have lk : (Instr.lookup 35 (.map (some M)) (.agg #[.int .i64 xa, .int .i64 xb]) false).run Tryz.prog wx = .ok (.int .i64 v) wx := by
            cases h14 : L 14
            · have := look_pr (hI.g1 h14) xa xb
              rwa [Hv.out] at this
            · have := look_pr (hI.g3 h14 h16).asMap xa xb
              rwa [got_put] at this
          clear hp HX
          replace hd := Lib.hid hd
          simp only [u0, u5] at ha
          subst ha
          simp only [Act.put, List.setIfInBounds_toArray, List.set_cons_succ, List.set_cons_zero] at hK
          go_simp
          refine hK _ _ ?_
          first
          | (refine ⟨hI.x, hI.g0, hI.g1, hI.g2, hI.g3, hI.g4, hI.g5, hI.f0, hI.f1, hI.f2, hI.f3, hI.f4, hI.f5, ?_, hI.f7, hI.f8, hI.f9, hI.f10, hI.f11, hI.f12, hI.f13, hI.f15⟩ <;> (first | exact fun _ => rfl | skip))
          | (refine ⟨?_, ?_, ?_, ?_, ?_, ?_, ?_, ?_, ?_, ?_, ?_, ?_, ?_, ?_, ?_, ?_, ?_, ?_, ?_, ?_, ?_, ?_⟩ <;> (first | exact hI.x | exact hI.g0 | exact hI.g1 | exact hI.g2 | exact hI.g3 | exact hI.g4 | exact hI.g5 | exact hI.f0 | exact hI.f1 | exact hI.f2 | exact hI.f3 | exact hI.f4 | exact hI.f5 | exact hI.f6 | exact hI.f7 | exact hI.f8 | exact hI.f9 | exact hI.f10 | exact hI.f11 | exact hI.f12 | exact hI.f13 | exact hI.f15 | exact fun _ => rfl | skip))
        · intro L' us wx K a ha hp hd hun hI hK
          have h11 : L' 11 = false := Bool.eq_false_iff.2 fun hl => absurd (hd 11 7 hl (by kernel_rfl)) (by rw [hun]; decide)
          replace hd := Lib.hid hd
          subst ha
          simp only [Act.put, List.setIfInBounds_toArray, List.set_cons_succ, List.set_cons_zero] at hK
          go_simp
          refine hK _ _ ⟨hI.x.alloc _, hI.g0.alloc _, (fun h => (hI.g1 h).ext ((Ext.refl _).alloc _)), hI.g2, (fun h h' => (hI.g3 h h').ext ((Ext.refl _).alloc _)), (fun h => (hI.g4 h).ext ((Ext.refl _).alloc _)), (fun _ => Blk.new _ _ _), hI.f0, hI.f1, hI.f2, hI.f3, hI.f4, hI.f5, hI.f6, (fun _ => rfl), hI.f8, hI.f9, hI.f10, (fun h => absurd (show L' 11 = true from h) (by rw [h11]; decide)), hI.f12, hI.f13, hI.f15⟩
        · intro L us wx K a ha hp hd hun hI hK
          have HX := hI.x
          clear hp HX
          replace hd := Lib.hid hd
          subst ha
          simp only [Act.put, List.setIfInBounds_toArray, List.set_cons_succ, List.set_cons_zero] at hK
          go_simp
          refine hK _ _ ?_
          first
          | (refine ⟨hI.x, hI.g0, hI.g1, hI.g2, hI.g3, hI.g4, hI.g5, hI.f0, hI.f1, hI.f2, hI.f3, hI.f4, hI.f5, hI.f6, hI.f7, ?_, hI.f9, hI.f10, hI.f11, hI.f12, hI.f13, hI.f15⟩ <;> (first | exact fun _ => rfl | skip))
          | (refine ⟨?_, ?_, ?_, ?_, ?_, ?_, ?_, ?_, ?_, ?_, ?_, ?_, ?_, ?_, ?_, ?_, ?_, ?_, ?_, ?_, ?_, ?_⟩ <;> (first | exact hI.x | exact hI.g0 | exact hI.g1 | exact hI.g2 | exact hI.g3 | exact hI.g4 | exact hI.g5 | exact hI.f0 | exact hI.f1 | exact hI.f2 | exact hI.f3 | exact hI.f4 | exact hI.f5 | exact hI.f6 | exact hI.f7 | exact hI.f8 | exact hI.f9 | exact hI.f10 | exact hI.f11 | exact hI.f12 | exact hI.f13 | exact hI.f15 | exact fun _ => rfl | skip))
        · intro L us wx K a ha hp hd hun hI hK
          have HX := hI.x
          have u8 := hI.f8 (hp 8 (by kernel_rfl))
          have bb := hI.g0.cell
          clear hp HX
          replace hd := Lib.hid hd
          simp only [u8] at ha
          subst ha
          simp only [Act.put, List.setIfInBounds_toArray, List.set_cons_succ, List.set_cons_zero] at hK
          go_simp
          refine hK _ _ ?_
          first
          | (refine ⟨hI.x, hI.g0, hI.g1, hI.g2, hI.g3, hI.g4, hI.g5, hI.f0, hI.f1, hI.f2, hI.f3, hI.f4, hI.f5, hI.f6, hI.f7, hI.f8, ?_, hI.f10, hI.f11, hI.f12, hI.f13, hI.f15⟩ <;> (first | exact fun _ => rfl | skip))
          | (refine ⟨?_, ?_, ?_, ?_, ?_, ?_, ?_, ?_, ?_, ?_, ?_, ?_, ?_, ?_, ?_, ?_, ?_, ?_, ?_, ?_, ?_, ?_⟩ <;> (first | exact hI.x | exact hI.g0 | exact hI.g1 | exact hI.g2 | exact hI.g3 | exact hI.g4 | exact hI.g5 | exact hI.f0 | exact hI.f1 | exact hI.f2 | exact hI.f3 | exact hI.f4 | exact hI.f5 | exact hI.f6 | exact hI.f7 | exact hI.f8 | exact hI.f9 | exact hI.f10 | exact hI.f11 | exact hI.f12 | exact hI.f13 | exact hI.f15 | exact fun _ => rfl | skip))
        · intro L us wx K a ha hp hd hun hI hK
          have HX := hI.x
          have u9 := hI.f9 (hp 9 (by kernel_rfl))
          clear hp HX
          replace hd := Lib.hid hd
          simp only [u9] at ha
          subst ha
          simp only [Act.put, List.setIfInBounds_toArray, List.set_cons_succ, List.set_cons_zero] at hK
          go_simp
          refine hK _ _ ?_
          first
          | (refine ⟨hI.x, hI.g0, hI.g1, hI.g2, hI.g3, hI.g4, hI.g5, hI.f0, hI.f1, hI.f2, hI.f3, hI.f4, hI.f5, hI.f6, hI.f7, hI.f8, hI.f9, ?_, hI.f11, hI.f12, hI.f13, hI.f15⟩ <;> (first | exact fun _ => rfl | skip))
          | (refine ⟨?_, ?_, ?_, ?_, ?_, ?_, ?_, ?_, ?_, ?_, ?_, ?_, ?_, ?_, ?_, ?_, ?_, ?_, ?_, ?_, ?_, ?_⟩ <;> (first | exact hI.x | exact hI.g0 | exact hI.g1 | exact hI.g2 | exact hI.g3 | exact hI.g4 | exact hI.g5 | exact hI.f0 | exact hI.f1 | exact hI.f2 | exact hI.f3 | exact hI.f4 | exact hI.f5 | exact hI.f6 | exact hI.f7 | exact hI.f8 | exact hI.f9 | exact hI.f10 | exact hI.f11 | exact hI.f12 | exact hI.f13 | exact hI.f15 | exact fun _ => rfl | skip))
          exact fun _ => congrArg (Value.int .u8) Hwsi.out
        · intro L' us wx K a ha hp hd hun hI hK
          have u7 := hI.f7 (hp 7 (by kernel_rfl))
          have u10 := hI.f10 (hp 10 (by kernel_rfl))
          obtain ⟨g7, hg7⟩ : ∃ g, bk (us 7) = g := ⟨_, rfl⟩
          rw [hg7] at u7
          have HG7 := Lib.hid hg7
          clear hg7
          replace hd := Lib.hid hd
          dsimp only at ha
          rw [u7, u10] at ha
          subst ha
          simp only [Act.put, List.setIfInBounds_toArray, List.set_cons_succ, List.set_cons_zero] at hK
          go_simp
          exact hK _ _ ⟨hI.x, hI.g0, hI.g1, hI.g2, hI.g3, hI.g4, hI.g5, hI.f0, hI.f1, hI.f2, hI.f3, hI.f4, hI.f5, hI.f6, hI.f7, hI.f8, hI.f9, hI.f10, (fun _ => by show Value.pointer _ = Value.pointer (some ⟨bk (us 7), si, none⟩); rw [HG7.out]), hI.f12, hI.f13, hI.f15⟩
        · intro L' us wx K a ha hp hd hun hI hK
          have u11 := hI.f11 (hp 11 (by kernel_rfl))
          have bb := (hI.g5 (hd 11 7 (hp 11 (by kernel_rfl)) (by kernel_rfl))).cell si
          rw [Hsg.out] at bb
          obtain ⟨g7, hg7⟩ : ∃ g, bk (us 7) = g := ⟨_, rfl⟩
          rw [hg7] at u11 bb
          clear hg7
          replace hd := Lib.hid hd
          dsimp only at ha
          rw [u11] at ha
          subst ha
          simp only [Act.put, List.setIfInBounds_toArray, List.set_cons_succ, List.set_cons_zero] at hK
          go_simp
          exact hK _ _ ⟨hI.x, hI.g0, hI.g1, hI.g2, hI.g3, hI.g4, hI.g5, hI.f0, hI.f1, hI.f2, hI.f3, hI.f4, hI.f5, hI.f6, hI.f7, hI.f8, hI.f9, hI.f10, hI.f11, (fun _ => rfl), hI.f13, hI.f15⟩
        · intro L us wx K a ha hp hd hun hI hK
          have HX := hI.x
          have u6 := hI.f6 (hp 6 (by kernel_rfl))
          have u12 := hI.f12 (hp 12 (by kernel_rfl))
          clear hp HX
          replace hd := Lib.hid hd
          simp only [u6, u12] at ha
          subst ha
          simp only [Act.put, List.setIfInBounds_toArray, List.set_cons_succ, List.set_cons_zero] at hK
          go_simp
          refine hK _ _ ?_
          first
          | (refine ⟨hI.x, hI.g0, hI.g1, hI.g2, hI.g3, hI.g4, hI.g5, hI.f0, hI.f1, hI.f2, hI.f3, hI.f4, hI.f5, hI.f6, hI.f7, hI.f8, hI.f9, hI.f10, hI.f11, hI.f12, ?_, hI.f15⟩ <;> (first | exact fun _ => rfl | skip))
          | (refine ⟨?_, ?_, ?_, ?_, ?_, ?_, ?_, ?_, ?_, ?_, ?_, ?_, ?_, ?_, ?_, ?_, ?_, ?_, ?_, ?_, ?_, ?_⟩ <;> (first | exact hI.x | exact hI.g0 | exact hI.g1 | exact hI.g2 | exact hI.g3 | exact hI.g4 | exact hI.g5 | exact hI.f0 | exact hI.f1 | exact hI.f2 | exact hI.f3 | exact hI.f4 | exact hI.f5 | exact hI.f6 | exact hI.f7 | exact hI.f8 | exact hI.f9 | exact hI.f10 | exact hI.f11 | exact hI.f12 | exact hI.f13 | exact hI.f15 | exact fun _ => rfl | skip))
          exact fun _ => congrArg (Value.int .i64) Hw.out
        · intro L' us wx K a ha hp hd hun hI hK
          have u0 := hI.f0 (hp 0 (by kernel_rfl))
          have u5 := hI.f5 (hp 5 (by kernel_rfl))
          have h16 : L' 16 = false := Bool.eq_false_iff.2 fun hl => absurd (hd 16 14 hl (by kernel_rfl)) (by rw [hun]; decide)
          have h15 : L' 15 = false := Bool.eq_false_iff.2 fun hl => absurd (hd 15 14 hl (by kernel_rfl)) (by rw [hun]; decide)
          have hM := hI.g1 hun
          obtain ⟨w', born, hrun, r1, r2, r3⟩ := entry_run prKey Tryz.underlying35 (z := (0 : Int)) (w := wx) (by kernel_rfl) hM ((xa : Int), (xb : Int))
          rw [Hv.out] at hrun r1
          have hrun' : (Instr.mapEntry 35 (.map (some M)) (.agg #[.int .i64 xa, .int .i64 xb])).run Tryz.prog wx = .ok (.tuple #[.int .i64 v, .int .i64 (born : Nat)]) w' := hrun
          clear hrun
          replace hd := Lib.hid hd
          simp only [u0, u5] at ha
          subst ha
          simp only [Act.put, List.setIfInBounds_toArray, List.set_cons_succ, List.set_cons_zero] at hK
          go_simp
          exact hK _ _ ⟨hI.x.grown r2 (fun r hr => by cases hr; exact HM.out), hI.g0.grown r2 (fun e => hM.blk_ne hI.g0 (by cases e; rfl)), (fun h => nomatch (show true = false from h)), (fun _ => rfl), (fun _ _ => r1), (fun h => absurd (show L' 16 = true from h) (by rw [h16]; decide)), (fun h => (hI.g5 h).grown r2 (fun e => hM.blk_ne (hI.g5 h) (by cases e; rfl))), hI.f0, hI.f1, hI.f2, hI.f3, hI.f4, hI.f5, hI.f6, hI.f7, hI.f8, hI.f9, hI.f10, hI.f11, hI.f12, hI.f13, (fun h => absurd (show L' 15 = true from h) (by rw [h15]; decide))⟩
        · intro L' us wx K a ha hp hd hun hI hK
          have u14 := hI.g2 (hp 14 (by kernel_rfl))
          obtain ⟨born, hb14⟩ : ∃ b, bornOf (us 14) = b := ⟨_, rfl⟩
          rw [hb14] at u14
          replace hd := Lib.hid hd
          dsimp only at ha
          rw [u14] at ha
          subst ha
          clear u14
          simp only [Act.put, List.setIfInBounds_toArray, List.set_cons_succ, List.set_cons_zero] at hK
          go_simp
          exact hK _ _ ⟨hI.x, hI.g0, hI.g1, hI.g2, hI.g3, hI.g4, hI.g5, hI.f0, hI.f1, hI.f2, hI.f3, hI.f4, hI.f5, hI.f6, hI.f7, hI.f8, hI.f9, hI.f10, hI.f11, hI.f12, hI.f13, (fun _ => congrArg (fun n : Nat => Value.int .i64 n) hb14.symm)⟩
        · intro L' us wx K a ha hp hd hun hI hK
          have u0 := hI.f0 (hp 0 (by kernel_rfl))
          have u13 := hI.f13 (hp 13 (by kernel_rfl))
          have u15 := hI.f15 (hp 15 (by kernel_rfl))
          have h14 := hp 14 (by kernel_rfl)
          have hM := hI.g3 h14 hun
          obtain ⟨w', hrun, r1, r2, r3⟩ := store_run (P := Tryz.prog) hM 35 (v + s)
          rw [putK_put] at r1
          have hrun' : (Instr.entryStore 35 (.map (some M)) (.int .i64 (bornOf (us 14) : Nat)) (.int .i64 (v + s))).run Tryz.prog wx = .ok () w' := hrun
          clear hrun
          replace hd := Lib.hid hd
          simp only [u0, u13, u15] at ha
          subst ha
          simp only [Act.put] at hK
          go_simp
          exact hK undef _ ⟨hI.x.grown r2 (fun r hr => by cases hr; exact HM.out), hI.g0.grown r2 (fun e => hM.asMap.blk_ne hI.g0 (by cases e; rfl)), (fun h => absurd (show L' 14 = false from h) (by rw [h14]; decide)), hI.g2, (fun _ h => nomatch (show true = false from h)), (fun _ => r1), (fun h => (hI.g5 h).grown r2 (fun e => hM.asMap.blk_ne (hI.g5 h) (by cases e; rfl))), hI.f0, hI.f1, hI.f2, hI.f3, hI.f4, hI.f5, hI.f6, hI.f7, hI.f8, hI.f9, hI.f10, hI.f11, hI.f12, hI.f13, hI.f15⟩
        intro L' us wy hall hI
        have Mn := hI.g4 (hall 16 (by simp))
        have En := hI.x
        clear hall hI
        go_wp2_with fail
        go_roundw
        case rel => exact ⟨q + 1, _, by omega, by go_num, En, Mn, Hsn2.out⟩
        case measure => simp only [intOf]; omega
    · obtain rfl : q = n := by omega
      rw [show L.take q = L by rw [← Hn.out, List.take_length]] at SU
      have Hlen := Lib.hid (JntsOk.len Hjo.out SU)
      have HSU := Lib.hid SU
      have E05 := Lib.hid (HE.out)
      go_wp2_with fail
      rw [Hnj.out]
      go_loopw [220] (fun ii wr => ∃ (k : Nat), k ≤ nj ∧ ii = .int .i64 k ∧ Ext W5 wr ∧ MapOf encPr evI wr M m) (fun ii _ => nj - (intOf ii).toNat)
      case atStart => exact ⟨0, by omega, rfl, Er, MA⟩
      case round =>
        clear Er MA SU
        obtain ⟨k, hk', rfl, Er, MA⟩ := hrel
        by_cases hkt : k < nj
        · obtain ⟨jg, joff, hJA⟩ : ∃ g off, A5 = some ⟨g, off, none⟩ := by
            obtain ⟨g, off, hA, -, -⟩ := SliceIs.cells HJJ.out (by rw [Hnj.out]; omega)
            exact ⟨g, off, hA⟩
          subst hJA
          have hjc : nj ≤ jc := by have := HJJ.out.le; rw [Hnj.out] at this; exact this
          have hget := jntGet_get (l := J) (i := k) (by rw [Hnj.out]; exact hkt)
          have hmem := List.mem_of_getElem? hget
          obtain ⟨s1, s2⟩ := Hjo.out.s _ hmem
          obtain ⟨s3, s4, s5⟩ := Hjo.out.a _ hmem
          have hprev : 0 < k → ltPr (jPr (jntGet J (k - 1))) (jPr (jntGet J k)) := fun h0 => by
            have := List.pairwise_iff_getElem.1 Hjo.out.o (k - 1) k (by have := Hnj.out; omega) (by have := Hnj.out; omega) (by omega)
            rwa [Option.some.inj ((List.getElem?_eq_getElem (by have := Hnj.out; omega)).symm.trans (jntGet_get (l := J) (i := k - 1) (by have := Hnj.out; omega))), Option.some.inj ((List.getElem?_eq_getElem (by have := Hnj.out; omega)).symm.trans hget)] at this
          obtain ⟨c0, c1, c2, c3, c4⟩ := jnts_cell (HJJ.out.ext Er) (k := k) (by rw [Hnj.out]; exact hkt) rfl
          obtain ⟨⟨ja, jb, jst, jax, jsl⟩, hj⟩ : ∃ j, jntGet J k = j := ⟨_, rfl⟩
          rw [hj] at c0 c1 c2 c3 c4 s1 s2 s3 s4 s5 hprev
          have hgm : (getK m ((ja : Int), (jb : Int))).getD 0 = jst := (HSU.out.at_ _).trans s1
          simp only at c0 c1 c2 c3 c4 s2 s3 s4 s5
          obtain ⟨W8, hW8, E8, B8, -⟩ := mk_ wr #[.int .i64 ja, .int .i64 jb, .int .i64 jst, .int .u8 jax, .bool jsl] 53
          obtain ⟨X, hX⟩ : ∃ X, wr.heap.size = X := ⟨_, rfl⟩
          rw [hX] at B8
          have HX := Lib.hid hX
          have E58 := Er.trans E8
          have M8 := MA.ext E8
          have lk := Lib.hid (fun x => show (Instr.lookup 35 (.map (some M)) (.agg #[.int .i64 ja, .int .i64 jb]) false).run Tryz.prog (grow W8 x) = .ok (.int .i64 jst) (grow W8 x) by
            have := look_pr (M8.ext ((Ext.refl _).grow x)) ja jb
            rwa [hgm] at this)
          have k0 : (0 : Int) ≤ k := by omega
          have k1 : (k : Int) < nj := by omega
          have k2 : (k : Int) < jc := by omega
          have n1 : (jst != jst) = false := by simp
          have n2 : (jst == 0) = false := by simpa using s2
          have n4 : ¬ jax > 3 := by omega
          have n5 : decide (jax > 3) = false := by simp; omega
          have Hpr := Lib.hid hprev
          have Hs3 := Lib.hid s3
          clear hget hmem s1 s2 s3 hgm hj hX MA E8 hprev Er
          by_cases hk0 : k = 0
          · have q3 : ¬ (0 : Int) < (k : Int) := by omega
            have q4 : decide (0 < k) = false := by simp; omega
            clear hk0
            go_upto_region 26 with (fail)
            rw [HX.out]
            clear hW8 c0 c1 c2 c3 c4
            have bx1 := B8.cell
            cases jsl
            · as_aux_lemma =>
              refine wp_region_grow (by kernel_rfl) (by kernel_rfl) ?_
              simp only [List.append_eq, List.cons_append, List.nil_append]
              repeat (go_big_quiet_step ((rw [lk.out]; exact ⟨rfl, rfl⟩)))
              refine wpQuiet_nil ?_
              intro W9 hW9
              have E9 : Ext W8 W9 := by
                obtain ⟨x, rfl⟩ := hW9
                exact (Ext.refl _).grow x
              clear hW9 bx1 lk
              skip
              go_wp2_with fail
              go_roundw
              case rel => exact ⟨k + 1, by omega, by go_num, E58.trans E9, M8.ext E9⟩
              case measure => simp only [intOf]; omega
            · have n3 : (jax == 0) = false := by simpa using Hs3.out rfl
              as_aux_lemma =>
              refine wp_region_grow (by kernel_rfl) (by kernel_rfl) ?_
              simp only [List.append_eq, List.cons_append, List.nil_append]
              repeat (go_big_quiet_step ((rw [lk.out]; exact ⟨rfl, rfl⟩)))
              refine wpQuiet_nil ?_
              intro W9 hW9
              have E9 : Ext W8 W9 := by
                obtain ⟨x, rfl⟩ := hW9
                exact (Ext.refl _).grow x
              clear hW9 bx1 lk
              skip
              go_wp2_with fail
              go_roundw
              case rel => exact ⟨k + 1, by omega, by go_num, E58.trans E9, M8.ext E9⟩
              case measure => simp only [intOf]; omega
          · have q3 : (0 : Int) < (k : Int) := by omega
            have q4 : decide (0 < k) = true := by simp; omega
            have q5 : decide ((0 : Int) < (k : Int)) = true := by simp; omega
            have ht : ((k : Int) - 1).toNat = k - 1 := by omega
            have hk1 : (1 : Int) ≤ k := by omega
            have q6 : (k : Int) - 1 < nj := by omega
            have q7 : (0 : Int) ≤ (k : Int) - 1 := by omega
            obtain ⟨d0, d1, d2, d3, d4⟩ := jnts_cell (HJJ.out.ext E58) (k := k - 1) (by rw [Hnj.out]; omega) rfl
            have hpl := Hpr.out (by omega)
            obtain ⟨⟨pa, pb, pst, pax, psl⟩, hp⟩ : ∃ y, jntGet J (k - 1) = y := ⟨_, rfl⟩
            rw [hp] at d0 d1 d2 d3 d4 hpl
            unfold ltPr jPr at hpl
            simp only at d0 d1 d2 d3 d4 hpl
            have g1 : ¬ ja < pa := by omega
            have g2 : ¬ (ja : Int) < pa := by omega
            by_cases hap : pa < ja
            · have g3 : ((ja : Int) == (pa : Int)) = false := by simp; omega
              have g4 : (ja == pa) = false := by simp; omega
              clear hk0 hpl hp
              go_upto_region 26 with (fail)
              rw [HX.out]
              clear hW8 c0 c1 c2 c3 c4
              have bx1 := B8.cell
              cases jsl
              · as_aux_lemma =>
                refine wp_region_grow (by kernel_rfl) (by kernel_rfl) ?_
                simp only [List.append_eq, List.cons_append, List.nil_append]
                repeat (go_big_quiet_step ((rw [lk.out]; exact ⟨rfl, rfl⟩)))
                refine wpQuiet_nil ?_
                intro W9 hW9
                have E9 : Ext W8 W9 := by
                  obtain ⟨x, rfl⟩ := hW9
                  exact (Ext.refl _).grow x
                clear hW9 bx1 lk
                clear d0 d1 d2 d3 d4
                go_wp2_with fail
                go_roundw
                case rel => exact ⟨k + 1, by omega, by go_num, E58.trans E9, M8.ext E9⟩
                case measure => simp only [intOf]; omega
              · have n3 : (jax == 0) = false := by simpa using Hs3.out rfl
                as_aux_lemma =>
                refine wp_region_grow (by kernel_rfl) (by kernel_rfl) ?_
                simp only [List.append_eq, List.cons_append, List.nil_append]
                repeat (go_big_quiet_step ((rw [lk.out]; exact ⟨rfl, rfl⟩)))
                refine wpQuiet_nil ?_
                intro W9 hW9
                have E9 : Ext W8 W9 := by
                  obtain ⟨x, rfl⟩ := hW9
                  exact (Ext.refl _).grow x
                clear hW9 bx1 lk
                clear d0 d1 d2 d3 d4
                go_wp2_with fail
                go_roundw
                case rel => exact ⟨k + 1, by omega, by go_num, E58.trans E9, M8.ext E9⟩
                case measure => simp only [intOf]; omega
            · obtain rfl : pa = ja := by omega
              have g3 : ((pa : Int) == (pa : Int)) = true := by simp
              have g5 : ¬ jb ≤ pb := by omega
              have g6 : ¬ (jb : Int) ≤ pb := by omega
              clear hk0 hpl hp
              go_upto_region 26 with (fail)
              rw [HX.out]
              clear hW8 c0 c1 c2 c3 c4
              have bx1 := B8.cell
              cases jsl
              · as_aux_lemma =>
                refine wp_region_grow (by kernel_rfl) (by kernel_rfl) ?_
                simp only [List.append_eq, List.cons_append, List.nil_append]
                repeat (go_big_quiet_step ((rw [lk.out]; exact ⟨rfl, rfl⟩)))
                refine wpQuiet_nil ?_
                intro W9 hW9
                have E9 : Ext W8 W9 := by
                  obtain ⟨x, rfl⟩ := hW9
                  exact (Ext.refl _).grow x
                clear hW9 bx1 lk
                clear d0 d1 d2 d3 d4
                go_wp2_with fail
                go_roundw
                case rel => exact ⟨k + 1, by omega, by go_num, E58.trans E9, M8.ext E9⟩
                case measure => simp only [intOf]; omega
              · have n3 : (jax == 0) = false := by simpa using Hs3.out rfl
                as_aux_lemma =>
                refine wp_region_grow (by kernel_rfl) (by kernel_rfl) ?_
                simp only [List.append_eq, List.cons_append, List.nil_append]
                repeat (go_big_quiet_step ((rw [lk.out]; exact ⟨rfl, rfl⟩)))
                refine wpQuiet_nil ?_
                intro W9 hW9
                have E9 : Ext W8 W9 := by
                  obtain ⟨x, rfl⟩ := hW9
                  exact (Ext.refl _).grow x
                clear hW9 bx1 lk
                clear d0 d1 d2 d3 d4
                go_wp2_with fail
                go_roundw
                case rel => exact ⟨k + 1, by omega, by go_num, E58.trans E9, M8.ext E9⟩
                case measure => simp only [intOf]; omega
        · obtain rfl : k = nj := by omega
          have hlm := len_map MA (P := Tryz.prog) Tryz.underlying35
          rw [← Hlen.out, Hnj.out] at hlm
          go_wp2_with fail
          go_ret
          exact ⟨rfl, HE.out.trans Er⟩
end Go.Proofs.YteggkfdipbmgfaaGreat
namespace Go.Proofs.YteggkfdipbmgfaaGreat
open Go.RowKit Go.ChangeShapes Go.WideShapes Go.ChangeAt Go.Deep Go.Joins

set_option maxRecDepth 100000 in
theorem latticeTouch_lifted (os : Os) (started : os.Started) (H : Type) (enc : TypeId × Value → H) :
    ReturnsInHanded {} Tryz.checked os 3 .any (Rows.latticeTouchSpec.pre6 enc Tryz.prog Tryz.f3 Rows.latticeTouchRow.domain false) (Rows.latticeTouchSpec.post enc Tryz.prog Tryz.f3 false true false false) := by
  refine returnsInHanded_of_change (C := Tryz.checked) Tryz.own started (by kernel_rfl) Tryz.func3
    (ChangeSpec.witness6 (enc := enc) (C := Tryz.checked) false ⟨#[], #[.slice none 0 0, .agg #[.slice none 0 0]], []⟩ 8 (by kernel_rfl) (by kernel_rfl) (by kernel_rfl) (by kernel_rfl)) ?_
  intro W base args ds gs before hval0 hW hcnd _
  have hval : ∀ (j : Nat) t v, Tryz.f3.params[j]? = some t → args[j]? = some v → Value.okWide Tryz.prog W .any base t v := hval0
  have hW' := hW
  obtain ⟨p, q, hA0, hV, rfl, hfz, hnd⟩ := hW
  have hA : DataW.TrodAll enc Tryz.prog W 0 (fun _ => true) true Tryz.f3.params.toList args.toList ds p := hA0
  rw [Tryz.params3] at hA hval
  have hAll := hA
  obtain ⟨v0, v1, d0, d1, p0, p1, rfl, rfl, rfl, h0, h1⟩ := trodAll_two hA
  obtain ⟨rfl, rfl⟩ := trodVars_none hV
  obtain ⟨C, n1, cc, rfl⟩ := okWide_slice Tryz.underlying22 (hval 0 22 v0 rfl rfl)
  obtain ⟨fu0, hf0⟩ := h0
  obtain ⟨qs, rfl, hk, -⟩ := kinds_of_trod (by simpa [Value.cells] using hf0)
  obtain ⟨D, cd, bs, rfl, hb, hnil⟩ := model_open (hval 1 25 v1 rfl rfl) h1
  clear hA0 hval0
  simp only [List.append_nil] at hW' hAll
  have hlt : ∀ q ∈ p0 ++ p1, q.block < W.heap.size := fun q hq => hW'.lt q hq
  refine (touch_walk qs C cc bs D cd W hk hb hnil).mono fun e W' ⟨he, hE⟩ => ?_
  subst he
  refine ⟨_, rfl, ?_⟩
  refine ⟨_, _, _, [], p0 ++ p1, [], hW', ?_, ?_, rfl, hE.frame _, fun h => by cases h⟩
  · exact trodAll_mk1 (shut_bool Tryz.underlying4 true)
  · exact trodAll_ext (ts := [22, 25]) Tryz.laidOut hE (by
      intro t ht
      simp only [List.mem_cons, List.not_mem_nil, or_false] at ht
      rcases ht with rfl | rfl <;> exact ⟨by kernel_rfl, of_decide_eq_true (by kernel_rfl)⟩) hAll hlt

theorem latticeTouch_holds : Rows.LatticeTouchSaid :=
  OpenClaim.holds_of_wide 3 Tryz.f3 rfl rfl rfl rfl rfl rfl rfl ⟨rfl, rfl, rfl, rfl, rfl⟩ rfl rfl rfl rfl rfl (by kernel_rfl) Tryz.func3 (by kernel_rfl)
    (of_decide_eq_true (by kernel_rfl)) (by unfold Func.isWrapper; rw [if_neg (of_decide_eq_false (by kernel_rfl))]; exact ⟨rfl, rfl⟩)
    (fun os started H enc _ => latticeTouch_lifted os started H enc)
#print axioms latticeTouch_holds
end Go.Proofs.YteggkfdipbmgfaaGreat
