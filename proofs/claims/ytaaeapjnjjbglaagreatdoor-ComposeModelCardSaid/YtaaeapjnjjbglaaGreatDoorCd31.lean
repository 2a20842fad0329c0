/- Texts of another chapter in a namespace of their own (printed by lat.py). -/
import Derived.Test.YtaaeapjnjjbglaaGreatDoorCd16
import Derived.Test.YtaaeapjnjjbglaaGreatDoorCd17
import Derived.Test.YtaaeapjnjjbglaaGreatDoorCd19
import Derived.Test.YtaaeapjnjjbglaaGreatDoorCd20
import Derived.Test.YtaaeapjnjjbglaaGreatDoorCd24
import Derived.Test.YtaaeapjnjjbglaaGreatDoorCd26
import Derived.Test.YtaaeapjnjjbglaaGreatDoorCd27
import Derived.Test.YtaaeapjnjjbglaaGreatDoorCd29
import Derived.Test.YtaaeapjnjjbglaaGreatDoorCd30

-- holds: Api1 BrickB BrickM CellsP CheckKind CheckM Compose Composed Faces GroupS Groups Has Inverse JoinS KindS KnobsP Like LikeS LinkN LinkS LinkU Links LnkP Near NextS NumX Ord OvM OvN OvWalk Overlaps Ovl OvlS PairKey RKind RKnobbed RLikeW RMeet ROver RPlaced RSorted RValidKind SameI SameL SameM Sort2 Sort2Laid SortC SortK SortKLaid SortLaid SortNil SortNilK Span Step Turn TurnD Turned Turners Visit Which
namespace Go.Proofs.YtaaeapjnjjbglaaGreatDoor.Lat
open Go.RowKit

theorem nodup_len {l : List Nat} {n : Nat} (h : l.Nodup) (hb : ∀ x ∈ l, x < n) : l.length ≤ n := by
  have hp : l.Perm ((List.range n).filter fun x => decide (x ∈ l)) := (List.perm_ext_iff_of_nodup h (List.nodup_range.filter _)).2 fun a => by
    rw [List.mem_filter, List.mem_range, decide_eq_true_eq]
    exact ⟨fun h => ⟨hb a h, h⟩, fun h => h.2⟩
  rw [hp.length_eq]
  exact Nat.le_trans (List.length_filter_le _ _) (by simp)
theorem linkL_len {ks : List Knd} {bs : List Brk} (hf : Fit ks bs) : (linkL ks bs).length ≤ 1920 := by
  have hm : ∀ x ∈ linkL ks bs, x.a < 40 ∧ x.knob < 48 := fun x hx => by
    have h := mem_linkL.1 hx
    have := h.ab
    have := h.b
    have := hf.n
    have := h.k
    have := hf.klen (j := x.a) (by omega)
    omega
  have h1 : ((linkL ks bs).map fun x => x.a * 48 + x.knob).Nodup := by
    unfold List.Nodup
    rw [List.pairwise_map]
    refine (linkL_nodup ks bs).imp_of_mem fun {x y} hx hy hne e => ?_
    have := hm x hx
    have := hm y hy
    exact hne (lnk_unique hf (mem_linkL.1 hx) (mem_linkL.1 hy) (by omega) (by omega))
  have h2 := nodup_len h1 (n := 1920) fun v hv => by
    obtain ⟨x, hx, rfl⟩ := List.mem_map.1 hv
    have := hm x hx
    omega
  rwa [List.length_map] at h2
theorem links_few {w : World} {QA : Option Addr} {qc : Nat} {qs : List (Knd × KAt)} (hk : Kinds w QA qc qs) {bs : List Brk} (hb : ∀ b ∈ bs, b.byte) (h : checkErr (qs.map (·.1)) bs = 0) : (linkL (qs.map (·.1)) bs).length ≤ 100000 :=
  Nat.le_trans (linkL_len (fit_of hk hb h)) (by omega)
end Go.Proofs.YtaaeapjnjjbglaaGreatDoor.Lat
namespace Go.Proofs.YtaaeapjnjjbglaaGreatDoor.Lat
open Go.RowKit

def visV (O I N V : Nat) : Value := .func (.func 26) #[] #[.pointer (some ⟨O, 0, none⟩), .pointer (some ⟨I, 0, none⟩), .pointer (some ⟨N, 0, none⟩), .pointer (some ⟨V, 0, none⟩)]
/-- What a visit finds: the boxes that it has captured, and the neighbours. -/
structure GEnv (w : World) (T OB O I N V NB n oc nc i : Nat) (vs : Nat → Value) (f : Nat → List Int) : Prop where
  o : Blk w O 41 #[.slice (some ⟨OB, 0, none⟩) n oc]
  i_ : Blk w I 3 #[.int .i64 i]
  nb : Blk w N 82 #[.slice (some ⟨NB, 0, none⟩) n nc]
  v : Blk w V 85 #[visV O I N V]
  rows : Blk w NB 41 (vsA n vs)
  row : RowsO w T n vs f
  no : O ≠ OB
  ni : I ≠ OB
  nn : N ≠ OB
  nv : V ≠ OB
  nr : NB ≠ OB
  own : ∀ k, k < n → (vs k).ownBlock ≠ some OB
theorem GEnv.only {w w' : World} {T OB O I N V NB n oc nc i : Nat} {vs : Nat → Value} {f : Nat → List Int} (h : GEnv w T OB O I N V NB n oc nc i vs f) (k : Only (fun b => b = OB) w w') : GEnv w' T OB O I N V NB n oc nc i vs f :=
  ⟨h.o.only k h.no, h.i_.only k h.ni, h.nb.only k h.nn, h.v.only k h.nv, h.rows.only k h.nr,
    ⟨fun c hc => own_only (h.row.row c hc) k (fun r hr e => h.own c hc (by rw [hr, e])), h.row.sep⟩, h.no, h.ni, h.nn, h.nv, h.nr, h.own⟩
theorem RowsO.only {w w' : World} {T n OB : Nat} {vs : Nat → Value} {f : Nat → List Int} (h : RowsO w T n vs f) (k : Only (fun b => b = OB) w w') (hv : ∀ c, c < n → (vs c).ownBlock ≠ some OB) : RowsO w' T n vs f :=
  ⟨fun c hc => own_only (h.row c hc) k (fun r hr e => hv c hc (by rw [hr, e])), h.sep⟩
def VisPost (L : List Lnk) (n i k OB : Nat) (o : List Int) (w : World) (e : Ending) (w' : World) : Prop := (∃ v, e = .returned v) ∧ ∃ o', Vis L n i k o o' ∧ NumX w' OB o' ∧ Only (fun b => b = OB) w w'
theorem lab_get {o : List Int} {k : Nat} (h : k < o.length) : o[k]? = some (lab o k) := by
  unfold lab
  rw [List.getD_eq_getElem?_getD, List.getElem?_eq_getElem h]
  rfl
set_option maxRecDepth 100000 in
set_option maxHeartbeats 8000000 in
theorem visit_c (L : List Lnk) (T OB O I N V NB n oc nc i : Nat) (vs : Nat → Value) (f : Nat → List Int) (HN : ∀ k u, u ∈ f k ↔ ∃ j : Nat, u = j ∧ Nbr L k j) (hw : Within L n) (_ : n ≤ 1000) (_ : i ≤ 1000) (hlen : ∀ k, (f k).length ≤ 1000000) (hoc : n ≤ oc) (hnc : n ≤ nc) :
    ∀ (m k : Nat) (o : List Int) (w : World), negs o < m → k < n → o.length = n → GEnv w T OB O I N V NB n oc nc i vs f → NumX w OB o →
      Calls Tryz.prog 26 #[.int .i64 k, .pointer (some ⟨O, 0, none⟩), .pointer (some ⟨I, 0, none⟩), .pointer (some ⟨N, 0, none⟩), .pointer (some ⟨V, 0, none⟩)] w (VisPost L n i k OB o w) := by
  intro m
  induction m with
  | zero =>
    intro k o w hm
    omega
  | succ m ih =>
    intro k o w hm hk hl env hX
    have IH := Lib.hid ih
    have hlk := hlen k
    have Hm := Lib.hid hm
    have Hl := Lib.hid hl
    have HW := Lib.hid hw
    have HNk := Lib.hid (HN k)
    obtain ⟨v, hv⟩ : ∃ v, lab o k = v := ⟨_, rfl⟩
    have co := env.o.cell
    have ck := hX.cell (lab_get (o := o) (k := k) (by omega))
    have fk := hX.frozen k
    rw [hv] at ck
    have Hv := Lib.hid hv
    have k0 : (0 : Int) ≤ k := by omega
    have k1 : (k : Int) < n := by omega
    have k2 : (k : Int) < oc := by omega
    have k3 : (k : Int) < nc := by omega
    by_cases h0 : 0 ≤ v
    · have HX := Lib.hid hX
      clear hv ih env HN hlen hw hX
      go_enter Tryz.func26, Tryz.ntmps26
      go_wp2_with fail
      go_end0
      exact ⟨⟨_, rfl⟩, o, Vis.done (by rw [Hv.out]; exact h0), HX.out, Only.refl _ _⟩
    · have g0 : ¬ v ≥ 0 := h0
      have g1 : decide (v ≥ 0) = false := by simp; omega
      have ci := env.i_.cell
      obtain ⟨W1, hW1⟩ : ∃ W, w.setCell ⟨OB, k, none⟩ (.int .i64 i) = W := ⟨_, rfl⟩
      have X1 := hX.set_ (i := k) (by omega) (i : Int)
      rw [hW1] at X1
      have O1 : Only (fun b => b = OB) w W1 := by rw [← hW1]; exact (Only.refl (fun b => b = OB) w).setCell (p := ⟨OB, k, none⟩) (fun _ => rfl) _
      have G1 := env.only O1
      have cn := G1.nb.cell
      have cr := G1.rows.cell k
      rw [vsA_get vs hk] at cr
      have own := G1.row.row k hk
      obtain ⟨A, cp, hA⟩ := ownForm own
      rw [hA] at cr own
      obtain ⟨nk, hnk⟩ : ∃ m, (f k).length = m := ⟨_, rfl⟩
      rw [hnk] at cr own hlk hA
      have Hnk := Lib.hid hnk
      have hP := VisP.start (L := L) (n := n) (i := i) (nb := (f k).map Int.toNat) (by omega : k < o.length) (by rw [hv]; omega : lab o k < 0)
      have hneg := negs_set (i := i) (by omega : k < o.length) (by rw [hv]; omega : lab o k < 0)
      have hle : nk ≤ cp := by
        rcases own.2 with ⟨e1, e2⟩ | ⟨g, c, cur, e1, -, -, e2, -⟩
        · omega
        · cases e1
          exact e2
      have Hown := Lib.hid own
      have HA := Lib.hid hA
      have HP := Lib.hid hP
      have HG := Lib.hid G1
      have Hneg := Lib.hid hneg
      have HO := Lib.hid O1
      clear hv ih env HN hlen hw own hA hnk hP hneg G1 hm hl
      go_enter Tryz.func26, Tryz.ntmps26
      go_wp2_with fail
      clear co ck fk ci cn cr
      have HO1 := HO.out
      go_loopw [22] (fun ii wr => ∃ (t : Nat) (o' : List Int), t ≤ nk ∧ ii = .int .i64 t ∧ Hid (VisP L n i k ((f k).map Int.toNat) t o o') ∧ negs o' + 1 ≤ negs o ∧ NumX wr OB o' ∧ Only (fun b => b = OB) W1 wr) (fun ii _ => nk - (intOf ii).toNat)
      case atStart => exact ⟨0, _, by omega, rfl, HP, by have := Hneg.out; omega, X1, Only.refl _ _⟩
      case round =>
        clear X1
        obtain ⟨t, o', ht, rfl, hp, hng, hX, hO⟩ := hrel
        by_cases htn : t < nk
        · obtain ⟨u, hu⟩ : ∃ u, (f k)[t]? = some u := ⟨_, List.getElem?_eq_getElem (by rw [Hnk.out]; exact htn)⟩
          have ge := HG.out.only hO
          obtain ⟨j, rfl, hj⟩ := (HNk.out u).1 (List.mem_of_getElem? hu)
          obtain ⟨g, hg, cu, -⟩ := ownAt (own_only Hown.out hO (fun r hr e => HG.out.own k hk (by rw [HA.out]; rw [e] at hr; exact hr))) htn (by rw [List.getElem?_map, hu]; rfl)
          subst hg
          have cv := ge.v.cell
          unfold visV at cv
          unfold numC at cu
          have t0 : (0 : Int) ≤ t := by omega
          have t1 : (t : Int) < nk := by omega
          have t2 : (t : Int) < cp := by omega
          go_wp2_with fail
          refine (IH.out j o' _ (by have := Hm.out; omega) (hj.lt HW.out).2 (by rw [hp.out.len]; exact Hl.out) ge hX).mono ?_
          rintro e w2 ⟨⟨v2, rfl⟩, o2, hV, hX2, hO2⟩
          have hn2 := negs_le hV.len hV.old
          go_wp2_with fail
          go_roundw
          case rel => exact ⟨t + 1, o2, by omega, by go_num, Lib.hid (hp.out.next (by rw [List.getElem?_map, hu]; rfl) hj hV), by omega, hX2, hO.trans hO2 fun _ _ h => h⟩
          case measure => simp only [intOf]; omega
        · obtain rfl : t = nk := by omega
          go_wp2_with fail
          go_end0
          refine ⟨⟨_, rfl⟩, o', ?_, hX, HO1.trans hO fun _ _ h => h⟩
          have hp' := hp.out
          rw [show t = ((f k).map Int.toNat).length by rw [List.length_map]; exact Hnk.out.symm] at hp'
          exact hp'.all fun u hu => List.mem_map.2 ⟨(u : Int), (HNk.out _).2 ⟨u, rfl, hu⟩, rfl⟩
end Go.Proofs.YtaaeapjnjjbglaaGreatDoor.Lat
namespace Go.Proofs.YtaaeapjnjjbglaaGreatDoor.Lat
open Go.RowKit

def IntRes (l : List Int) (r : Int) (w : World) (e : Ending) (w' : World) : Prop := ∃ A cap, e = .returned (.tuple #[.slice A l.length cap, .int .i64 r]) ∧ IntsZ w' A cap l ∧ Ext w w'
/-- As IntRes; the row lies in a block of the call's own. -/
def IntNew (l : List Int) (r : Int) (w : World) (e : Ending) (w' : World) : Prop := ∃ A cap, e = .returned (.tuple #[.slice A l.length cap, .int .i64 r]) ∧ IntsZ w' A cap l ∧ (∀ q, A = some q → w.heap.size ≤ q.block) ∧ Ext w w'
theorem IntNew.res {l : List Int} {r : Int} {w : World} {e : Ending} {w' : World} : IntNew l r w e w' → IntRes l r w e w' := fun ⟨A, cap, h1, h2, _, h4⟩ => ⟨A, cap, h1, h2, h4⟩
structure Gr9 (W0 : World) (T n : Nat) (vs : Nat → Value) (f : Nat → List Int) (NB N X nc xa xb : Nat) (lk : Array Value) (A : Option Addr) (la ca : Nat) (B : Option Addr) (lb cb : Nat) (L : Nat → Bool) (us : Nat → Value) (w : World) : Prop where
  x : Ext W0 w
  g0 : Blk w X 84 lk
  g1 : Blk w N 82 #[.slice (some ⟨NB, 0, none⟩) n nc]
  g2 : L 14 = false → RowsO w T n vs f
  g3 : L 14 = true → L 23 = false → RowsO w T n (setF vs xa (us 14)) (setF f xa (f xa ++ [(xb : Int)]))
  g4 : L 23 = true → RowsO w T n (setF (setF vs xa (us 14)) xb (us 23)) (setF (setF f xa (f xa ++ [(xb : Int)])) xb (f xb ++ [(xa : Int)]))
  g5 : L 25 = false → Blk w NB 41 (vsA n vs)
  g6 : L 25 = true → L 27 = false → Blk w NB 41 (vsA n (setF vs xa (us 14)))
  g7 : L 27 = true → Blk w NB 41 (vsA n (setF (setF vs xa (us 14)) xb (us 23)))
  g8 : L 13 = true → L 14 = false → TmpO w n vs (bk (us 13)) xb
  g9 : L 22 = true → L 14 = false → TmpO w n vs (bk (us 22)) xa
  g10 : L 22 = true → L 14 = true → L 23 = false → TmpO w n (setF vs xa (us 14)) (bk (us 22)) xa
  f0 : L 0 = true → us 0 = .slice (some ⟨NB, 0, none⟩) n nc
  f1 : L 1 = true → us 1 = .pointer (some ⟨X, 0, none⟩)
  f2 : L 2 = true → us 2 = .int .i64 xa
  f3 : L 3 = true → us 3 = .slice (some ⟨NB, 0, none⟩) n nc
  f4 : L 4 = true → us 4 = .pointer (some ⟨X, 1, none⟩)
  f5 : L 5 = true → us 5 = .int .i64 xb
  f6 : L 6 = true → us 6 = .slice (some ⟨NB, 0, none⟩) n nc
  f7 : L 7 = true → us 7 = .pointer (some ⟨X, 0, none⟩)
  f8 : L 8 = true → us 8 = .int .i64 xa
  f9 : L 9 = true → us 9 = .pointer (some ⟨NB, xa, none⟩)
  f10 : L 10 = true → us 10 = .slice A la ca
  f11 : L 11 = true → us 11 = .pointer (some ⟨X, 1, none⟩)
  f12 : L 12 = true → us 12 = .int .i64 xb
  f13 : L 13 = true → us 13 = .slice (some ⟨bk (us 13), 0, none⟩) 1 1
  f15 : L 15 = true → us 15 = .slice (some ⟨NB, 0, none⟩) n nc
  f16 : L 16 = true → us 16 = .pointer (some ⟨X, 1, none⟩)
  f17 : L 17 = true → us 17 = .int .i64 xb
  f18 : L 18 = true → us 18 = .pointer (some ⟨NB, xb, none⟩)
  f19 : L 19 = true → us 19 = .slice B lb cb
  f20 : L 20 = true → us 20 = .pointer (some ⟨X, 0, none⟩)
  f21 : L 21 = true → us 21 = .int .i64 xa
  f22 : L 22 = true → us 22 = .slice (some ⟨bk (us 22), 0, none⟩) 1 1
  f24 : L 24 = true → us 24 = .pointer (some ⟨NB, xa, none⟩)
  f26 : L 26 = true → us 26 = .pointer (some ⟨NB, xb, none⟩)
set_option maxRecDepth 100000 in
set_option maxHeartbeats 16000000 in
theorem groupsN_c (qs : List (Knd × KAt)) (QA : Option Addr) (qc : Nat) (bs : List Brk) (B : Option Addr) (cb : Nat) (w : World) (hk : Kinds w QA qc qs) (hb : Bricks w B cb bs) (hcm : checkErr (qs.map (·.1)) bs = 0) (hlen : (linkL (qs.map (·.1)) bs).length ≤ 100000) :
    Calls Tryz.prog 10 #[.slice QA qs.length qc, .agg #[.slice B bs.length cb]] w (IntNew (natZ (groupL (linkL (qs.map (·.1)) bs) bs.length)) 0 w) := by
  have hf := mfine_of hk hb.2 (check_model hcm)
  have hbn := hf.n
  obtain ⟨W1, hW1, E1, B1, hz1⟩ := mk_ w #[.slice B bs.length cb] 31
  have b1 := B1.cell
  have CK := checkM_c qs QA qc bs B cb W1 (hk.ext E1) (hb.ext E1)
  rw [hcm] at CK
  have LK := Lib.hid (fun W (E : Ext w W) => links_c qs QA qc bs B cb W (hk.ext E) (hb.ext E) hcm)
  obtain ⟨ks, hks⟩ : ∃ ks, qs.map (·.1) = ks := ⟨_, rfl⟩
  rw [hks] at LK hlen ⊢
  have hwi := linkL_within (ks := ks) (bs := bs)
  have hmem := fun (k : Nat) (hk : k < (linkL ks bs).length) => mem_linkL.1 (lnkAt_mem (l := linkL ks bs) hk)
  obtain ⟨L, hL⟩ : ∃ L, linkL ks bs = L := ⟨_, rfl⟩
  rw [hL] at LK hwi hlen hmem ⊢
  obtain ⟨nq, hnq⟩ : ∃ m, qs.length = m := ⟨_, rfl⟩
  obtain ⟨nb, hnb⟩ : ∃ m, bs.length = m := ⟨_, rfl⟩
  obtain ⟨n, hn⟩ : ∃ m, L.length = m := ⟨_, rfl⟩
  rw [hnq] at CK LK ⊢
  rw [hnb] at CK LK B1 b1 hW1 hbn hwi ⊢
  rw [hn] at hlen hmem
  have Hn := Lib.hid hn
  have Hwi := Lib.hid hwi
  have Hmem := Lib.hid hmem
  have HE := Lib.hid E1
  have hmk1 := make_rows nb (by omega)
  have hmk2 := make_nums nb (by omega)
  clear hks hL hnq hnb hn hk hb hcm hz1 hf hwi hmem
  go_enter Tryz.func10, Tryz.ntmps10
  go_wp2_with fail
  clear hW1 b1
  refine CK.mono ?_
  rintro e W2 ⟨rfl, E2⟩
  have b2 := (B1.ext E2).cell
  go_wp2_with fail
  refine (LK.out _ (HE.out.trans E2)).mono ?_
  rintro e W3 ⟨LA, lc, PA, pc, gs, rfl, hLL, -, -, E3⟩
  rw [Hn.out]
  have E03 := (HE.out.trans E2).trans E3
  have B13 := (B1.ext E2).ext E3
  have b3 := B13.cell
  clear b2
  obtain ⟨iI, hiI, zI0, zI1, zI2⟩ := info_parts infoInt2
  obtain ⟨W4, hW4, E4, B4, hz4⟩ := mk_ W3 (vsA nb fun _ => nilV) 41
  obtain ⟨NB, hNB⟩ : ∃ g, W3.heap.size = g := ⟨_, rfl⟩
  rw [hNB] at B4 hz4
  obtain ⟨W5, hW5, E5, B5, hz5⟩ := mk_ W4 #[.slice (some ⟨NB, 0, none⟩) nb nb] 82
  rw [hz4] at B5 hz5
  have E35 := E4.trans E5
  have B45 := B4.ext E5
  have b3' := (B13.ext E4).cell
  go_upto_region 6 with (fail)
  clear b3 b3' hW4 hW5 hz4
  have HLL := Lib.hid hLL
  have HW3 := Lib.hid hNB
  obtain ⟨N, hN⟩ : ∃ g, NB + 1 = g := ⟨_, rfl⟩
  rw [hN] at B5 hz5 ⊢
  have HN := Lib.hid hN
  have HZ5 := Lib.hid hz5
  obtain ⟨T, hT⟩ : ∃ g, N + 1 = g := ⟨_, rfl⟩
  have HT := Lib.hid hT
  have R5 := RowsO.nil W5 T nb
  have HB13 := Lib.hid B13
  have HE03 := Lib.hid E03
  clear hNB hN hz5 hT hLL B4 E4 E5 hmk1 E1 E2 E3 B1 B13 E03 LK HE
  go_wp2_with fail
  go_loopw [34] (fun ii wr => ∃ (q : Nat) (vs : Nat → Value), q ≤ n ∧ ii = .int .i64 q ∧ Ext W3 wr ∧ Blk wr N 82 #[.slice (some ⟨NB, 0, none⟩) nb nb] ∧ Blk wr NB 41 (vsA nb vs) ∧ RowsO wr T nb vs (nbrs (L.take q))) (fun ii _ => n - (intOf ii).toNat)
  case atStart => exact ⟨0, fun _ => nilV, by omega, rfl, E35, B5, B45, R5⟩
  case round =>
    clear E35 B5 B45 R5
    obtain ⟨q, vs, hq, rfl, Er, BN, BNB, RO⟩ := hrel
    by_cases hqt : q < n
    · obtain ⟨lg, loff, hLA⟩ : ∃ g off, LA = some ⟨g, off, none⟩ := by
        obtain ⟨g, off, hA, -, -⟩ := SliceIs.cells HLL.out (by rw [Hn.out]; omega)
        exact ⟨g, off, hA⟩
      subst hLA
      have hlc : n ≤ lc := by have := HLL.out.le; rw [Hn.out] at this; exact this
      obtain ⟨c0, c1, c2, c3, c4⟩ := links_cell (HLL.out.ext Er) (k := q) (by rw [Hn.out]; exact hqt) rfl
      have hget := lnkAt_get (l := L) (k := q) (by rw [Hn.out]; exact hqt)
      have hws := Hwi.out _ (List.mem_of_getElem? hget)
      have hab := (Hmem.out q hqt).ab
      have hsu := nbrs_succ hget (by omega)
      obtain ⟨⟨xa, xb, xk, xo, xs⟩, hx⟩ : ∃ x, lnkAt L q = x := ⟨_, rfl⟩
      rw [hx] at c0 c1 c2 c3 c4 hws hab hsu
      simp only at c0 c1 c2 c3 c4 hws hab hsu
      obtain ⟨hxa, hxb⟩ := hws
      have hfl := nbrs_len (L.take q)
      have htl : (L.take q).length ≤ 100000 := by rw [List.length_take, Hn.out]; omega
      obtain ⟨f, hf⟩ : ∃ f, nbrs (L.take q) = f := ⟨_, rfl⟩
      rw [hf] at hsu RO hfl
      have Hsu := Lib.hid hsu
      obtain ⟨A, ca, hva⟩ := ownForm (RO.row xa hxa)
      obtain ⟨B, cb', hvb⟩ := ownForm (RO.row xb hxb)
      obtain ⟨la, hla⟩ : ∃ m, (f xa).length = m := ⟨_, rfl⟩
      obtain ⟨lb, hlb⟩ : ∃ m, (f xb).length = m := ⟨_, rfl⟩
      have hfa := hfl xa
      have hfb := hfl xb
      rw [hla] at hva hfa
      rw [hlb] at hvb hfb
      obtain ⟨W8, hW8, E8, B8, hz8⟩ := mk_ wr #[.int .i64 xa, .int .i64 xb, .int .i64 xk, .int .i64 xo, .int .u8 xs] 84
      obtain ⟨X, hX⟩ : ∃ g, wr.heap.size = g := ⟨_, rfl⟩
      rw [hX] at B8 hz8
      have HX8 := Lib.hid hX
      have BN8 := BN.ext E8
      have BNB8 := BNB.ext E8
      have RO8 := RO.ext E8
      have hXN : X ≠ NB := by have := BNB.lt; omega
      have hNX : X ≠ N := by have := BN.lt; omega
      have hNN : N ≠ NB := by have := HN.out; omega
      have hT3 : W3.heap.size ≤ T := by have := HW3.out; have := HN.out; have := HT.out; omega
      have hTX : T ≤ W8.heap.size := by have := BN.lt; have := HT.out; omega
      have Hne := Lib.hid (And.intro hXN (And.intro hNX (And.intro hNN (And.intro hT3 hTX))))
      have Hab := Lib.hid (show xb ≠ xa ∧ xa ≠ xb by omega)
      have Hxx := Lib.hid (And.intro hxa hxb)
      have Hva := Lib.hid hva
      have Hvb := Lib.hid hvb
      have Hla := Lib.hid hla
      have Hlb := Lib.hid hlb
      have Ha1 := Lib.hid (show la + 1 ≤ maxLen ∧ (la + 1) * 8 ≤ 140737488355328 by unfold maxLen; omega)
      have Hb1 := Lib.hid (show lb + 1 ≤ maxLen ∧ (lb + 1) * 8 ≤ 140737488355328 by unfold maxLen; omega)
      have q0 : (0 : Int) ≤ q := by omega
      have q1 : (q : Int) < n := by omega
      have q2 : (q : Int) < lc := by omega
      have a0 : (0 : Int) ≤ xa := by omega
      have a1 : (xa : Int) < nb := by omega
      have b0 : (0 : Int) ≤ xb := by omega
      have b1 : (xb : Int) < nb := by omega
      have EW8 := Er.trans E8
      clear hx hget hsu hf hva hvb hla hlb hX hz8 BN BNB RO E8 Er hXN hNX hNN hT3 hTX hfa hfb hfl htl hab hxa hxb
      go_upto_region 9 with (fail)
      rw [HX8.out]
      clear c0 c1 c2 c3 c4 hW8
      refine wp_region_byF (Gr9 W3 T nb vs f NB N X nb xa xb #[.int .i64 xa, .int .i64 xb, .int .i64 xk, .int .i64 xo, .int .u8 xs] A la ca B lb cb') (by intro us; simp only [putAll, Act.put, List.setIfInBounds_toArray, List.set_cons_succ, List.set_cons_zero, Nat.reduceAdd]; rfl) (by kernel_rfl) (by kernel_rfl) (by kernel_rfl) ⟨EW8.drew, B8.drew, BN8.drew, (fun _ => RO8.ext (Ext.refl _).drew), (nofun), (nofun), (fun _ => BNB8.drew), (nofun), (nofun), (nofun), (nofun), (nofun), (nofun), (nofun), (nofun), (nofun), (nofun), (nofun), (nofun), (nofun), (nofun), (nofun), (nofun), (nofun), (nofun), (nofun), (nofun), (nofun), (nofun), (nofun), (nofun), (nofun), (nofun), (nofun), (nofun), (nofun)⟩ ⟨?_, ?_, ?_, ?_, ?_, ?_, ?_, ?_, ?_, ?_, ?_, ?_, ?_, ?_, ?_, ?_, ?_, ?_, ?_, ?_, ?_, ?_, ?_, ?_, ?_, ?_, ?_, ?_, trivial⟩ ?_
      all_goals clear B8 BN8 BNB8 RO8 EW8
      · intro L us wx K a ha hp hd hun hI hK
        have HX := hI.x
        have bb := hI.g1.cell
        clear hp HX
        replace hd := Lib.hid hd
        subst ha
        simp only [Act.put, List.setIfInBounds_toArray, List.set_cons_succ, List.set_cons_zero] at hK
        go_simp
        refine hK _ _ ?_
        first
        | (refine ⟨hI.x, hI.g0, hI.g1, hI.g2, hI.g3, hI.g4, hI.g5, hI.g6, hI.g7, hI.g8, hI.g9, hI.g10, ?_, hI.f1, hI.f2, hI.f3, hI.f4, hI.f5, hI.f6, hI.f7, hI.f8, hI.f9, hI.f10, hI.f11, hI.f12, hI.f13, hI.f15, hI.f16, hI.f17, hI.f18, hI.f19, hI.f20, hI.f21, hI.f22, hI.f24, hI.f26⟩ <;> (first | exact fun _ => rfl | skip))
        | (refine ⟨?_, ?_, ?_, ?_, ?_, ?_, ?_, ?_, ?_, ?_, ?_, ?_, ?_, ?_, ?_, ?_, ?_, ?_, ?_, ?_, ?_, ?_, ?_, ?_, ?_, ?_, ?_, ?_, ?_, ?_, ?_, ?_, ?_, ?_, ?_, ?_⟩ <;> (first | exact hI.x | exact hI.g0 | exact hI.g1 | exact hI.g2 | exact hI.g3 | exact hI.g4 | exact hI.g5 | exact hI.g6 | exact hI.g7 | exact hI.g8 | exact hI.g9 | exact hI.g10 | exact hI.f0 | exact hI.f1 | exact hI.f2 | exact hI.f3 | exact hI.f4 | exact hI.f5 | exact hI.f6 | exact hI.f7 | exact hI.f8 | exact hI.f9 | exact hI.f10 | exact hI.f11 | exact hI.f12 | exact hI.f13 | exact hI.f15 | exact hI.f16 | exact hI.f17 | exact hI.f18 | exact hI.f19 | exact hI.f20 | exact hI.f21 | exact hI.f22 | exact hI.f24 | exact hI.f26 | exact fun _ => rfl | skip))
      · intro L us wx K a ha hp hd hun hI hK
        have HX := hI.x
        clear hp HX
        replace hd := Lib.hid hd
        subst ha
        simp only [Act.put, List.setIfInBounds_toArray, List.set_cons_succ, List.set_cons_zero] at hK
        go_simp
        refine hK _ _ ?_
        first
        | (refine ⟨hI.x, hI.g0, hI.g1, hI.g2, hI.g3, hI.g4, hI.g5, hI.g6, hI.g7, hI.g8, hI.g9, hI.g10, hI.f0, ?_, hI.f2, hI.f3, hI.f4, hI.f5, hI.f6, hI.f7, hI.f8, hI.f9, hI.f10, hI.f11, hI.f12, hI.f13, hI.f15, hI.f16, hI.f17, hI.f18, hI.f19, hI.f20, hI.f21, hI.f22, hI.f24, hI.f26⟩ <;> (first | exact fun _ => rfl | skip))
        | (refine ⟨?_, ?_, ?_, ?_, ?_, ?_, ?_, ?_, ?_, ?_, ?_, ?_, ?_, ?_, ?_, ?_, ?_, ?_, ?_, ?_, ?_, ?_, ?_, ?_, ?_, ?_, ?_, ?_, ?_, ?_, ?_, ?_, ?_, ?_, ?_, ?_⟩ <;> (first | exact hI.x | exact hI.g0 | exact hI.g1 | exact hI.g2 | exact hI.g3 | exact hI.g4 | exact hI.g5 | exact hI.g6 | exact hI.g7 | exact hI.g8 | exact hI.g9 | exact hI.g10 | exact hI.f0 | exact hI.f1 | exact hI.f2 | exact hI.f3 | exact hI.f4 | exact hI.f5 | exact hI.f6 | exact hI.f7 | exact hI.f8 | exact hI.f9 | exact hI.f10 | exact hI.f11 | exact hI.f12 | exact hI.f13 | exact hI.f15 | exact hI.f16 | exact hI.f17 | exact hI.f18 | exact hI.f19 | exact hI.f20 | exact hI.f21 | exact hI.f22 | exact hI.f24 | exact hI.f26 | exact fun _ => rfl | skip))
      · intro L us wx K a ha hp hd hun hI hK
        have HX := hI.x
        have u1 := hI.f1 (hp 1 (by kernel_rfl))
        have bb := hI.g0.cell
        clear hp HX
        replace hd := Lib.hid hd
        simp only [u1] at ha
        subst ha
        simp only [Act.put, List.setIfInBounds_toArray, List.set_cons_succ, List.set_cons_zero] at hK
        go_simp
        refine hK _ _ ?_
        first
        | (refine ⟨hI.x, hI.g0, hI.g1, hI.g2, hI.g3, hI.g4, hI.g5, hI.g6, hI.g7, hI.g8, hI.g9, hI.g10, hI.f0, hI.f1, ?_, hI.f3, hI.f4, hI.f5, hI.f6, hI.f7, hI.f8, hI.f9, hI.f10, hI.f11, hI.f12, hI.f13, hI.f15, hI.f16, hI.f17, hI.f18, hI.f19, hI.f20, hI.f21, hI.f22, hI.f24, hI.f26⟩ <;> (first | exact fun _ => rfl | skip))
        | (refine ⟨?_, ?_, ?_, ?_, ?_, ?_, ?_, ?_, ?_, ?_, ?_, ?_, ?_, ?_, ?_, ?_, ?_, ?_, ?_, ?_, ?_, ?_, ?_, ?_, ?_, ?_, ?_, ?_, ?_, ?_, ?_, ?_, ?_, ?_, ?_, ?_⟩ <;> (first | exact hI.x | exact hI.g0 | exact hI.g1 | exact hI.g2 | exact hI.g3 | exact hI.g4 | exact hI.g5 | exact hI.g6 | exact hI.g7 | exact hI.g8 | exact hI.g9 | exact hI.g10 | exact hI.f0 | exact hI.f1 | exact hI.f2 | exact hI.f3 | exact hI.f4 | exact hI.f5 | exact hI.f6 | exact hI.f7 | exact hI.f8 | exact hI.f9 | exact hI.f10 | exact hI.f11 | exact hI.f12 | exact hI.f13 | exact hI.f15 | exact hI.f16 | exact hI.f17 | exact hI.f18 | exact hI.f19 | exact hI.f20 | exact hI.f21 | exact hI.f22 | exact hI.f24 | exact hI.f26 | exact fun _ => rfl | skip))
      · intro L us wx K a ha hp hd hun hI hK
        have HX := hI.x
        have bb := hI.g1.cell
        clear hp HX
        replace hd := Lib.hid hd
        subst ha
        simp only [Act.put, List.setIfInBounds_toArray, List.set_cons_succ, List.set_cons_zero] at hK
        go_simp
        refine hK _ _ ?_
        first
        | (refine ⟨hI.x, hI.g0, hI.g1, hI.g2, hI.g3, hI.g4, hI.g5, hI.g6, hI.g7, hI.g8, hI.g9, hI.g10, hI.f0, hI.f1, hI.f2, ?_, hI.f4, hI.f5, hI.f6, hI.f7, hI.f8, hI.f9, hI.f10, hI.f11, hI.f12, hI.f13, hI.f15, hI.f16, hI.f17, hI.f18, hI.f19, hI.f20, hI.f21, hI.f22, hI.f24, hI.f26⟩ <;> (first | exact fun _ => rfl | skip))
        | (refine ⟨?_, ?_, ?_, ?_, ?_, ?_, ?_, ?_, ?_, ?_, ?_, ?_, ?_, ?_, ?_, ?_, ?_, ?_, ?_, ?_, ?_, ?_, ?_, ?_, ?_, ?_, ?_, ?_, ?_, ?_, ?_, ?_, ?_, ?_, ?_, ?_⟩ <;> (first | exact hI.x | exact hI.g0 | exact hI.g1 | exact hI.g2 | exact hI.g3 | exact hI.g4 | exact hI.g5 | exact hI.g6 | exact hI.g7 | exact hI.g8 | exact hI.g9 | exact hI.g10 | exact hI.f0 | exact hI.f1 | exact hI.f2 | exact hI.f3 | exact hI.f4 | exact hI.f5 | exact hI.f6 | exact hI.f7 | exact hI.f8 | exact hI.f9 | exact hI.f10 | exact hI.f11 | exact hI.f12 | exact hI.f13 | exact hI.f15 | exact hI.f16 | exact hI.f17 | exact hI.f18 | exact hI.f19 | exact hI.f20 | exact hI.f21 | exact hI.f22 | exact hI.f24 | exact hI.f26 | exact fun _ => rfl | skip))
      · intro L us wx K a ha hp hd hun hI hK
        have HX := hI.x
        clear hp HX
        replace hd := Lib.hid hd
        subst ha
        simp only [Act.put, List.setIfInBounds_toArray, List.set_cons_succ, List.set_cons_zero] at hK
        go_simp
        refine hK _ _ ?_
        first
        | (refine ⟨hI.x, hI.g0, hI.g1, hI.g2, hI.g3, hI.g4, hI.g5, hI.g6, hI.g7, hI.g8, hI.g9, hI.g10, hI.f0, hI.f1, hI.f2, hI.f3, ?_, hI.f5, hI.f6, hI.f7, hI.f8, hI.f9, hI.f10, hI.f11, hI.f12, hI.f13, hI.f15, hI.f16, hI.f17, hI.f18, hI.f19, hI.f20, hI.f21, hI.f22, hI.f24, hI.f26⟩ <;> (first | exact fun _ => rfl | skip))
        | (refine ⟨?_, ?_, ?_, ?_, ?_, ?_, ?_, ?_, ?_, ?_, ?_, ?_, ?_, ?_, ?_, ?_, ?_, ?_, ?_, ?_, ?_, ?_, ?_, ?_, ?_, ?_, ?_, ?_, ?_, ?_, ?_, ?_, ?_, ?_, ?_, ?_⟩ <;> (first | exact hI.x | exact hI.g0 | exact hI.g1 | exact hI.g2 | exact hI.g3 | exact hI.g4 | exact hI.g5 | exact hI.g6 | exact hI.g7 | exact hI.g8 | exact hI.g9 | exact hI.g10 | exact hI.f0 | exact hI.f1 | exact hI.f2 | exact hI.f3 | exact hI.f4 | exact hI.f5 | exact hI.f6 | exact hI.f7 | exact hI.f8 | exact hI.f9 | exact hI.f10 | exact hI.f11 | exact hI.f12 | exact hI.f13 | exact hI.f15 | exact hI.f16 | exact hI.f17 | exact hI.f18 | exact hI.f19 | exact hI.f20 | exact hI.f21 | exact hI.f22 | exact hI.f24 | exact hI.f26 | exact fun _ => rfl | skip))
      · intro L us wx K a ha hp hd hun hI hK
        have HX := hI.x
        have u4 := hI.f4 (hp 4 (by kernel_rfl))
        have bb := hI.g0.cell
        clear hp HX
        replace hd := Lib.hid hd
        simp only [u4] at ha
        subst ha
        simp only [Act.put, List.setIfInBounds_toArray, List.set_cons_succ, List.set_cons_zero] at hK
        go_simp
        refine hK _ _ ?_
        first
        | (refine ⟨hI.x, hI.g0, hI.g1, hI.g2, hI.g3, hI.g4, hI.g5, hI.g6, hI.g7, hI.g8, hI.g9, hI.g10, hI.f0, hI.f1, hI.f2, hI.f3, hI.f4, ?_, hI.f6, hI.f7, hI.f8, hI.f9, hI.f10, hI.f11, hI.f12, hI.f13, hI.f15, hI.f16, hI.f17, hI.f18, hI.f19, hI.f20, hI.f21, hI.f22, hI.f24, hI.f26⟩ <;> (first | exact fun _ => rfl | skip))
        | (refine ⟨?_, ?_, ?_, ?_, ?_, ?_, ?_, ?_, ?_, ?_, ?_, ?_, ?_, ?_, ?_, ?_, ?_, ?_, ?_, ?_, ?_, ?_, ?_, ?_, ?_, ?_, ?_, ?_, ?_, ?_, ?_, ?_, ?_, ?_, ?_, ?_⟩ <;> (first | exact hI.x | exact hI.g0 | exact hI.g1 | exact hI.g2 | exact hI.g3 | exact hI.g4 | exact hI.g5 | exact hI.g6 | exact hI.g7 | exact hI.g8 | exact hI.g9 | exact hI.g10 | exact hI.f0 | exact hI.f1 | exact hI.f2 | exact hI.f3 | exact hI.f4 | exact hI.f5 | exact hI.f6 | exact hI.f7 | exact hI.f8 | exact hI.f9 | exact hI.f10 | exact hI.f11 | exact hI.f12 | exact hI.f13 | exact hI.f15 | exact hI.f16 | exact hI.f17 | exact hI.f18 | exact hI.f19 | exact hI.f20 | exact hI.f21 | exact hI.f22 | exact hI.f24 | exact hI.f26 | exact fun _ => rfl | skip))
      · intro L us wx K a ha hp hd hun hI hK
        have HX := hI.x
        have bb := hI.g1.cell
        clear hp HX
        replace hd := Lib.hid hd
        subst ha
        simp only [Act.put, List.setIfInBounds_toArray, List.set_cons_succ, List.set_cons_zero] at hK
        go_simp
        refine hK _ _ ?_
        first
        | (refine ⟨hI.x, hI.g0, hI.g1, hI.g2, hI.g3, hI.g4, hI.g5, hI.g6, hI.g7, hI.g8, hI.g9, hI.g10, hI.f0, hI.f1, hI.f2, hI.f3, hI.f4, hI.f5, ?_, hI.f7, hI.f8, hI.f9, hI.f10, hI.f11, hI.f12, hI.f13, hI.f15, hI.f16, hI.f17, hI.f18, hI.f19, hI.f20, hI.f21, hI.f22, hI.f24, hI.f26⟩ <;> (first | exact fun _ => rfl | skip))
        | (refine ⟨?_, ?_, ?_, ?_, ?_, ?_, ?_, ?_, ?_, ?_, ?_, ?_, ?_, ?_, ?_, ?_, ?_, ?_, ?_, ?_, ?_, ?_, ?_, ?_, ?_, ?_, ?_, ?_, ?_, ?_, ?_, ?_, ?_, ?_, ?_, ?_⟩ <;> (first | exact hI.x | exact hI.g0 | exact hI.g1 | exact hI.g2 | exact hI.g3 | exact hI.g4 | exact hI.g5 | exact hI.g6 | exact hI.g7 | exact hI.g8 | exact hI.g9 | exact hI.g10 | exact hI.f0 | exact hI.f1 | exact hI.f2 | exact hI.f3 | exact hI.f4 | exact hI.f5 | exact hI.f6 | exact hI.f7 | exact hI.f8 | exact hI.f9 | exact hI.f10 | exact hI.f11 | exact hI.f12 | exact hI.f13 | exact hI.f15 | exact hI.f16 | exact hI.f17 | exact hI.f18 | exact hI.f19 | exact hI.f20 | exact hI.f21 | exact hI.f22 | exact hI.f24 | exact hI.f26 | exact fun _ => rfl | skip))
      · intro L us wx K a ha hp hd hun hI hK
        have HX := hI.x
        clear hp HX
        replace hd := Lib.hid hd
        subst ha
        simp only [Act.put, List.setIfInBounds_toArray, List.set_cons_succ, List.set_cons_zero] at hK
        go_simp
        refine hK _ _ ?_
        first
        | (refine ⟨hI.x, hI.g0, hI.g1, hI.g2, hI.g3, hI.g4, hI.g5, hI.g6, hI.g7, hI.g8, hI.g9, hI.g10, hI.f0, hI.f1, hI.f2, hI.f3, hI.f4, hI.f5, hI.f6, ?_, hI.f8, hI.f9, hI.f10, hI.f11, hI.f12, hI.f13, hI.f15, hI.f16, hI.f17, hI.f18, hI.f19, hI.f20, hI.f21, hI.f22, hI.f24, hI.f26⟩ <;> (first | exact fun _ => rfl | skip))
        | (refine ⟨?_, ?_, ?_, ?_, ?_, ?_, ?_, ?_, ?_, ?_, ?_, ?_, ?_, ?_, ?_, ?_, ?_, ?_, ?_, ?_, ?_, ?_, ?_, ?_, ?_, ?_, ?_, ?_, ?_, ?_, ?_, ?_, ?_, ?_, ?_, ?_⟩ <;> (first | exact hI.x | exact hI.g0 | exact hI.g1 | exact hI.g2 | exact hI.g3 | exact hI.g4 | exact hI.g5 | exact hI.g6 | exact hI.g7 | exact hI.g8 | exact hI.g9 | exact hI.g10 | exact hI.f0 | exact hI.f1 | exact hI.f2 | exact hI.f3 | exact hI.f4 | exact hI.f5 | exact hI.f6 | exact hI.f7 | exact hI.f8 | exact hI.f9 | exact hI.f10 | exact hI.f11 | exact hI.f12 | exact hI.f13 | exact hI.f15 | exact hI.f16 | exact hI.f17 | exact hI.f18 | exact hI.f19 | exact hI.f20 | exact hI.f21 | exact hI.f22 | exact hI.f24 | exact hI.f26 | exact fun _ => rfl | skip))
      · intro L us wx K a ha hp hd hun hI hK
        have HX := hI.x
        have u7 := hI.f7 (hp 7 (by kernel_rfl))
        have bb := hI.g0.cell
        clear hp HX
        replace hd := Lib.hid hd
        simp only [u7] at ha
        subst ha
        simp only [Act.put, List.setIfInBounds_toArray, List.set_cons_succ, List.set_cons_zero] at hK
        go_simp
        refine hK _ _ ?_
        first
        | (refine ⟨hI.x, hI.g0, hI.g1, hI.g2, hI.g3, hI.g4, hI.g5, hI.g6, hI.g7, hI.g8, hI.g9, hI.g10, hI.f0, hI.f1, hI.f2, hI.f3, hI.f4, hI.f5, hI.f6, hI.f7, ?_, hI.f9, hI.f10, hI.f11, hI.f12, hI.f13, hI.f15, hI.f16, hI.f17, hI.f18, hI.f19, hI.f20, hI.f21, hI.f22, hI.f24, hI.f26⟩ <;> (first | exact fun _ => rfl | skip))
        | (refine ⟨?_, ?_, ?_, ?_, ?_, ?_, ?_, ?_, ?_, ?_, ?_, ?_, ?_, ?_, ?_, ?_, ?_, ?_, ?_, ?_, ?_, ?_, ?_, ?_, ?_, ?_, ?_, ?_, ?_, ?_, ?_, ?_, ?_, ?_, ?_, ?_⟩ <;> (first | exact hI.x | exact hI.g0 | exact hI.g1 | exact hI.g2 | exact hI.g3 | exact hI.g4 | exact hI.g5 | exact hI.g6 | exact hI.g7 | exact hI.g8 | exact hI.g9 | exact hI.g10 | exact hI.f0 | exact hI.f1 | exact hI.f2 | exact hI.f3 | exact hI.f4 | exact hI.f5 | exact hI.f6 | exact hI.f7 | exact hI.f8 | exact hI.f9 | exact hI.f10 | exact hI.f11 | exact hI.f12 | exact hI.f13 | exact hI.f15 | exact hI.f16 | exact hI.f17 | exact hI.f18 | exact hI.f19 | exact hI.f20 | exact hI.f21 | exact hI.f22 | exact hI.f24 | exact hI.f26 | exact fun _ => rfl | skip))
      · intro L us wx K a ha hp hd hun hI hK
        have HX := hI.x
        have u6 := hI.f6 (hp 6 (by kernel_rfl))
        have u8 := hI.f8 (hp 8 (by kernel_rfl))
        clear hp HX
        replace hd := Lib.hid hd
        simp only [u6, u8] at ha
        subst ha
        simp only [Act.put, List.setIfInBounds_toArray, List.set_cons_succ, List.set_cons_zero] at hK
        go_simp
        refine hK _ _ ?_
        first
        | (refine ⟨hI.x, hI.g0, hI.g1, hI.g2, hI.g3, hI.g4, hI.g5, hI.g6, hI.g7, hI.g8, hI.g9, hI.g10, hI.f0, hI.f1, hI.f2, hI.f3, hI.f4, hI.f5, hI.f6, hI.f7, hI.f8, ?_, hI.f10, hI.f11, hI.f12, hI.f13, hI.f15, hI.f16, hI.f17, hI.f18, hI.f19, hI.f20, hI.f21, hI.f22, hI.f24, hI.f26⟩ <;> (first | exact fun _ => rfl | skip))
        | (refine ⟨?_, ?_, ?_, ?_, ?_, ?_, ?_, ?_, ?_, ?_, ?_, ?_, ?_, ?_, ?_, ?_, ?_, ?_, ?_, ?_, ?_, ?_, ?_, ?_, ?_, ?_, ?_, ?_, ?_, ?_, ?_, ?_, ?_, ?_, ?_, ?_⟩ <;> (first | exact hI.x | exact hI.g0 | exact hI.g1 | exact hI.g2 | exact hI.g3 | exact hI.g4 | exact hI.g5 | exact hI.g6 | exact hI.g7 | exact hI.g8 | exact hI.g9 | exact hI.g10 | exact hI.f0 | exact hI.f1 | exact hI.f2 | exact hI.f3 | exact hI.f4 | exact hI.f5 | exact hI.f6 | exact hI.f7 | exact hI.f8 | exact hI.f9 | exact hI.f10 | exact hI.f11 | exact hI.f12 | exact hI.f13 | exact hI.f15 | exact hI.f16 | exact hI.f17 | exact hI.f18 | exact hI.f19 | exact hI.f20 | exact hI.f21 | exact hI.f22 | exact hI.f24 | exact hI.f26 | exact fun _ => rfl | skip))
      · intro L us wx K a ha hp hd hun hI hK
        have HX := hI.x
        have u9 := hI.f9 (hp 9 (by kernel_rfl))
        have h25 : L 25 = false := Bool.eq_false_iff.2 fun hl => absurd (hd 25 10 hl (by kernel_rfl)) (by rw [hun]; decide)
        have bb := (hI.g5 h25).cell xa
        rw [vsA_get vs Hxx.out.1, Hva.out] at bb
        clear hp HX
        replace hd := Lib.hid hd
        simp only [u9] at ha
        subst ha
        simp only [Act.put, List.setIfInBounds_toArray, List.set_cons_succ, List.set_cons_zero] at hK
        go_simp
        refine hK _ _ ?_
        first
        | (refine ⟨hI.x, hI.g0, hI.g1, hI.g2, hI.g3, hI.g4, hI.g5, hI.g6, hI.g7, hI.g8, hI.g9, hI.g10, hI.f0, hI.f1, hI.f2, hI.f3, hI.f4, hI.f5, hI.f6, hI.f7, hI.f8, hI.f9, ?_, hI.f11, hI.f12, hI.f13, hI.f15, hI.f16, hI.f17, hI.f18, hI.f19, hI.f20, hI.f21, hI.f22, hI.f24, hI.f26⟩ <;> (first | exact fun _ => rfl | skip))
        | (refine ⟨?_, ?_, ?_, ?_, ?_, ?_, ?_, ?_, ?_, ?_, ?_, ?_, ?_, ?_, ?_, ?_, ?_, ?_, ?_, ?_, ?_, ?_, ?_, ?_, ?_, ?_, ?_, ?_, ?_, ?_, ?_, ?_, ?_, ?_, ?_, ?_⟩ <;> (first | exact hI.x | exact hI.g0 | exact hI.g1 | exact hI.g2 | exact hI.g3 | exact hI.g4 | exact hI.g5 | exact hI.g6 | exact hI.g7 | exact hI.g8 | exact hI.g9 | exact hI.g10 | exact hI.f0 | exact hI.f1 | exact hI.f2 | exact hI.f3 | exact hI.f4 | exact hI.f5 | exact hI.f6 | exact hI.f7 | exact hI.f8 | exact hI.f9 | exact hI.f10 | exact hI.f11 | exact hI.f12 | exact hI.f13 | exact hI.f15 | exact hI.f16 | exact hI.f17 | exact hI.f18 | exact hI.f19 | exact hI.f20 | exact hI.f21 | exact hI.f22 | exact hI.f24 | exact hI.f26 | exact fun _ => rfl | skip))
      · intro L us wx K a ha hp hd hun hI hK
        have HX := hI.x
        clear hp HX
        replace hd := Lib.hid hd
        subst ha
        simp only [Act.put, List.setIfInBounds_toArray, List.set_cons_succ, List.set_cons_zero] at hK
        go_simp
        refine hK _ _ ?_
        first
        | (refine ⟨hI.x, hI.g0, hI.g1, hI.g2, hI.g3, hI.g4, hI.g5, hI.g6, hI.g7, hI.g8, hI.g9, hI.g10, hI.f0, hI.f1, hI.f2, hI.f3, hI.f4, hI.f5, hI.f6, hI.f7, hI.f8, hI.f9, hI.f10, ?_, hI.f12, hI.f13, hI.f15, hI.f16, hI.f17, hI.f18, hI.f19, hI.f20, hI.f21, hI.f22, hI.f24, hI.f26⟩ <;> (first | exact fun _ => rfl | skip))
        | (refine ⟨?_, ?_, ?_, ?_, ?_, ?_, ?_, ?_, ?_, ?_, ?_, ?_, ?_, ?_, ?_, ?_, ?_, ?_, ?_, ?_, ?_, ?_, ?_, ?_, ?_, ?_, ?_, ?_, ?_, ?_, ?_, ?_, ?_, ?_, ?_, ?_⟩ <;> (first | exact hI.x | exact hI.g0 | exact hI.g1 | exact hI.g2 | exact hI.g3 | exact hI.g4 | exact hI.g5 | exact hI.g6 | exact hI.g7 | exact hI.g8 | exact hI.g9 | exact hI.g10 | exact hI.f0 | exact hI.f1 | exact hI.f2 | exact hI.f3 | exact hI.f4 | exact hI.f5 | exact hI.f6 | exact hI.f7 | exact hI.f8 | exact hI.f9 | exact hI.f10 | exact hI.f11 | exact hI.f12 | exact hI.f13 | exact hI.f15 | exact hI.f16 | exact hI.f17 | exact hI.f18 | exact hI.f19 | exact hI.f20 | exact hI.f21 | exact hI.f22 | exact hI.f24 | exact hI.f26 | exact fun _ => rfl | skip))
      · intro L us wx K a ha hp hd hun hI hK
        have HX := hI.x
        have u11 := hI.f11 (hp 11 (by kernel_rfl))
        have bb := hI.g0.cell
        clear hp HX
        replace hd := Lib.hid hd
        simp only [u11] at ha
        subst ha
        simp only [Act.put, List.setIfInBounds_toArray, List.set_cons_succ, List.set_cons_zero] at hK
        go_simp
        refine hK _ _ ?_
        first
        | (refine ⟨hI.x, hI.g0, hI.g1, hI.g2, hI.g3, hI.g4, hI.g5, hI.g6, hI.g7, hI.g8, hI.g9, hI.g10, hI.f0, hI.f1, hI.f2, hI.f3, hI.f4, hI.f5, hI.f6, hI.f7, hI.f8, hI.f9, hI.f10, hI.f11, ?_, hI.f13, hI.f15, hI.f16, hI.f17, hI.f18, hI.f19, hI.f20, hI.f21, hI.f22, hI.f24, hI.f26⟩ <;> (first | exact fun _ => rfl | skip))
        | (refine ⟨?_, ?_, ?_, ?_, ?_, ?_, ?_, ?_, ?_, ?_, ?_, ?_, ?_, ?_, ?_, ?_, ?_, ?_, ?_, ?_, ?_, ?_, ?_, ?_, ?_, ?_, ?_, ?_, ?_, ?_, ?_, ?_, ?_, ?_, ?_, ?_⟩ <;> (first | exact hI.x | exact hI.g0 | exact hI.g1 | exact hI.g2 | exact hI.g3 | exact hI.g4 | exact hI.g5 | exact hI.g6 | exact hI.g7 | exact hI.g8 | exact hI.g9 | exact hI.g10 | exact hI.f0 | exact hI.f1 | exact hI.f2 | exact hI.f3 | exact hI.f4 | exact hI.f5 | exact hI.f6 | exact hI.f7 | exact hI.f8 | exact hI.f9 | exact hI.f10 | exact hI.f11 | exact hI.f12 | exact hI.f13 | exact hI.f15 | exact hI.f16 | exact hI.f17 | exact hI.f18 | exact hI.f19 | exact hI.f20 | exact hI.f21 | exact hI.f22 | exact hI.f24 | exact hI.f26 | exact fun _ => rfl | skip))
      · intro L' us wx K a ha hp hd hun hI hK
        have u12 := hI.f12 (hp 12 (by kernel_rfl))
        have h14 : L' 14 = false := Bool.eq_false_iff.2 fun hl => absurd (hd 14 13 hl (by kernel_rfl)) (by rw [hun]; decide)
        replace hd := Lib.hid hd
        simp only [u12] at ha
        subst ha
        simp only [Act.put, List.setIfInBounds_toArray, List.set_cons_succ, List.set_cons_zero] at hK
        go_simp
        refine hK _ _ ?_
        have EA := (Ext.refl wx).alloc (.cells #[.int .i64 xb] 3)
        refine ⟨hI.x.trans EA, hI.g0.ext EA, hI.g1.ext EA, (fun h => (hI.g2 h).ext EA), (fun h k => (hI.g3 h k).ext EA), (fun h => (hI.g4 h).ext EA), (fun h => (hI.g5 h).ext EA), (fun h k => (hI.g6 h k).ext EA), (fun h => (hI.g7 h).ext EA), (fun _ _ => TmpO.new (hI.g2 h14) _), (fun h k => (hI.g9 h k).ext EA), (fun h k l => (hI.g10 h k l).ext EA), hI.f0, hI.f1, hI.f2, hI.f3, hI.f4, hI.f5, hI.f6, hI.f7, hI.f8, hI.f9, hI.f10, hI.f11, hI.f12, (fun _ => rfl), hI.f15, hI.f16, hI.f17, hI.f18, hI.f19, hI.f20, hI.f21, hI.f22, hI.f24, hI.f26⟩
      · intro L' us wx K a ha hp hd hun hI hK
        have u10 := hI.f10 (hp 10 (by kernel_rfl))
        have h13 := hp 13 (by kernel_rfl)
        have u13 := hI.f13 h13
        have rows := hI.g2 hun
        have own := rows.row xa Hxx.out.1
        rw [Hva.out, Hla.out] at own
        have ht := hI.g8 h13 hun
        obtain ⟨gq, hgq⟩ : ∃ gq, bk (us 13) = gq := ⟨_, rfl⟩
        rw [hgq] at u13 ht
        clear hgq
        have hbc := ht.b.cell
        have h23 : L' 23 = false := Bool.eq_false_iff.2 fun hl => absurd (hd 23 14 hl (by kernel_rfl)) (by rw [hun]; decide)
        have h25 : L' 25 = false := Bool.eq_false_iff.2 fun hl => absurd (hd 25 14 hl (by kernel_rfl)) (by rw [hun]; decide)
        have h27 : L' 27 = false := Bool.eq_false_iff.2 fun hl => absurd (hd 27 25 hl (by kernel_rfl)) (by rw [h25]; decide)
        have hUx : T ≤ wx.heap.size := by have := hI.g1.lt; have := HT.out; omega
        replace hd := Lib.hid hd
        simp only [u10, u13] at ha
        subst ha
        simp only [Act.put, List.setIfInBounds_toArray, List.set_cons_succ, List.set_cons_zero] at hK
        refine step_append_fate rfl (.tmp 48) (.tmp 51) 41 rfl T 3 iI _ 1 8 Tryz.underlying41 hiI zI0 zI1 zI2 rfl (by decide) (.slice A la ca) la _ rfl own gq 1 [.int .i64 xb] rfl rfl (fun k => by rw [hbc]; rcases k with _ | _ <;> rfl) (by simp [Value.oneCell']) Ha1.out.1 Ha1.out.2 hUx ?_
        intro v' w' hf
        have hf' : Fate wx w' T 3 1 (vs xa) v' (f xa).length ((f xa).map numC) [numC xb] := by rw [Hva.out, Hla.out]; exact hf
        refine hK _ _ ⟨hI.x.fate own Hne.out.2.2.2.1 hf, hI.g0.fate own hf (by decide), hI.g1.fate own hf (by decide), (fun h => nomatch (show true = false from h)), (fun _ _ => rows.step Hxx.out.1 hf'), (fun h => absurd (show L' 23 = true from h) (by rw [h23]; decide)), (fun _ => (hI.g5 h25).fate own hf (by decide)), (fun h => absurd (show L' 25 = true from h) (by rw [h25]; decide)), (fun h => absurd (show L' 27 = true from h) (by rw [h27]; decide)), (fun _ h => nomatch (show true = false from h)), (fun _ h => nomatch (show true = false from h)), (fun h _ _ => (hI.g9 h hun).step Hxx.out.1 hf'), hI.f0, hI.f1, hI.f2, hI.f3, hI.f4, hI.f5, hI.f6, hI.f7, hI.f8, hI.f9, hI.f10, hI.f11, hI.f12, hI.f13, hI.f15, hI.f16, hI.f17, hI.f18, hI.f19, hI.f20, hI.f21, hI.f22, hI.f24, hI.f26⟩
      · intro L us wx K a ha hp hd hun hI hK
        have HX := hI.x
        have bb := hI.g1.cell
        clear hp HX
        replace hd := Lib.hid hd
        subst ha
        simp only [Act.put, List.setIfInBounds_toArray, List.set_cons_succ, List.set_cons_zero] at hK
        go_simp
        refine hK _ _ ?_
        first
        | (refine ⟨hI.x, hI.g0, hI.g1, hI.g2, hI.g3, hI.g4, hI.g5, hI.g6, hI.g7, hI.g8, hI.g9, hI.g10, hI.f0, hI.f1, hI.f2, hI.f3, hI.f4, hI.f5, hI.f6, hI.f7, hI.f8, hI.f9, hI.f10, hI.f11, hI.f12, hI.f13, ?_, hI.f16, hI.f17, hI.f18, hI.f19, hI.f20, hI.f21, hI.f22, hI.f24, hI.f26⟩ <;> (first | exact fun _ => rfl | skip))
        | (refine ⟨?_, ?_, ?_, ?_, ?_, ?_, ?_, ?_, ?_, ?_, ?_, ?_, ?_, ?_, ?_, ?_, ?_, ?_, ?_, ?_, ?_, ?_, ?_, ?_, ?_, ?_, ?_, ?_, ?_, ?_, ?_, ?_, ?_, ?_, ?_, ?_⟩ <;> (first | exact hI.x | exact hI.g0 | exact hI.g1 | exact hI.g2 | exact hI.g3 | exact hI.g4 | exact hI.g5 | exact hI.g6 | exact hI.g7 | exact hI.g8 | exact hI.g9 | exact hI.g10 | exact hI.f0 | exact hI.f1 | exact hI.f2 | exact hI.f3 | exact hI.f4 | exact hI.f5 | exact hI.f6 | exact hI.f7 | exact hI.f8 | exact hI.f9 | exact hI.f10 | exact hI.f11 | exact hI.f12 | exact hI.f13 | exact hI.f15 | exact hI.f16 | exact hI.f17 | exact hI.f18 | exact hI.f19 | exact hI.f20 | exact hI.f21 | exact hI.f22 | exact hI.f24 | exact hI.f26 | exact fun _ => rfl | skip))
      · intro L us wx K a ha hp hd hun hI hK
        have HX := hI.x
        clear hp HX
        replace hd := Lib.hid hd
        subst ha
        simp only [Act.put, List.setIfInBounds_toArray, List.set_cons_succ, List.set_cons_zero] at hK
        go_simp
        refine hK _ _ ?_
        first
        | (refine ⟨hI.x, hI.g0, hI.g1, hI.g2, hI.g3, hI.g4, hI.g5, hI.g6, hI.g7, hI.g8, hI.g9, hI.g10, hI.f0, hI.f1, hI.f2, hI.f3, hI.f4, hI.f5, hI.f6, hI.f7, hI.f8, hI.f9, hI.f10, hI.f11, hI.f12, hI.f13, hI.f15, ?_, hI.f17, hI.f18, hI.f19, hI.f20, hI.f21, hI.f22, hI.f24, hI.f26⟩ <;> (first | exact fun _ => rfl | skip))
        | (refine ⟨?_, ?_, ?_, ?_, ?_, ?_, ?_, ?_, ?_, ?_, ?_, ?_, ?_, ?_, ?_, ?_, ?_, ?_, ?_, ?_, ?_, ?_, ?_, ?_, ?_, ?_, ?_, ?_, ?_, ?_, ?_, ?_, ?_, ?_, ?_, ?_⟩ <;> (first | exact hI.x | exact hI.g0 | exact hI.g1 | exact hI.g2 | exact hI.g3 | exact hI.g4 | exact hI.g5 | exact hI.g6 | exact hI.g7 | exact hI.g8 | exact hI.g9 | exact hI.g10 | exact hI.f0 | exact hI.f1 | exact hI.f2 | exact hI.f3 | exact hI.f4 | exact hI.f5 | exact hI.f6 | exact hI.f7 | exact hI.f8 | exact hI.f9 | exact hI.f10 | exact hI.f11 | exact hI.f12 | exact hI.f13 | exact hI.f15 | exact hI.f16 | exact hI.f17 | exact hI.f18 | exact hI.f19 | exact hI.f20 | exact hI.f21 | exact hI.f22 | exact hI.f24 | exact hI.f26 | exact fun _ => rfl | skip))
      · intro L us wx K a ha hp hd hun hI hK
        have HX := hI.x
        have u16 := hI.f16 (hp 16 (by kernel_rfl))
        have bb := hI.g0.cell
        clear hp HX
        replace hd := Lib.hid hd
        simp only [u16] at ha
        subst ha
        simp only [Act.put, List.setIfInBounds_toArray, List.set_cons_succ, List.set_cons_zero] at hK
        go_simp
        refine hK _ _ ?_
        first
        | (refine ⟨hI.x, hI.g0, hI.g1, hI.g2, hI.g3, hI.g4, hI.g5, hI.g6, hI.g7, hI.g8, hI.g9, hI.g10, hI.f0, hI.f1, hI.f2, hI.f3, hI.f4, hI.f5, hI.f6, hI.f7, hI.f8, hI.f9, hI.f10, hI.f11, hI.f12, hI.f13, hI.f15, hI.f16, ?_, hI.f18, hI.f19, hI.f20, hI.f21, hI.f22, hI.f24, hI.f26⟩ <;> (first | exact fun _ => rfl | skip))
        | (refine ⟨?_, ?_, ?_, ?_, ?_, ?_, ?_, ?_, ?_, ?_, ?_, ?_, ?_, ?_, ?_, ?_, ?_, ?_, ?_, ?_, ?_, ?_, ?_, ?_, ?_, ?_, ?_, ?_, ?_, ?_, ?_, ?_, ?_, ?_, ?_, ?_⟩ <;> (first | exact hI.x | exact hI.g0 | exact hI.g1 | exact hI.g2 | exact hI.g3 | exact hI.g4 | exact hI.g5 | exact hI.g6 | exact hI.g7 | exact hI.g8 | exact hI.g9 | exact hI.g10 | exact hI.f0 | exact hI.f1 | exact hI.f2 | exact hI.f3 | exact hI.f4 | exact hI.f5 | exact hI.f6 | exact hI.f7 | exact hI.f8 | exact hI.f9 | exact hI.f10 | exact hI.f11 | exact hI.f12 | exact hI.f13 | exact hI.f15 | exact hI.f16 | exact hI.f17 | exact hI.f18 | exact hI.f19 | exact hI.f20 | exact hI.f21 | exact hI.f22 | exact hI.f24 | exact hI.f26 | exact fun _ => rfl | skip))
      · intro L us wx K a ha hp hd hun hI hK
        have HX := hI.x
        have u15 := hI.f15 (hp 15 (by kernel_rfl))
        have u17 := hI.f17 (hp 17 (by kernel_rfl))
        clear hp HX
        replace hd := Lib.hid hd
        simp only [u15, u17] at ha
        subst ha
        simp only [Act.put, List.setIfInBounds_toArray, List.set_cons_succ, List.set_cons_zero] at hK
        go_simp
        refine hK _ _ ?_
        first
        | (refine ⟨hI.x, hI.g0, hI.g1, hI.g2, hI.g3, hI.g4, hI.g5, hI.g6, hI.g7, hI.g8, hI.g9, hI.g10, hI.f0, hI.f1, hI.f2, hI.f3, hI.f4, hI.f5, hI.f6, hI.f7, hI.f8, hI.f9, hI.f10, hI.f11, hI.f12, hI.f13, hI.f15, hI.f16, hI.f17, ?_, hI.f19, hI.f20, hI.f21, hI.f22, hI.f24, hI.f26⟩ <;> (first | exact fun _ => rfl | skip))
        | (refine ⟨?_, ?_, ?_, ?_, ?_, ?_, ?_, ?_, ?_, ?_, ?_, ?_, ?_, ?_, ?_, ?_, ?_, ?_, ?_, ?_, ?_, ?_, ?_, ?_, ?_, ?_, ?_, ?_, ?_, ?_, ?_, ?_, ?_, ?_, ?_, ?_⟩ <;> (first | exact hI.x | exact hI.g0 | exact hI.g1 | exact hI.g2 | exact hI.g3 | exact hI.g4 | exact hI.g5 | exact hI.g6 | exact hI.g7 | exact hI.g8 | exact hI.g9 | exact hI.g10 | exact hI.f0 | exact hI.f1 | exact hI.f2 | exact hI.f3 | exact hI.f4 | exact hI.f5 | exact hI.f6 | exact hI.f7 | exact hI.f8 | exact hI.f9 | exact hI.f10 | exact hI.f11 | exact hI.f12 | exact hI.f13 | exact hI.f15 | exact hI.f16 | exact hI.f17 | exact hI.f18 | exact hI.f19 | exact hI.f20 | exact hI.f21 | exact hI.f22 | exact hI.f24 | exact hI.f26 | exact fun _ => rfl | skip))
      · intro L us wx K a ha hp hd hun hI hK
        have HX := hI.x
        have u18 := hI.f18 (hp 18 (by kernel_rfl))
        have h25 : L 25 = false := Bool.eq_false_iff.2 fun hl => absurd (hd 25 19 hl (by kernel_rfl)) (by rw [hun]; decide)
        have bb := (hI.g5 h25).cell xb
        rw [vsA_get vs Hxx.out.2, Hvb.out] at bb
        clear hp HX
        replace hd := Lib.hid hd
        simp only [u18] at ha
        subst ha
        simp only [Act.put, List.setIfInBounds_toArray, List.set_cons_succ, List.set_cons_zero] at hK
        go_simp
        refine hK _ _ ?_
        first
        | (refine ⟨hI.x, hI.g0, hI.g1, hI.g2, hI.g3, hI.g4, hI.g5, hI.g6, hI.g7, hI.g8, hI.g9, hI.g10, hI.f0, hI.f1, hI.f2, hI.f3, hI.f4, hI.f5, hI.f6, hI.f7, hI.f8, hI.f9, hI.f10, hI.f11, hI.f12, hI.f13, hI.f15, hI.f16, hI.f17, hI.f18, ?_, hI.f20, hI.f21, hI.f22, hI.f24, hI.f26⟩ <;> (first | exact fun _ => rfl | skip))
        | (refine ⟨?_, ?_, ?_, ?_, ?_, ?_, ?_, ?_, ?_, ?_, ?_, ?_, ?_, ?_, ?_, ?_, ?_, ?_, ?_, ?_, ?_, ?_, ?_, ?_, ?_, ?_, ?_, ?_, ?_, ?_, ?_, ?_, ?_, ?_, ?_, ?_⟩ <;> (first | exact hI.x | exact hI.g0 | exact hI.g1 | exact hI.g2 | exact hI.g3 | exact hI.g4 | exact hI.g5 | exact hI.g6 | exact hI.g7 | exact hI.g8 | exact hI.g9 | exact hI.g10 | exact hI.f0 | exact hI.f1 | exact hI.f2 | exact hI.f3 | exact hI.f4 | exact hI.f5 | exact hI.f6 | exact hI.f7 | exact hI.f8 | exact hI.f9 | exact hI.f10 | exact hI.f11 | exact hI.f12 | exact hI.f13 | exact hI.f15 | exact hI.f16 | exact hI.f17 | exact hI.f18 | exact hI.f19 | exact hI.f20 | exact hI.f21 | exact hI.f22 | exact hI.f24 | exact hI.f26 | exact fun _ => rfl | skip))
      · intro L us wx K a ha hp hd hun hI hK
        have HX := hI.x
        clear hp HX
        replace hd := Lib.hid hd
        subst ha
        simp only [Act.put, List.setIfInBounds_toArray, List.set_cons_succ, List.set_cons_zero] at hK
        go_simp
        refine hK _ _ ?_
        first
        | (refine ⟨hI.x, hI.g0, hI.g1, hI.g2, hI.g3, hI.g4, hI.g5, hI.g6, hI.g7, hI.g8, hI.g9, hI.g10, hI.f0, hI.f1, hI.f2, hI.f3, hI.f4, hI.f5, hI.f6, hI.f7, hI.f8, hI.f9, hI.f10, hI.f11, hI.f12, hI.f13, hI.f15, hI.f16, hI.f17, hI.f18, hI.f19, ?_, hI.f21, hI.f22, hI.f24, hI.f26⟩ <;> (first | exact fun _ => rfl | skip))
        | (refine ⟨?_, ?_, ?_, ?_, ?_, ?_, ?_, ?_, ?_, ?_, ?_, ?_, ?_, ?_, ?_, ?_, ?_, ?_, ?_, ?_, ?_, ?_, ?_, ?_, ?_, ?_, ?_, ?_, ?_, ?_, ?_, ?_, ?_, ?_, ?_, ?_⟩ <;> (first | exact hI.x | exact hI.g0 | exact hI.g1 | exact hI.g2 | exact hI.g3 | exact hI.g4 | exact hI.g5 | exact hI.g6 | exact hI.g7 | exact hI.g8 | exact hI.g9 | exact hI.g10 | exact hI.f0 | exact hI.f1 | exact hI.f2 | exact hI.f3 | exact hI.f4 | exact hI.f5 | exact hI.f6 | exact hI.f7 | exact hI.f8 | exact hI.f9 | exact hI.f10 | exact hI.f11 | exact hI.f12 | exact hI.f13 | exact hI.f15 | exact hI.f16 | exact hI.f17 | exact hI.f18 | exact hI.f19 | exact hI.f20 | exact hI.f21 | exact hI.f22 | exact hI.f24 | exact hI.f26 | exact fun _ => rfl | skip))
      · intro L us wx K a ha hp hd hun hI hK
        have HX := hI.x
        have u20 := hI.f20 (hp 20 (by kernel_rfl))
        have bb := hI.g0.cell
        clear hp HX
        replace hd := Lib.hid hd
        simp only [u20] at ha
        subst ha
        simp only [Act.put, List.setIfInBounds_toArray, List.set_cons_succ, List.set_cons_zero] at hK
        go_simp
        refine hK _ _ ?_
        first
        | (refine ⟨hI.x, hI.g0, hI.g1, hI.g2, hI.g3, hI.g4, hI.g5, hI.g6, hI.g7, hI.g8, hI.g9, hI.g10, hI.f0, hI.f1, hI.f2, hI.f3, hI.f4, hI.f5, hI.f6, hI.f7, hI.f8, hI.f9, hI.f10, hI.f11, hI.f12, hI.f13, hI.f15, hI.f16, hI.f17, hI.f18, hI.f19, hI.f20, ?_, hI.f22, hI.f24, hI.f26⟩ <;> (first | exact fun _ => rfl | skip))
        | (refine ⟨?_, ?_, ?_, ?_, ?_, ?_, ?_, ?_, ?_, ?_, ?_, ?_, ?_, ?_, ?_, ?_, ?_, ?_, ?_, ?_, ?_, ?_, ?_, ?_, ?_, ?_, ?_, ?_, ?_, ?_, ?_, ?_, ?_, ?_, ?_, ?_⟩ <;> (first | exact hI.x | exact hI.g0 | exact hI.g1 | exact hI.g2 | exact hI.g3 | exact hI.g4 | exact hI.g5 | exact hI.g6 | exact hI.g7 | exact hI.g8 | exact hI.g9 | exact hI.g10 | exact hI.f0 | exact hI.f1 | exact hI.f2 | exact hI.f3 | exact hI.f4 | exact hI.f5 | exact hI.f6 | exact hI.f7 | exact hI.f8 | exact hI.f9 | exact hI.f10 | exact hI.f11 | exact hI.f12 | exact hI.f13 | exact hI.f15 | exact hI.f16 | exact hI.f17 | exact hI.f18 | exact hI.f19 | exact hI.f20 | exact hI.f21 | exact hI.f22 | exact hI.f24 | exact hI.f26 | exact fun _ => rfl | skip))
      · intro L' us wx K a ha hp hd hun hI hK
        have u21 := hI.f21 (hp 21 (by kernel_rfl))
        have h23 : L' 23 = false := Bool.eq_false_iff.2 fun hl => absurd (hd 23 22 hl (by kernel_rfl)) (by rw [hun]; decide)
        replace hd := Lib.hid hd
        simp only [u21] at ha
        subst ha
        simp only [Act.put, List.setIfInBounds_toArray, List.set_cons_succ, List.set_cons_zero] at hK
        go_simp
        refine hK _ _ ?_
        have EA := (Ext.refl wx).alloc (.cells #[.int .i64 xa] 3)
        refine ⟨hI.x.trans EA, hI.g0.ext EA, hI.g1.ext EA, (fun h => (hI.g2 h).ext EA), (fun h k => (hI.g3 h k).ext EA), (fun h => (hI.g4 h).ext EA), (fun h => (hI.g5 h).ext EA), (fun h k => (hI.g6 h k).ext EA), (fun h => (hI.g7 h).ext EA), (fun h k => (hI.g8 h k).ext EA), (fun _ h => TmpO.new (hI.g2 h) _), (fun _ h _ => TmpO.new (hI.g3 h h23) _), hI.f0, hI.f1, hI.f2, hI.f3, hI.f4, hI.f5, hI.f6, hI.f7, hI.f8, hI.f9, hI.f10, hI.f11, hI.f12, hI.f13, hI.f15, hI.f16, hI.f17, hI.f18, hI.f19, hI.f20, hI.f21, (fun _ => rfl), hI.f24, hI.f26⟩
      · intro L' us wx K a ha hp hd hun hI hK
        have u19 := hI.f19 (hp 19 (by kernel_rfl))
        have h22 := hp 22 (by kernel_rfl)
        have u22 := hI.f22 h22
        have h14 := hp 14 (by kernel_rfl)
        have rows := hI.g3 h14 hun
        have own := rows.row xb Hxx.out.2
        rw [setF_ne _ _ Hab.out.1, setF_ne _ _ Hab.out.1, Hvb.out, Hlb.out] at own
        have ht := hI.g10 h22 h14 hun
        obtain ⟨gq, hgq⟩ : ∃ gq, bk (us 22) = gq := ⟨_, rfl⟩
        rw [hgq] at u22 ht
        clear hgq
        have hbc := ht.b.cell
        have h25 : L' 25 = false := Bool.eq_false_iff.2 fun hl => absurd (hd 25 23 hl (by kernel_rfl)) (by rw [hun]; decide)
        have h27 : L' 27 = false := Bool.eq_false_iff.2 fun hl => absurd (hd 27 25 hl (by kernel_rfl)) (by rw [h25]; decide)
        have hUx : T ≤ wx.heap.size := by have := hI.g1.lt; have := HT.out; omega
        replace hd := Lib.hid hd
        simp only [u19, u22] at ha
        subst ha
        simp only [Act.put, List.setIfInBounds_toArray, List.set_cons_succ, List.set_cons_zero] at hK
        refine step_append_fate rfl (.tmp 57) (.tmp 60) 41 rfl T 3 iI _ 1 8 Tryz.underlying41 hiI zI0 zI1 zI2 rfl (by decide) (.slice B lb cb') lb _ rfl own gq 1 [.int .i64 xa] rfl rfl (fun k => by rw [hbc]; rcases k with _ | _ <;> rfl) (by simp [Value.oneCell']) Hb1.out.1 Hb1.out.2 hUx ?_
        intro v' w' hf
        have hf' : Fate wx w' T 3 1 (setF vs xa (us 14) xb) v' (setF f xa (f xa ++ [(xb : Int)]) xb).length ((setF f xa (f xa ++ [(xb : Int)]) xb).map numC) [numC xa] := by rw [setF_ne _ _ Hab.out.1, setF_ne _ _ Hab.out.1, Hvb.out, Hlb.out]; exact hf
        have hst := rows.step Hxx.out.2 hf'
        rw [setF_ne f _ Hab.out.1] at hst
        refine hK _ _ ⟨hI.x.fate own Hne.out.2.2.2.1 hf, hI.g0.fate own hf (by decide), hI.g1.fate own hf (by decide), (fun h => absurd (show L' 14 = false from h) (by rw [h14]; decide)), (fun _ h => nomatch (show true = false from h)), (fun _ => hst), (fun _ => (hI.g5 h25).fate own hf (by decide)), (fun h => absurd (show L' 25 = true from h) (by rw [h25]; decide)), (fun h => absurd (show L' 27 = true from h) (by rw [h27]; decide)), (fun _ h => absurd (show L' 14 = false from h) (by rw [h14]; decide)), (fun _ h => absurd (show L' 14 = false from h) (by rw [h14]; decide)), (fun _ _ h => nomatch (show true = false from h)), hI.f0, hI.f1, hI.f2, hI.f3, hI.f4, hI.f5, hI.f6, hI.f7, hI.f8, hI.f9, hI.f10, hI.f11, hI.f12, hI.f13, hI.f15, hI.f16, hI.f17, hI.f18, hI.f19, hI.f20, hI.f21, hI.f22, hI.f24, hI.f26⟩
      · intro L us wx K a ha hp hd hun hI hK
        have HX := hI.x
        have u0 := hI.f0 (hp 0 (by kernel_rfl))
        have u2 := hI.f2 (hp 2 (by kernel_rfl))
        clear hp HX
        replace hd := Lib.hid hd
        simp only [u0, u2] at ha
        subst ha
        simp only [Act.put, List.setIfInBounds_toArray, List.set_cons_succ, List.set_cons_zero] at hK
        go_simp
        refine hK _ _ ?_
        first
        | (refine ⟨hI.x, hI.g0, hI.g1, hI.g2, hI.g3, hI.g4, hI.g5, hI.g6, hI.g7, hI.g8, hI.g9, hI.g10, hI.f0, hI.f1, hI.f2, hI.f3, hI.f4, hI.f5, hI.f6, hI.f7, hI.f8, hI.f9, hI.f10, hI.f11, hI.f12, hI.f13, hI.f15, hI.f16, hI.f17, hI.f18, hI.f19, hI.f20, hI.f21, hI.f22, ?_, hI.f26⟩ <;> (first | exact fun _ => rfl | skip))
        | (refine ⟨?_, ?_, ?_, ?_, ?_, ?_, ?_, ?_, ?_, ?_, ?_, ?_, ?_, ?_, ?_, ?_, ?_, ?_, ?_, ?_, ?_, ?_, ?_, ?_, ?_, ?_, ?_, ?_, ?_, ?_, ?_, ?_, ?_, ?_, ?_, ?_⟩ <;> (first | exact hI.x | exact hI.g0 | exact hI.g1 | exact hI.g2 | exact hI.g3 | exact hI.g4 | exact hI.g5 | exact hI.g6 | exact hI.g7 | exact hI.g8 | exact hI.g9 | exact hI.g10 | exact hI.f0 | exact hI.f1 | exact hI.f2 | exact hI.f3 | exact hI.f4 | exact hI.f5 | exact hI.f6 | exact hI.f7 | exact hI.f8 | exact hI.f9 | exact hI.f10 | exact hI.f11 | exact hI.f12 | exact hI.f13 | exact hI.f15 | exact hI.f16 | exact hI.f17 | exact hI.f18 | exact hI.f19 | exact hI.f20 | exact hI.f21 | exact hI.f22 | exact hI.f24 | exact hI.f26 | exact fun _ => rfl | skip))
      · intro L' us wx K a ha hp hd hun hI hK
        have u24 := hI.f24 (hp 24 (by kernel_rfl))
        have h14 := hp 14 (by kernel_rfl)
        have h23 := hp 23 (by kernel_rfl)
        have h27 : L' 27 = false := Bool.eq_false_iff.2 fun hl => absurd (hd 27 25 hl (by kernel_rfl)) (by rw [hun]; decide)
        have rows := hI.g4 h23
        obtain ⟨A', c', hu⟩ := ownForm (rows.row xa Hxx.out.1)
        rw [setF_ne _ _ Hab.out.2, setF_at] at hu
        obtain ⟨m', hm'⟩ : ∃ m', (setF (setF f xa (f xa ++ [(xb : Int)])) xb (f xb ++ [(xa : Int)]) xa).length = m' := ⟨_, rfl⟩
        rw [hm'] at hu
        have hb := hI.g5 hun
        have cb := hb.cell xa
        rw [vsA_get vs Hxx.out.1, Hva.out] at cb
        have fb := hb.frozen
        obtain ⟨V, hV⟩ : ∃ V, wx.setCell ⟨NB, xa, none⟩ (.slice A' m' c') = V := ⟨_, rfl⟩
        have BV := hb.set_ xa (.slice A' m' c')
        rw [hV, vsA_set, ← hu] at BV
        have RV := rows.far hb (by decide) (p := ⟨NB, xa, none⟩) rfl (.slice A' m' c')
        rw [hV] at RV
        have EV := hI.x.setCell (p := ⟨NB, xa, none⟩) (by rw [HW3.out]; exact Nat.le_refl _) (.slice A' m' c')
        rw [hV] at EV
        have g0V := hI.g0.far (p := ⟨NB, xa, none⟩) Hne.out.1 (.slice A' m' c')
        rw [hV] at g0V
        have g1V := hI.g1.far (p := ⟨NB, xa, none⟩) Hne.out.2.2.1 (.slice A' m' c')
        rw [hV] at g1V
        replace hd := Lib.hid hd
        simp only [u24, hu] at ha
        subst ha
        simp only [Act.put] at hK
        go_simp
        refine hK undef _ ?_
        refine ⟨EV, g0V, g1V, (fun h => absurd (show L' 14 = false from h) (by rw [h14]; decide)), (fun _ h => absurd (show L' 23 = false from h) (by rw [h23]; decide)), (fun _ => RV), (fun h => nomatch (show true = false from h)), (fun _ _ => BV), (fun h => absurd (show L' 27 = true from h) (by rw [h27]; decide)), (fun _ h => absurd (show L' 14 = false from h) (by rw [h14]; decide)), (fun _ h => absurd (show L' 14 = false from h) (by rw [h14]; decide)), (fun _ _ h => absurd (show L' 23 = false from h) (by rw [h23]; decide)), hI.f0, hI.f1, hI.f2, hI.f3, hI.f4, hI.f5, hI.f6, hI.f7, hI.f8, hI.f9, hI.f10, hI.f11, hI.f12, hI.f13, hI.f15, hI.f16, hI.f17, hI.f18, hI.f19, hI.f20, hI.f21, hI.f22, hI.f24, hI.f26⟩
      · intro L us wx K a ha hp hd hun hI hK
        have HX := hI.x
        have u3 := hI.f3 (hp 3 (by kernel_rfl))
        have u5 := hI.f5 (hp 5 (by kernel_rfl))
        clear hp HX
        replace hd := Lib.hid hd
        simp only [u3, u5] at ha
        subst ha
        simp only [Act.put, List.setIfInBounds_toArray, List.set_cons_succ, List.set_cons_zero] at hK
        go_simp
        refine hK _ _ ?_
        first
        | (refine ⟨hI.x, hI.g0, hI.g1, hI.g2, hI.g3, hI.g4, hI.g5, hI.g6, hI.g7, hI.g8, hI.g9, hI.g10, hI.f0, hI.f1, hI.f2, hI.f3, hI.f4, hI.f5, hI.f6, hI.f7, hI.f8, hI.f9, hI.f10, hI.f11, hI.f12, hI.f13, hI.f15, hI.f16, hI.f17, hI.f18, hI.f19, hI.f20, hI.f21, hI.f22, hI.f24, ?_⟩ <;> (first | exact fun _ => rfl | skip))
        | (refine ⟨?_, ?_, ?_, ?_, ?_, ?_, ?_, ?_, ?_, ?_, ?_, ?_, ?_, ?_, ?_, ?_, ?_, ?_, ?_, ?_, ?_, ?_, ?_, ?_, ?_, ?_, ?_, ?_, ?_, ?_, ?_, ?_, ?_, ?_, ?_, ?_⟩ <;> (first | exact hI.x | exact hI.g0 | exact hI.g1 | exact hI.g2 | exact hI.g3 | exact hI.g4 | exact hI.g5 | exact hI.g6 | exact hI.g7 | exact hI.g8 | exact hI.g9 | exact hI.g10 | exact hI.f0 | exact hI.f1 | exact hI.f2 | exact hI.f3 | exact hI.f4 | exact hI.f5 | exact hI.f6 | exact hI.f7 | exact hI.f8 | exact hI.f9 | exact hI.f10 | exact hI.f11 | exact hI.f12 | exact hI.f13 | exact hI.f15 | exact hI.f16 | exact hI.f17 | exact hI.f18 | exact hI.f19 | exact hI.f20 | exact hI.f21 | exact hI.f22 | exact hI.f24 | exact hI.f26 | exact fun _ => rfl | skip))
      · intro L' us wx K a ha hp hd hun hI hK
        have u26 := hI.f26 (hp 26 (by kernel_rfl))
        have h25 := hp 25 (by kernel_rfl)
        have h23 := hp 23 (by kernel_rfl)
        have h14 := hd 23 14 h23 (by kernel_rfl)
        have rows := hI.g4 h23
        obtain ⟨A', c', hu⟩ := ownForm (rows.row xb Hxx.out.2)
        rw [setF_at] at hu
        obtain ⟨m', hm'⟩ : ∃ m', (setF (setF f xa (f xa ++ [(xb : Int)])) xb (f xb ++ [(xa : Int)]) xb).length = m' := ⟨_, rfl⟩
        rw [hm'] at hu
        have hb := hI.g6 h25 hun
        have cb := hb.cell xb
        rw [vsA_get _ Hxx.out.2, setF_ne _ _ Hab.out.1, Hvb.out] at cb
        have fb := hb.frozen
        obtain ⟨V, hV⟩ : ∃ V, wx.setCell ⟨NB, xb, none⟩ (.slice A' m' c') = V := ⟨_, rfl⟩
        have BV := hb.set_ xb (.slice A' m' c')
        rw [hV, vsA_set, ← hu] at BV
        have RV := rows.far hb (by decide) (p := ⟨NB, xb, none⟩) rfl (.slice A' m' c')
        rw [hV] at RV
        have EV := hI.x.setCell (p := ⟨NB, xb, none⟩) (by rw [HW3.out]; exact Nat.le_refl _) (.slice A' m' c')
        rw [hV] at EV
        have g0V := hI.g0.far (p := ⟨NB, xb, none⟩) Hne.out.1 (.slice A' m' c')
        rw [hV] at g0V
        have g1V := hI.g1.far (p := ⟨NB, xb, none⟩) Hne.out.2.2.1 (.slice A' m' c')
        rw [hV] at g1V
        replace hd := Lib.hid hd
        simp only [u26, hu] at ha
        subst ha
        simp only [Act.put] at hK
        go_simp
        refine hK undef _ ?_
        refine ⟨EV, g0V, g1V, (fun h => absurd (show L' 14 = false from h) (by rw [h14]; decide)), (fun _ h => absurd (show L' 23 = false from h) (by rw [h23]; decide)), (fun _ => RV), (fun h => absurd (show L' 25 = false from h) (by rw [h25]; decide)), (fun _ h => nomatch (show true = false from h)), (fun _ => BV), (fun _ h => absurd (show L' 14 = false from h) (by rw [h14]; decide)), (fun _ h => absurd (show L' 14 = false from h) (by rw [h14]; decide)), (fun _ _ h => absurd (show L' 23 = false from h) (by rw [h23]; decide)), hI.f0, hI.f1, hI.f2, hI.f3, hI.f4, hI.f5, hI.f6, hI.f7, hI.f8, hI.f9, hI.f10, hI.f11, hI.f12, hI.f13, hI.f15, hI.f16, hI.f17, hI.f18, hI.f19, hI.f20, hI.f21, hI.f22, hI.f24, hI.f26⟩
      intro L' us wx hall hI
      have EX := hI.x
      have BNx := hI.g1
      have BBx := hI.g7 (hall 27 (by simp))
      have Rx := hI.g4 (hall 23 (by simp))
      rw [← Hsu.out] at Rx
      obtain ⟨vs', hvs'⟩ : ∃ v, setF (setF vs xa (us 14)) xb (us 23) = v := ⟨_, rfl⟩
      rw [hvs'] at BBx Rx
      clear hall hI hvs'
      go_wp2_with fail
      go_roundw
      case rel => exact ⟨q + 1, vs', by omega, by go_num, EX, BNx, BBx, Rx⟩
      case measure => simp only [intOf]; omega
    · obtain rfl : q = n := by omega
      have htk : L.take q = L := by rw [← Hn.out]; exact List.take_length
      rw [htk] at RO
      have b3 := (HB13.out.ext Er).cell
      obtain ⟨W6, hW6, E6, B6, hz6⟩ := mk_ wr (zeroA nb) 3
      obtain ⟨OB, hOB⟩ : ∃ g, wr.heap.size = g := ⟨_, rfl⟩
      rw [hOB] at B6 hz6
      obtain ⟨W7, hW7, E7, B7, hz7⟩ := mk_ W6 #[.slice (some ⟨OB, 0, none⟩) nb nb] 41
      rw [hz6] at B7 hz7
      have X7 := num_zero (B6.ext E7)
      rw [← negL_zero] at X7
      have E67 := E6.trans E7
      have BN7 := BN.ext E67
      have BB7 := BNB.ext E67
      have RO7 := RO.ext E67
      have hown : ∀ k, k < nb → (vs k).ownBlock ≠ some OB := fun k hk e => by
        have := ((RO.row k hk).lt _ e).2
        omega
      have hn1 : N ≠ OB := by have := BN.lt; omega
      have hn2 : NB ≠ OB := by have := BNB.lt; omega
      have hOB3 : W3.heap.size ≤ OB := by have := Er.size; omega
      have Hown := Lib.hid hown
      have Hne := Lib.hid (And.intro hn1 (And.intro hn2 hOB3))
      have E37 := Er.trans E67
      have b3' := (HB13.out.ext (Er.trans E6)).cell
      go_upto_region 12 with (fail)
      obtain ⟨O, hO⟩ : ∃ g, OB + 1 = g := ⟨_, rfl⟩
      rw [hO] at B7 hz7 ⊢
      have HO := Lib.hid hO
      have HZ7 := Lib.hid hz7
      have HE37 := Lib.hid E37
      have hoO : O ≠ OB := by omega
      have HoO := Lib.hid hoO
      clear b3 b3' hW6 hW7 hz6 hz7 hOB BN BNB RO hown hn1 hn2 hOB3 E6 E7 E67 E37 B6 hO hmk2 Er hoO htk
      have b7 := B7.cell
      go_wp2_with fail
      clear b7
      go_loopw [71] (fun ii wr' => ∃ (t : Nat), t ≤ nb ∧ ii = .int .i64 t ∧ Only (fun b => b = OB) W7 wr' ∧ NumX wr' OB (negL nb t)) (fun ii _ => nb - (intOf ii).toNat)
      case atStart => exact ⟨0, by omega, rfl, Only.refl _ _, X7⟩
      case round =>
        clear X7
        obtain ⟨t, ht, rfl, hO, hX⟩ := hrel
        by_cases htn : t < nb
        · have b7 := (B7.only hO HoO.out).cell
          have cx := hX.cell (negL_at htn)
          have fx := hX.frozen
          have t0 : (0 : Int) ≤ t := by omega
          have t1 : (t : Int) < nb := by omega
          have hl : t < (negL nb t).length := by rw [negL_len (by omega)]; exact htn
          have Hl := Lib.hid hl
          clear hl
          go_wp2_with fail
          go_roundw
          case rel => exact ⟨t + 1, by omega, by go_num, hO.setCell (fun _ => rfl) _, by rw [← negL_set htn]; exact hX.set_ Hl.out _⟩
          case measure => simp only [intOf]; omega
        · obtain rfl : t = nb := by omega
          rw [negL_all] at hX
          have b7 := (B7.only hO HoO.out).cell
          go_wp2_with fail
          clear b7
          go_loopw [80] (fun ii wr' => ∃ (i : Nat) (o : List Int), i ≤ t ∧ ii = .int .i64 i ∧ Hid (Upto L t i o) ∧ Only (fun b => b = OB) W7 wr' ∧ NumX wr' OB o) (fun ii _ => t - (intOf ii).toNat)
          case atStart => exact ⟨0, _, by omega, rfl, Lib.hid (Upto.start L t), hO, hX⟩
          case round =>
            clear hO hX
            obtain ⟨i, o, hi, rfl, hU, hO, hX⟩ := hrel
            have B7r := B7.only hO HoO.out
            by_cases hit : i < t
            · obtain ⟨W8, hW8, E8, B8, hz8⟩ := mk_ wr #[.int .i64 i] 3
              obtain ⟨W9, hW9, E9, B9, hz9⟩ := mk_ W8 #[visV O wr.heap.size N W8.heap.size] 85
              unfold visV at hW9
              obtain ⟨I, hI⟩ : ∃ g, wr.heap.size = g := ⟨_, rfl⟩
              rw [hI] at B8 hz8 B9
              rw [hz8] at B9
              have HI := Lib.hid hI
              have E89 := E8.trans E9
              have hXl := hX.lt
              have env : GEnv W9 T OB O I N (I + 1) NB t t t i vs (nbrs L) := ⟨B7r.ext E89, B8.ext E9, (BN7.only hO Hne.out.1).ext E89, B9, (BB7.only hO Hne.out.2.1).ext E89, (RO7.only hO Hown.out).ext E89, HoO.out, by omega, Hne.out.1, by omega, Hne.out.2.1, Hown.out⟩
              have VC := Lib.hid (visit_c L T OB O I N (I + 1) NB t t t i vs (nbrs L) (fun k u => mem_nbrs) Hwi.out (by omega) (by omega) (fun k => by have := nbrs_len L k; have := Hn.out; omega) (Nat.le_refl _) (Nat.le_refl _) (negs o + 1) i o W9 (by omega) hit hU.out.len env (hX.ext E89))
              have b8 := (B8.ext E9).cell
              have b9 := B9.cell
              unfold visV at b9
              have HE89 := Lib.hid E89
              have Hz8 := Lib.hid hz8
              clear env E89 E8 E9 B8 B9 hI hz8 hz9
              go_upto_region 22 with (fail)
              rw [HI.out, Hz8.out]
              go_wp2_with fail
              refine VC.out.mono ?_
              rintro e w2 ⟨⟨v2, rfl⟩, o2, hV, hX2, hO2⟩
              clear b8 b9 hW8 hW9
              go_wp2_with fail
              go_roundw
              case rel => exact ⟨i + 1, o2, by omega, by go_num, Lib.hid (hU.out.next Hwi.out hit hV), (hO.ext HE89.out).trans hO2 (fun _ _ h => h), hX2⟩
              case measure => simp only [intOf]; omega
            · obtain rfl : i = t := by omega
              have b7 := B7r.cell
              have ho : o = natZ (groupL L i) := hU.out.end_ Hwi.out
              subst ho
              have Hlen := Lib.hid (show (natZ (groupL L i)).length = i from hU.out.len)
              have HX := Lib.hid hX
              have HOO := Lib.hid hO
              clear hX hO
              go_wp2_with fail
              go_ret2
              exact ⟨some ⟨OB, 0, none⟩, i, by rw [Hlen.out]; rfl, HX.out.slice (by rw [Hlen.out]; exact Nat.le_refl _) (by unfold maxLen; omega), (fun q hq => by cases hq; exact Nat.le_trans HE03.out.size Hne.out.2.2), HE03.out.trans (HOO.out.below HE37.out fun k hk => by rw [hk]; exact Hne.out.2.2)⟩
theorem groupsG_c (qs : List (Knd × KAt)) (QA : Option Addr) (qc : Nat) (bs : List Brk) (B : Option Addr) (cb : Nat) (w : World) (hk : Kinds w QA qc qs) (hb : Bricks w B cb bs) (hcm : checkErr (qs.map (·.1)) bs = 0) (hlen : (linkL (qs.map (·.1)) bs).length ≤ 100000) :
    Calls Tryz.prog 10 #[.slice QA qs.length qc, .agg #[.slice B bs.length cb]] w (IntRes (natZ (groupL (linkL (qs.map (·.1)) bs) bs.length)) 0 w) := Calls.mono (groupsN_c qs QA qc bs B cb w hk hb hcm hlen) fun _ _ h => h.res
end Go.Proofs.YtaaeapjnjjbglaaGreatDoor.Lat
