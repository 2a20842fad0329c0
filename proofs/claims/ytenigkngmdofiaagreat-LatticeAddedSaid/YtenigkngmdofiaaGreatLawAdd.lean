/- The given statement LatticeAddedSaid: for every input the law returns true, and each argument reads behind the call as it did. No conditions. -/
import Derived.Test.YtenigkngmdofiaaGreatBPartP
import Derived.Test.YtenigkngmdofiaaGreatBLinkS
import Derived.Test.YtenigkngmdofiaaGreatBAlive
import Derived.Test.YtenigkngmdofiaaGreatBOvN
import Derived.Test.YtenigkngmdofiaaGreatBApi
import Derived.Test.YtenigkngmdofiaaGreatBLib
import Derived.Great.BuildSlice
import Derived.Test.YtenigkngmdofiaaGreatBOpenN
namespace Go.Proofs.YtenigkngmdofiaaGreat
open Go.RowKit

section
variable {ks : List Knd} {bs : List Brk} {b : Brk}
theorem brkAt_app {i : Nat} (h : i < bs.length) : brkAt (bs ++ [b]) i = brkAt bs i := by
  unfold brkAt
  rw [List.getD_eq_getElem?_getD, List.getD_eq_getElem?_getD, List.getElem?_append_left h]
theorem modelErr_app (h : modelErr ks (bs ++ [b]) = 0) : modelErr ks bs = 0 := by
  obtain ⟨e0, e1, e2⟩ := modelErr_zero h
  have hl : (bs ++ [b]).length = bs.length + 1 := by simp
  rw [modelErr_few e0 (by omega)]
  refine askedErr_good e0 fun j hj => ?_
  cases hb : (brkAt bs j).ok ks.length
  · rw [askedErr_bad e0 (j := j) (by omega) (by rw [brkAt_app hj]; exact hb)] at e2
    cases e2
  · rfl
theorem overB_app {i k : Nat} (hi : i < bs.length) (hk : k < bs.length) : overB ks (bs ++ [b]) i k = overB ks bs i k := by
  unfold overB
  rw [brkAt_app hi, brkAt_app hk]
theorem checkErr_app (h : checkErr ks (bs ++ [b]) = 0) : checkErr ks bs = 0 := by
  have ho := check_over h
  refine checkErr_nil (modelErr_app (check_model h)) ?_
  rw [List.eq_nil_iff_forall_not_mem]
  intro p hp
  obtain ⟨i, k, e, hik, hk, hc⟩ := mem_overL.1 hp
  have : p ∈ overL ks (bs ++ [b]) (bs ++ [b]).length := mem_overL.2 ⟨i, k, e, hik, by simp; omega, by rw [overB_app (by omega) hk]; exact hc⟩
  rw [ho] at this
  cases this
theorem isLnk_app {x : Lnk} : (IsLnk ks (bs ++ [b]) x ∧ x.b < bs.length) ↔ IsLnk ks bs x := by
  constructor
  · rintro ⟨⟨h1, h2, h3, h4, h5, h6⟩, hb⟩
    rw [brkAt_app (by omega)] at h3 h5 h6
    rw [brkAt_app hb] at h4 h5
    exact ⟨h1, hb, h3, h4, h5, h6⟩
  · rintro ⟨h1, h2, h3, h4, h5, h6⟩
    refine ⟨⟨h1, by simp; omega, ?_, ?_, ?_, ?_⟩, h2⟩
    · rw [brkAt_app (by omega)]
      exact h3
    · rw [brkAt_app h2]
      exact h4
    · rw [brkAt_app (by omega), brkAt_app h2]
      exact h5
    · rw [brkAt_app (by omega)]
      exact h6
/-- The links that are kept. -/
theorem kept_is : (linkL ks (bs ++ [b])).filter (fun x => decide (x.b < bs.length)) = linkL ks bs := by
  refine List.Perm.eq_of_pairwise (le := LtO) (fun x y _ _ h1 h2 => ?_) ((linkL_ltO ks (bs ++ [b])).filter _) (linkL_ltO ks bs) ?_
  · exfalso
    unfold LtO at h1 h2
    omega
  · refine (List.perm_ext_iff_of_nodup ((linkL_nodup ks (bs ++ [b])).filter _) (linkL_nodup ks bs)).2 fun x => ?_
    rw [List.mem_filter, mem_linkL, mem_linkL, decide_eq_true_eq]
    exact isLnk_app
theorem Conn.mono {L L' : List Lnk} (h : ∀ x ∈ L, x ∈ L') {i j : Nat} (hc : Conn L i j) : Conn L' i j := by
  induction hc with
  | refl => exact .refl
  | step _ hn ih =>
    obtain ⟨x, hx, hxy⟩ := hn
    exact ih.step ⟨x, h x hx, hxy⟩
theorem added_group {g n : List Nat} (hg : isLeast (linkL ks bs) bs.length g) (hn : isLeast (linkL ks (bs ++ [b])) (bs.length + 1) n) {a : Nat} (ha : a < bs.length) : n.getD a 0 = n.getD (g.getD a 0) 0 := by
  have h1 := part_le hg ha
  refine part_conn hn (by omega) (by omega) ((hg.2 a ha).c.mono fun x hx => ?_)
  rw [mem_linkL] at hx ⊢
  exact (isLnk_app.2 hx).1
end
/-- What is kept of the first q links. -/
def keptQ (L : List Lnk) (nb q : Nat) : List Lnk := (L.take q).filter fun x => decide (x.b < nb)
theorem keptQ_succ {L : List Lnk} {nb q : Nat} {x : Lnk} (h : L[q]? = some x) : keptQ L nb (q + 1) = if x.b < nb then keptQ L nb q ++ [x] else keptQ L nb q := by
  unfold keptQ
  rw [List.take_add_one, h, List.filter_append]
  by_cases hx : x.b < nb <;> simp [hx]
theorem keptQ_len (L : List Lnk) (nb q : Nat) : (keptQ L nb q).length ≤ q := by
  unfold keptQ
  refine Nat.le_trans (List.length_filter_le _ _) ?_
  rw [List.length_take]
  omega
theorem keptQ_all (L : List Lnk) (nb : Nat) : keptQ L nb L.length = L.filter fun x => decide (x.b < nb) := by
  unfold keptQ
  rw [List.take_length]
end Go.Proofs.YtenigkngmdofiaaGreat
namespace Go.Proofs.YtenigkngmdofiaaGreat
open Go.RowKit

theorem great_ad {qs : List (Knd × KAt)} {A : Option Addr} {cap : Nat} {B : Option Addr} {n cb : Nat} {r : Bool} (h : greatB (qs.map (·.1)) n = r) {w : World} (hk : Kinds w A cap qs) (hn : n ≤ maxLen) :
    Calls Tryz.prog 14 #[.slice A qs.length cap, .agg #[.slice B n cb]] w fun e w' => e = .returned (.bool r) ∧ Ext w w' := by
  subst h
  exact great_c _ _ _ _ _ _ _ hk hn
theorem infoBrk : (Tryz.prog.info? 63).map (fun i => (i.zero, i.size, i.bytes)) = some (some (.agg #[.int .i64 0, .int .i64 0, .int .i64 0, .int .i64 0, .int .u8 0, .int .u8 0]), 6, 40) := by kernel_rfl
theorem empty_run (w : World) : (Instr.buildSlice 23 0 #[]).run Tryz.prog w = .ok (.slice (some ⟨w.heap.size, 0, none⟩) 0 0) (w.alloc (.cells #[] 63)) := by
  obtain ⟨i, hi, hz, -, -⟩ := info_parts infoBrk
  simp [Instr.buildSlice, run_underlying Tryz.underlying23, sizeOf, typeInfo, hi, newRow, Instr.fill]
  rw [show Array.range 0 = #[] from by simp [Array.range]]
  simp
theorem own_empty (w : World) {U : Nat} (hU : U ≤ w.heap.size) (e : TypeId) (sz : Nat) : (w.alloc (.cells #[] e)).ownsRow U e sz (.slice (some ⟨w.heap.size, 0, none⟩) 0 0) 0 [] := by
  exact World.ownsRow_made w #[] 0 hU (Nat.zero_le _) (by simp)
theorem own_off {w : World} {base : Nat} {e : TypeId} {size : Nat} {v : Value} {n : Nat} {xs : List Value} (h : w.ownsRow base e size v n xs) {p : Addr} (hp : v.ownBlock ≠ some p.block) (u : Value) : (w.setCell p u).ownsRow base e size v n xs := by
  obtain ⟨h1, h2⟩ := h
  refine ⟨h1, ?_⟩
  rcases h2 with h2 | ⟨g, cap, cur, rfl, hg, hh, r⟩
  · exact Or.inl h2
  · exact Or.inr ⟨g, cap, cur, rfl, hg, (Below.heap_setCell w p u g (fun e => hp (by rw [e]; rfl))).trans hh, r⟩
def cpOf : Value → Nat
  | .slice _ _ c => c
  | _ => 0
structure Ad4 (W0 : World) (T1 T2 U nb : Nat) (Bv : Value) (rows : List (List Value)) (ba : Array Value) (L : Nat → Bool) (us : Nat → Value) (w : World) : Prop where
  x : Ext W0 w
  g1 : L 0 = true → L 3 = false → w.ownsRow U 63 6 (us 0) 0 []
  g2 : L 3 = true → L 6 = false → w.ownsRow U 63 6 (us 3) nb rows.flatten
  g3 : L 5 = true → L 6 = false → Blk w (bk (us 5)) 63 ba
  g4 : L 0 = true → L 5 = true → L 3 = false → (us 0).ownBlock ≠ some (bk (us 5))
  g6 : L 6 = true → w.ownsRow U 63 6 (us 6) (nb + 1) (rows.flatten ++ ba.toList)
  g7 : L 8 = true → L 9 = false → Blk w (bk (us 8)) 25 #[.slice none 0 0] ∧ U ≤ bk (us 8)
  g8 : L 9 = true → Blk w (bk (us 8)) 25 #[us 6]
  f1 : L 1 = true → us 1 = .pointer (some ⟨T1, 0, none⟩)
  f2 : L 2 = true → us 2 = Bv
  f4 : L 4 = true → us 4 = .agg ba
  f5 : L 5 = true → us 5 = .slice (some ⟨bk (us 5), 0, none⟩) 1 1
  f6 : L 6 = true → us 6 = .slice (some ⟨bk (us 6), 0, none⟩) (nb + 1) (cpOf (us 6))
  f7 : L 7 = true → us 7 = .agg #[us 6]
  f8 : L 8 = true → us 8 = .pointer (some ⟨bk (us 8), 0, none⟩)
set_option maxRecDepth 100000 in
set_option maxHeartbeats 16000000 in
theorem add_walk (qs : List (Knd × KAt)) (QA : Option Addr) (qc : Nat) (bs : List Brk) (B : Option Addr) (cb : Nat) (kd x y z t c : Int) (w : World) (hk : Kinds w QA qc qs) (hb : Bricks w B cb bs) (hnil : B = none → cb = 0) (hby : Brk.byte ⟨kd, ⟨x, y, z⟩, t, c⟩) :
    Calls Tryz.prog 11 #[.slice QA qs.length qc, .agg #[.slice B bs.length cb], .agg #[.int .i64 kd, .int .i64 x, .int .i64 y, .int .i64 z, .int .u8 t, .int .u8 c]] w fun e w' => e = .returned (.bool true) ∧ Ext w w' := by
  obtain ⟨W1, hW1, E1, B1, hz1⟩ := mk_ w #[.slice B bs.length cb] 25
  obtain ⟨W2, hW2, E2, B2, hz2⟩ := mk_ W1 #[.int .i64 kd, .int .i64 x, .int .i64 y, .int .i64 z, .int .u8 t, .int .u8 c] 63
  obtain ⟨T1, hT1⟩ : ∃ T, w.heap.size = T := ⟨_, rfl⟩
  obtain ⟨T2, hT2⟩ : ∃ T, W1.heap.size = T := ⟨_, rfl⟩
  rw [hT2] at B2
  rw [hT1] at B1
  have b1 := (B1.ext E2).cell
  clear hz1 hz2
  obtain ⟨gr, hg⟩ : ∃ r, greatB (qs.map (·.1)) bs.length = r := ⟨_, rfl⟩
  have GR := Lib.hid (fun W (E : Ext w W) => great_ad (B := B) (cb := cb) hg (hk.ext E) hb.len)
  have LA := Lib.hid (fun W (E : Ext w W) => linksA_c qs QA qc bs B cb W (hk.ext E) (hb.ext E))
  have GO := Lib.hid (fun W (E : Ext w W) h => groups_c qs QA qc bs B cb W (hk.ext E) (hb.ext E) h)
  have hsm := hb.len
  go_enter Tryz.func11, Tryz.ntmps11
  go_wp2_with fail
  clear hW1 hW2 b1
  refine (alive_c _).mono ?_
  rintro e W3 ⟨rfl, E3⟩
  have BM := (B1.ext E2).ext E3
  have BB := B2.ext E3
  have b1 := BM.cell
  have E13 := (E1.trans E2).trans E3
  clear E1 E2 E3 B1 B2
  go_wp2_with fail
  refine (GR.out _ E13).mono ?_
  rintro e W4 ⟨rfl, E4⟩
  have E := E13.trans E4
  replace BM := BM.ext E4
  replace BB := BB.ext E4
  clear b1 E13 E4 GR hT1 hT2
  have b1 := BM.cell
  cases gr
  rotate_left
  · clear hg hk hb
    go_wp2_with fail
    go_ret
    exact ⟨rfl, E⟩
  obtain ⟨hq20, hn45, -⟩ := greatB_kinds hg
  obtain ⟨i9, hi9, hz9, hz91, hz92⟩ := info_parts infoBrk
  obtain ⟨U, hU⟩ : ∃ U, W4.heap.size = U := ⟨_, rfl⟩
  have HU := Lib.hid hU
  obtain ⟨nb, hnb⟩ : ∃ n, bs.length = n := ⟨_, rfl⟩
  rw [hnb] at BM b1 hn45 LA GO
  have Hnb := Lib.hid hnb
  have HB := Lib.hid (hb.ext E)
  have HBM := Lib.hid BM
  have HBB := Lib.hid BB
  have HE := Lib.hid E
  clear hU hnb hb BM BB E hsm
  rw [Hnb.out]
  go_upto_region 4 with (fail)
  clear b1
  refine wp_region_by (Ad4 W4 T1 T2 U nb (.slice B nb cb) (bs.map Brk.cs) #[.int .i64 kd, .int .i64 x, .int .i64 y, .int .i64 z, .int .u8 t, .int .u8 c]) (by kernel_rfl) (by kernel_rfl) (by kernel_rfl) (fun us => ⟨(Ext.refl W4).drew, (nofun), (nofun), (nofun), (nofun), (nofun), (nofun), (nofun), (nofun), (nofun), (nofun), (nofun), (nofun), (nofun), (nofun)⟩) ⟨?_, ?_, ?_, ?_, ?_, ?_, ?_, ?_, ?_, ?_, trivial⟩ ?_
  · intro L us wx K a ha hp hd hun hI hK
    have h3 : L 3 = false := Bool.eq_false_iff.2 fun hl => absurd (hd 3 0 hl (by kernel_rfl)) (by rw [hun]; decide)
    have h6 : L 6 = false := Bool.eq_false_iff.2 fun hl => absurd (hd 6 3 hl (by kernel_rfl)) (by rw [h3]; decide)
    have hUx : U ≤ wx.heap.size := by have := hI.x.size; have := HU.out; omega
    have er := empty_run wx
    have EW : Ext wx (wx.alloc (.cells #[] 63)) := (Ext.refl wx).alloc _
    replace hd := Lib.hid hd
    simp only [putAll, Act.put, List.setIfInBounds_toArray, List.set_cons_succ, List.set_cons_zero, Nat.reduceAdd] at ha
    subst ha
    simp only [Act.put, List.setIfInBounds_toArray, List.set_cons_succ, List.set_cons_zero] at hK
    go_simp
    exact hK _ _ ⟨hI.x.trans EW, (fun _ _ => own_empty wx hUx _ _), (fun h => absurd (show L 3 = true from h) (by rw [h3]; decide)), (fun h h' => (hI.g3 h h').ext EW), (fun _ h5 _ e => by have h7 := (hI.g3 h5 h6).lt; have e' : some wx.heap.size = some (bk (us 5)) := e; have e2 := Option.some.inj e'; omega), (fun h => own_ext (hI.g6 h) EW), (fun h h' => ⟨(hI.g7 h h').1.ext EW, (hI.g7 h h').2⟩), (fun h => (hI.g8 h).ext EW), hI.f1, hI.f2, hI.f4, hI.f5, hI.f6, hI.f7, hI.f8⟩
  · intro L us wx K a ha hp hd hun hI hK
    have HX := hI.x
    clear hp HX
    replace hd := Lib.hid hd
    simp only [putAll, Act.put, List.setIfInBounds_toArray, List.set_cons_succ, List.set_cons_zero, Nat.reduceAdd] at ha
    subst ha
    simp only [Act.put, List.setIfInBounds_toArray, List.set_cons_succ, List.set_cons_zero] at hK
    go_simp
    refine hK _ _ ?_
    first
    | (refine ⟨hI.x, hI.g1, hI.g2, hI.g3, hI.g4, hI.g6, hI.g7, hI.g8, ?_, hI.f2, hI.f4, hI.f5, hI.f6, hI.f7, hI.f8⟩ <;> (first | exact fun _ => rfl | skip))
    | (refine ⟨?_, ?_, ?_, ?_, ?_, ?_, ?_, ?_, ?_, ?_, ?_, ?_, ?_, ?_, ?_⟩ <;> (first | exact hI.x | exact hI.g1 | exact hI.g2 | exact hI.g3 | exact hI.g4 | exact hI.g6 | exact hI.g7 | exact hI.g8 | exact hI.f1 | exact hI.f2 | exact hI.f4 | exact hI.f5 | exact hI.f6 | exact hI.f7 | exact hI.f8 | exact fun _ => rfl | skip))
  · intro L us wx K a ha hp hd hun hI hK
    have HX := hI.x
    have u1 := hI.f1 (hp 1 (by kernel_rfl))
    have bb := (HBM.out.ext HX).cell
    clear hp HX
    replace hd := Lib.hid hd
    simp only [putAll, Act.put, List.setIfInBounds_toArray, List.set_cons_succ, List.set_cons_zero, Nat.reduceAdd, u1] at ha
    subst ha
    simp only [Act.put, List.setIfInBounds_toArray, List.set_cons_succ, List.set_cons_zero] at hK
    go_simp
    refine hK _ _ ?_
    first
    | (refine ⟨hI.x, hI.g1, hI.g2, hI.g3, hI.g4, hI.g6, hI.g7, hI.g8, hI.f1, ?_, hI.f4, hI.f5, hI.f6, hI.f7, hI.f8⟩ <;> (first | exact fun _ => rfl | skip))
    | (refine ⟨?_, ?_, ?_, ?_, ?_, ?_, ?_, ?_, ?_, ?_, ?_, ?_, ?_, ?_, ?_⟩ <;> (first | exact hI.x | exact hI.g1 | exact hI.g2 | exact hI.g3 | exact hI.g4 | exact hI.g6 | exact hI.g7 | exact hI.g8 | exact hI.f1 | exact hI.f2 | exact hI.f4 | exact hI.f5 | exact hI.f6 | exact hI.f7 | exact hI.f8 | exact fun _ => rfl | skip))
  · intro L us wx K a ha hp hd hun hI hK
    have h0 := hp 0 (by kernel_rfl)
    have u2 := hI.f2 (hp 2 (by kernel_rfl))
    have own := hI.g1 h0 hun
    have h6 : L 6 = false := Bool.eq_false_iff.2 fun hl => absurd (hd 6 3 hl (by kernel_rfl)) (by rw [hun]; decide)
    have hne := fun h5 => hI.g4 h0 h5 hun
    have hS := ((HB.out.ext hI.x)).1
    rw [Hnb.out] at hS
    have hUx : U ≤ wx.heap.size := by have := hI.x.size; have := HU.out; omega
    obtain ⟨v0, hv0⟩ : ∃ v, us 0 = v := ⟨_, rfl⟩
    rw [hv0] at own hne
    replace hd := Lib.hid hd
    simp only [putAll, Act.put, List.setIfInBounds_toArray, List.set_cons_succ, List.set_cons_zero, Nat.reduceAdd, hv0, u2] at ha
    subst ha
    simp only [Act.put, List.setIfInBounds_toArray, List.set_cons_succ, List.set_cons_zero] at hK
    refine step_append_any rfl (.tmp 26) (.tmp 28) 23 rfl U 63 i9 _ 6 40 Tryz.underlying23 hi9 hz9 hz91 hz92 rfl (by decide) v0 0 [] rfl own B nb cb (bs.map Brk.cs) rfl hS hnil (fun u hu => ?_) (by unfold maxLen; omega) (by omega) hUx ?_
    · obtain ⟨r, hr, hu⟩ := List.mem_flatten.1 hu
      obtain ⟨p, -, rfl⟩ := List.mem_map.1 hr
      simp only [Brk.cs, List.mem_cons, List.not_mem_nil, or_false] at hu
      rcases hu with rfl | rfl | rfl | rfl | rfl | rfl <;> rfl
    · intro v' w' own' hg'
      rw [Nat.zero_add, List.nil_append] at own'
      exact hK _ _ ⟨hI.x.grown hg' (fun k hk => by have := (own.lt k hk).1; have := HU.out; omega), (fun _ h => nomatch (show true = false from h)), (fun _ _ => own'), (fun h h' => (hI.g3 h h').grown hg' (fun e => hne h e.symm)), (fun _ _ h => nomatch (show true = false from h)), (fun h => absurd (show L 6 = true from h) (by rw [h6]; decide)), (fun h h' => ⟨blkGrown (hI.g7 h h').1 own hg' (by decide), (hI.g7 h h').2⟩), (fun h => blkGrown (hI.g8 h) own hg' (by decide)), hI.f1, hI.f2, hI.f4, hI.f5, hI.f6, hI.f7, hI.f8⟩
  · intro L us wx K a ha hp hd hun hI hK
    have HX := hI.x
    have bb := (HBB.out.ext HX).cell
    clear hp HX
    replace hd := Lib.hid hd
    simp only [putAll, Act.put, List.setIfInBounds_toArray, List.set_cons_succ, List.set_cons_zero, Nat.reduceAdd] at ha
    subst ha
    simp only [Act.put, List.setIfInBounds_toArray, List.set_cons_succ, List.set_cons_zero] at hK
    go_simp
    refine hK _ _ ?_
    first
    | (refine ⟨hI.x, hI.g1, hI.g2, hI.g3, hI.g4, hI.g6, hI.g7, hI.g8, hI.f1, hI.f2, ?_, hI.f5, hI.f6, hI.f7, hI.f8⟩ <;> (first | exact fun _ => rfl | skip))
    | (refine ⟨?_, ?_, ?_, ?_, ?_, ?_, ?_, ?_, ?_, ?_, ?_, ?_, ?_, ?_, ?_⟩ <;> (first | exact hI.x | exact hI.g1 | exact hI.g2 | exact hI.g3 | exact hI.g4 | exact hI.g6 | exact hI.g7 | exact hI.g8 | exact hI.f1 | exact hI.f2 | exact hI.f4 | exact hI.f5 | exact hI.f6 | exact hI.f7 | exact hI.f8 | exact fun _ => rfl | skip))
  · intro L us wx K a ha hp hd hun hI hK
    have u4 := hI.f4 (hp 4 (by kernel_rfl))
    have h6 : L 6 = false := Bool.eq_false_iff.2 fun hl => absurd (hd 6 5 hl (by kernel_rfl)) (by rw [hun]; decide)
    replace hd := Lib.hid hd
    simp only [putAll, Act.put, List.setIfInBounds_toArray, List.set_cons_succ, List.set_cons_zero, Nat.reduceAdd, u4] at ha
    subst ha
    simp only [Act.put, List.setIfInBounds_toArray, List.set_cons_succ, List.set_cons_zero] at hK
    go_simp
    have EW : Ext wx (wx.alloc (.cells #[.int .i64 kd, .int .i64 x, .int .i64 y, .int .i64 z, .int .u8 t, .int .u8 c] 63)) := (Ext.refl wx).alloc _
    exact hK _ _ ⟨hI.x.trans EW, (fun h h' => own_ext (hI.g1 h h') EW), (fun h h' => own_ext (hI.g2 h h') EW), (fun _ _ => Blk.new _ _ _), (fun h0 _ h3 e => by have := ((hI.g1 h0 h3).lt _ e).2; exact absurd this (Nat.lt_irrefl _)), (fun h => absurd (show L 6 = true from h) (by rw [h6]; decide)), (fun h h' => ⟨(hI.g7 h h').1.ext EW, (hI.g7 h h').2⟩), (fun h => (hI.g8 h).ext EW), hI.f1, hI.f2, hI.f4, (fun _ => rfl), hI.f6, hI.f7, hI.f8⟩
  · intro L us wx K a ha hp hd hun hI hK
    have h3 := hp 3 (by kernel_rfl)
    have h5 := hp 5 (by kernel_rfl)
    have u5 := hI.f5 h5
    have own := hI.g2 h3 hun
    have hb := hI.g3 h5 hun
    have h7 : L 7 = false := Bool.eq_false_iff.2 fun hl => absurd (hd 7 6 hl (by kernel_rfl)) (by rw [hun]; decide)
    have h9 : L 9 = false := Bool.eq_false_iff.2 fun hl => absurd (hd 9 7 hl (by kernel_rfl)) (by rw [h7]; decide)
    have hUx : U ≤ wx.heap.size := by have := hI.x.size; have := HU.out; omega
    obtain ⟨g5, hg5⟩ : ∃ g, bk (us 5) = g := ⟨_, rfl⟩
    rw [hg5] at u5 hb
    obtain ⟨v3, hv3⟩ : ∃ v, us 3 = v := ⟨_, rfl⟩
    rw [hv3] at own
    have hS : SliceIs wx (some ⟨g5, 0, none⟩) 1 1 6 [Brk.cs ⟨kd, ⟨x, y, z⟩, t, c⟩] := (rowX_of_blk (rows := [Brk.cs ⟨kd, ⟨x, y, z⟩, t, c⟩]) hb).slice (fun r hr => by rw [List.mem_singleton] at hr; subst hr; rfl) rfl (Nat.le_refl _) (by unfold maxLen; omega)
    replace hd := Lib.hid hd
    simp only [putAll, Act.put, List.setIfInBounds_toArray, List.set_cons_succ, List.set_cons_zero, Nat.reduceAdd, hv3, u5] at ha
    subst ha
    simp only [Act.put, List.setIfInBounds_toArray, List.set_cons_succ, List.set_cons_zero] at hK
    refine step_append_any rfl (.tmp 29) (.tmp 31) 23 rfl U 63 i9 _ 6 40 Tryz.underlying23 hi9 hz9 hz91 hz92 rfl (by decide) v3 nb (bs.map Brk.cs).flatten rfl own (some ⟨g5, 0, none⟩) 1 1 [Brk.cs ⟨kd, ⟨x, y, z⟩, t, c⟩] rfl hS (nofun) (fun u hu => ?_) (by unfold maxLen; omega) (by omega) hUx ?_
    · simp only [List.flatten_cons, List.flatten_nil, List.append_nil, Brk.cs, List.mem_cons, List.not_mem_nil, or_false] at hu
      rcases hu with rfl | rfl | rfl | rfl | rfl | rfl <;> rfl
    · intro v' w' own' hg'
      obtain ⟨g6, c6, hv6⟩ : ∃ g c, v' = .slice (some ⟨g, 0, none⟩) (nb + 1) c := by
        rcases own'.2 with ⟨-, h0⟩ | ⟨g, cap, cur, hv, -⟩
        · omega
        · exact ⟨g, cap, hv⟩
      subst hv6
      exact hK _ _ ⟨hI.x.grown hg' (fun k hk => by have := (own.lt k hk).1; have := HU.out; omega), (fun _ h => absurd (show L 3 = false from h) (by rw [h3]; decide)), (fun _ h => nomatch (show true = false from h)), (fun _ h => nomatch (show true = false from h)), (fun _ _ h => absurd (show L 3 = false from h) (by rw [h3]; decide)), (fun _ => own'), (fun h h' => ⟨blkGrown (hI.g7 h h').1 own hg' (by decide), (hI.g7 h h').2⟩), (fun h => absurd (show L 9 = true from h) (by rw [h9]; decide)), hI.f1, hI.f2, hI.f4, hI.f5, (fun _ => rfl), (fun h => absurd (show L 7 = true from h) (by rw [h7]; decide)), hI.f8⟩
  · intro L us wx K a ha hp hd hun hI hK
    have u6 := hI.f6 (hp 6 (by kernel_rfl))
    obtain ⟨g6, hg6⟩ : ∃ g, bk (us 6) = g := ⟨_, rfl⟩
    obtain ⟨c6, hc6⟩ : ∃ g, cpOf (us 6) = g := ⟨_, rfl⟩
    rw [hg6, hc6] at u6
    replace hd := Lib.hid hd
    simp only [putAll, Act.put, List.setIfInBounds_toArray, List.set_cons_succ, List.set_cons_zero, Nat.reduceAdd, u6] at ha
    subst ha
    simp only [Act.put, List.setIfInBounds_toArray, List.set_cons_succ, List.set_cons_zero] at hK
    have U6 := Lib.hid u6
    clear u6 hg6 hc6
    go_simp
    exact hK _ _ ⟨hI.x, hI.g1, hI.g2, hI.g3, hI.g4, hI.g6, hI.g7, hI.g8, hI.f1, hI.f2, hI.f4, hI.f5, hI.f6, (fun _ => congrArg (fun v => Value.agg #[v]) U6.out.symm), hI.f8⟩
  · intro L us wx K a ha hp hd hun hI hK
    have h9 : L 9 = false := Bool.eq_false_iff.2 fun hl => absurd (hd 9 8 hl (by kernel_rfl)) (by rw [hun]; decide)
    have hUx : U ≤ wx.heap.size := by have := hI.x.size; have := HU.out; omega
    replace hd := Lib.hid hd
    simp only [putAll, Act.put, List.setIfInBounds_toArray, List.set_cons_succ, List.set_cons_zero, Nat.reduceAdd] at ha
    subst ha
    simp only [Act.put, List.setIfInBounds_toArray, List.set_cons_succ, List.set_cons_zero] at hK
    go_simp
    have EW : Ext wx (wx.alloc (.cells #[.slice none 0 0] 25)) := (Ext.refl wx).alloc _
    exact hK _ _ ⟨hI.x.trans EW, (fun h h' => own_ext (hI.g1 h h') EW), (fun h h' => own_ext (hI.g2 h h') EW), (fun h h' => (hI.g3 h h').ext EW), hI.g4, (fun h => own_ext (hI.g6 h) EW), (fun _ _ => ⟨Blk.new _ _ _, hUx⟩), (fun h => absurd (show L 9 = true from h) (by rw [h9]; decide)), hI.f1, hI.f2, hI.f4, hI.f5, hI.f6, hI.f7, (fun _ => rfl)⟩
  · intro L us wx K a ha hp hd hun hI hK
    have h8 := hp 8 (by kernel_rfl)
    have h6 := hp 6 (by kernel_rfl)
    have h3 := hd 6 3 h6 (by kernel_rfl)
    have u8 := hI.f8 h8
    have u6 := hI.f6 h6
    have u7 := hI.f7 (hp 7 (by kernel_rfl))
    have own := hI.g6 h6
    obtain ⟨hb, hge⟩ := hI.g7 h8 hun
    have hne : (us 6).ownBlock ≠ some (bk (us 8)) := fun e => by
      obtain ⟨cs, hc⟩ := own_typed own e
      exact absurd (hb.types hc) (by decide)
    obtain ⟨g8, hg8⟩ : ∃ g, bk (us 8) = g := ⟨_, rfl⟩
    rw [hg8] at u8 hb hge hne
    obtain ⟨g6, hg6⟩ : ∃ g, bk (us 6) = g := ⟨_, rfl⟩
    obtain ⟨c6, hc6⟩ : ∃ g, cpOf (us 6) = g := ⟨_, rfl⟩
    rw [hg6, hc6] at u6
    rw [u6] at u7
    have cb := hb.cell
    have fb := hb.frozen
    obtain ⟨V, hV⟩ : ∃ V, wx.setCell ⟨g8, 0, none⟩ (.slice (some ⟨g6, 0, none⟩) (nb + 1) c6) = V := ⟨_, rfl⟩
    have BV := hb.set_ 0 (.slice (some ⟨g6, 0, none⟩) (nb + 1) c6)
    have OV := own_off own (p := ⟨g8, 0, none⟩) hne (.slice (some ⟨g6, 0, none⟩) (nb + 1) c6)
    have EV := hI.x.setCell (p := ⟨g8, 0, none⟩) (by have := HU.out; simp only; omega) (.slice (some ⟨g6, 0, none⟩) (nb + 1) c6)
    rw [hV] at BV OV EV
    have BV' : Blk V (bk (us 8)) 25 #[us 6] := by
      rw [hg8, u6]
      exact BV
    replace hd := Lib.hid hd
    simp only [putAll, Act.put, List.setIfInBounds_toArray, List.set_cons_succ, List.set_cons_zero, Nat.reduceAdd, u7, u8] at ha
    subst ha
    simp only [Act.put] at hK
    replace u6 := Lib.hid u6
    clear hg8 hg6 hc6 u7 u8
    go_simp
    exact hK undef _ ⟨EV, (fun _ h => absurd (show L 3 = false from h) (by rw [h3]; decide)), (fun _ h => absurd (show L 6 = false from h) (by rw [h6]; decide)), (fun _ h => absurd (show L 6 = false from h) (by rw [h6]; decide)), (fun _ _ h => absurd (show L 3 = false from h) (by rw [h3]; decide)), (fun _ => OV), (fun _ h => nomatch (show true = false from h)), (fun _ => BV'), hI.f1, hI.f2, hI.f4, hI.f5, hI.f6, hI.f7, hI.f8⟩
  intro L us W5 hall hI
  have own := hI.g6 (hall 6 (by simp))
  have B8 := hI.g8 (hall 9 (by simp))
  have u6 := hI.f6 (hall 6 (by simp))
  have u8 := hI.f8 (hall 8 (by simp))
  have E5 := hI.x
  obtain ⟨g8, hg8⟩ : ∃ g, bk (us 8) = g := ⟨_, rfl⟩
  obtain ⟨g6, hg6⟩ : ∃ g, bk (us 6) = g := ⟨_, rfl⟩
  obtain ⟨c6, hc6⟩ : ∃ g, cpOf (us 6) = g := ⟨_, rfl⟩
  rw [hg6, hc6] at u6
  rw [hg8] at u8 B8
  rw [u6] at own B8
  obtain ⟨nbk, hnk⟩ : ∃ b : Brk, b = ⟨kd, ⟨x, y, z⟩, t, c⟩ := ⟨_, rfl⟩
  have hln : (bs ++ [nbk]).length = nb + 1 := by simp [Hnb.out]
  have HBn : Bricks W5 (some ⟨g6, 0, none⟩) c6 (bs ++ [nbk]) := by
    obtain ⟨RX, -, hc1, hc2⟩ := RowX.of_own (rows := (bs ++ [nbk]).map Brk.cs) (by
      rw [List.map_append, List.flatten_append, hnk]
      exact own)
    refine ⟨by rw [hln]; exact RX.slice (fun r hr => by obtain ⟨p, -, rfl⟩ := List.mem_map.1 hr; rfl) (by rw [List.length_map, hln]) hc1 hc2, fun p hp => ?_⟩
    rcases List.mem_append.1 hp with h | h
    · exact HB.out.2 p h
    · rw [List.mem_singleton] at h
      rw [h, hnk]
      exact hby
  simp only [putAll, Act.put, List.setIfInBounds_toArray, List.set_cons_succ, List.set_cons_zero, Nat.reduceAdd, u8]
  clear hall hI own hg8 hg6 hc6 u6 u8 hnk
  obtain ⟨ce, hce⟩ : ∃ e, checkErr (qs.map (·.1)) (bs ++ [nbk]) = e := ⟨_, rfl⟩
  have LN := linksA_c qs QA qc _ _ c6 W5 ((hk.ext HE.out).ext E5) HBn
  have GN := Lib.hid (fun W (E' : Ext W5 W) => groups_c qs QA qc _ _ c6 W ((hk.ext HE.out).ext (E5.trans E')) (HBn.ext E') (fun h => links_few hk HBn.2 h))
  have GO' := Lib.hid (fun W (E' : Ext w W) => GO.out W E' (fun h => links_few hk HB.out.2 h))
  rw [hln, hce] at LN GN
  have b8 := B8.cell
  have HB8 := Lib.hid B8
  clear GO B8
  go_wp2_with fail
  refine LN.mono ?_
  rintro e W6 ⟨A6, lc6, rfl, hL6, E6⟩
  have E56 := E5.trans E6
  clear E5 b8 LN
  by_cases hc : ce = 0
  rotate_left
  · have h1 : (ce != 0) = true := by simpa using hc
    clear hk hce hL6 HBn
    go_wp2_with fail
    go_ret
    exact ⟨rfl, HE.out.trans E56⟩
  subst hc
  have hold := checkErr_app hce
  have hl1 : linkR (qs.map (·.1)) (bs ++ [nbk]) = linkL (qs.map (·.1)) (bs ++ [nbk]) := if_pos hce
  have hl2 : linkR (qs.map (·.1)) bs = linkL (qs.map (·.1)) bs := if_pos hold
  rw [hold, hl2] at LA
  rw [hold] at GO'
  rw [hl1] at hL6 ⊢
  have b1 := (HBM.out.ext E56).cell
  go_wp2_with fail
  refine (LA.out _ (HE.out.trans E56)).mono ?_
  rintro e W7 ⟨A7, lc7, rfl, hL7, E7⟩
  have E57 := E56.trans E7
  have E67 := E6.trans E7
  have hL67 := hL6.ext E7
  clear b1 E56 E6 E7 hL6 LA
  have b1 := (HBM.out.ext E57).cell
  go_wp2_with fail
  refine (GO'.out _ (HE.out.trans E57)).mono ?_
  rintro e W8 ⟨A8, lc8, rfl, hG8, E8⟩
  have E58 := E57.trans E8
  have E68 := E67.trans E8
  have hL68 := hL67.ext E8
  have hL78 := hL7.ext E8
  clear b1 E57 E67 E8 hL67 hL7 GO'
  have b8 := (HB8.out.ext E68).cell
  go_wp2_with fail
  refine (GN.out _ E68).mono ?_
  rintro e W9 ⟨A9, lc9, rfl, hG9, E9⟩
  have E59 := E58.trans E9
  have E69 := E68.trans E9
  have hL69 := hL68.ext E9
  have hL79 := hL78.ext E9
  have hG89 := hG8.ext E9
  clear b8 E58 E68 E9 hL68 hL78 hG8 GN
  have hgr1 : groupR (qs.map (·.1)) bs = natZ (groupL (linkL (qs.map (·.1)) bs) bs.length) := if_pos hold
  have hgr2 : groupR (qs.map (·.1)) (bs ++ [nbk]) = natZ (groupL (linkL (qs.map (·.1)) (bs ++ [nbk])) (bs ++ [nbk]).length) := if_pos hce
  have hle1 := groupL_least (linkL_within (ks := qs.map (·.1)) (bs := bs))
  have hle2 := groupL_least (linkL_within (ks := qs.map (·.1)) (bs := bs ++ [nbk]))
  have hlm := linkL_len (fit_of hk HBn.2 hce)
  have hadd := fun a ha => added_group hle1 (by rw [hln, ← Hnb.out] at hle2; exact hle2) (a := a) ha
  have hkp := kept_is (ks := qs.map (·.1)) (bs := bs) (b := nbk)
  have hpart := fun a (ha : a < bs.length) => part_le hle1 ha
  have hl3 := hle1.1
  have hl4 := hle2.1
  rw [hgr1] at hG89
  rw [hgr2, hln] at hG9
  rw [hgr1, hgr2, hln]
  rw [hln] at hl4
  obtain ⟨gl, hgl⟩ : ∃ l, groupL (linkL (qs.map (·.1)) bs) bs.length = l := ⟨_, rfl⟩
  obtain ⟨nl, hnl⟩ : ∃ l, groupL (linkL (qs.map (·.1)) (bs ++ [nbk])) (nb + 1) = l := ⟨_, rfl⟩
  rw [hgl] at hG89 hl3 hpart ⊢
  rw [hnl] at hG9 ⊢
  rw [hgl, Hnb.out, hnl] at hadd
  rw [hnl] at hl4
  obtain ⟨Lm, hLm⟩ : ∃ l, linkL (qs.map (·.1)) (bs ++ [nbk]) = l := ⟨_, rfl⟩
  obtain ⟨Lo, hLo⟩ : ∃ l, linkL (qs.map (·.1)) bs = l := ⟨_, rfl⟩
  rw [hLm] at hL69 hlm
  rw [hLo] at hL79
  rw [hLm, hLo, Hnb.out] at hkp
  rw [hLm, hLo]
  have hzl1 : (natZ gl).length = nb := by rw [natZ_len, hl3, Hnb.out]
  have hzl2 : (natZ nl).length = nb + 1 := by rw [natZ_len, hl4]
  rw [hzl1, hzl2]
  obtain ⟨lm, hlml⟩ : ∃ n, Lm.length = n := ⟨_, rfl⟩
  obtain ⟨lo, hlol⟩ : ∃ n, Lo.length = n := ⟨_, rfl⟩
  rw [hlml] at hlm
  rw [hlml, hlol]
  have Hlm := Lib.hid hlml
  have Hlo := Lib.hid hlol
  have Hkp := Lib.hid hkp
  have Hadd := Lib.hid hadd
  have Hpart := Lib.hid hpart
  have Hz1 := Lib.hid hzl1
  have Hz2 := Lib.hid hzl2
  have HG8 := Lib.hid hG89
  have HG9 := Lib.hid hG9
  have HL6 := Lib.hid hL69
  have HL7 := Lib.hid hL79
  have Hgl := Lib.hid hl3
  have Hnl := Lib.hid hl4
  clear hgr1 hgr2 hle1 hle2 hadd hkp hpart hl3 hl4 hG89 hG9 hL69 hL79 hk hce hold hl1 hl2 HBn hLm hLo hgl hnl hzl1 hzl2 hlml hlol hg E69 HB8 hq20 hi9 hz9 hz91 hz92
  have hw1 : IntKind.i64.wrap ((nb : Int) + 1) = (nb : Int) + 1 := IntWalk.i64_in _ (by omega)
  have hw2 : (((nb + 1 : Nat) : Int) != (nb : Int) + 1) = false := by simp
  have b1 := (HBM.out.ext E59).cell
  obtain ⟨U2, hU2⟩ : ∃ n, W9.heap.size = n := ⟨_, rfl⟩
  have HU2 := Lib.hid hU2
  obtain ⟨i8, hi8, hz8, hz81, hz82⟩ := info_parts infoLnk
  clear hU2
  go_wp2_with fail
  clear b1 hw1 hw2
  go_loopw [17, 81] (fun u ii wr => ∃ (q : Nat) (v : Value), v = u ∧ q ≤ lm ∧ ii = .int .i64 q ∧ Ext W9 wr ∧ wr.ownsRow U2 76 5 v (keptQ Lm nb q).length ((keptQ Lm nb q).map Lnk.cs).flatten) (fun _ ii _ => lm - (intOf ii).toNat)
  case atStart => exact ⟨0, _, rfl, by omega, rfl, Ext.refl _, World.ownsRow_nil _ _ _ _⟩
  case round =>
    obtain ⟨q, v, rfl, hq, rfl, Er, own⟩ := hrel
    have E5r := E59.trans Er
    have b1 := (HBM.out.ext E5r).cell
    by_cases hqt : q < lm
    · obtain ⟨lg, loff, hLA⟩ : ∃ g off, A6 = some ⟨g, off, none⟩ := by
        obtain ⟨g, off, hA, -, -⟩ := SliceIs.cells HL6.out (by rw [Hlm.out]; omega)
        exact ⟨g, off, hA⟩
      subst hLA
      have hlc : lm ≤ lc6 := by have := HL6.out.le; rw [Hlm.out] at this; exact this
      obtain ⟨c0, c1, c2, c3, c4⟩ := links_cell (HL6.out.ext Er) (k := q) (by rw [Hlm.out]; exact hqt) rfl
      have hget := lnkAt_get (l := Lm) (k := q) (by rw [Hlm.out]; exact hqt)
      have Hsu := Lib.hid (keptQ_succ (nb := nb) hget)
      obtain ⟨⟨xa, xb, xk, xo, xs⟩, hx⟩ : ∃ x, lnkAt Lm q = x := ⟨_, rfl⟩
      rw [hx] at c0 c1 c2 c3 c4 Hsu
      simp only at c0 c1 c2 c3 c4 Hsu
      have Hkl := Lib.hid (keptQ_len Lm nb q)
      obtain ⟨kq, hkq⟩ : ∃ l, keptQ Lm nb q = l := ⟨_, rfl⟩
      rw [hkq] at own Hsu Hkl
      obtain ⟨kn, hkn⟩ : ∃ n, kq.length = n := ⟨_, rfl⟩
      rw [hkn] at own Hkl
      have hkl := Hkl.out
      obtain ⟨W8', hW8, E8, B8, hz8'⟩ := mk_ wr #[.int .i64 xa, .int .i64 xb, .int .i64 xk, .int .i64 xo, .int .u8 xs] 76
      obtain ⟨X, hX⟩ : ∃ X, wr.heap.size = X := ⟨_, rfl⟩
      rw [hX] at B8
      have HX := Lib.hid hX
      have hU8 : U2 ≤ W8'.heap.size := by have := (Er.trans E8).size; have := HU2.out; omega
      have q0 : (0 : Int) ≤ q := by omega
      have q1 : (q : Int) < lm := by omega
      have q2 : (q : Int) < lc6 := by omega
      have E98 := Er.trans E8
      have own8 := own_ext own E8
      have b1' := (HBM.out.ext (E59.trans E98)).cell
      clear hx hX hget Er E8 own hz8' E5r
      go_upto_region 17 with (fail)
      rw [HX.out]
      clear c0 c1 c2 c3 c4 hW8 b1
      have bx := B8.cell
      by_cases hxb : xb < nb
      · have hxi : ((xb : Int) < (nb : Int)) := by omega
        have hb1 : (kn + 1) * 40 ≤ 140737488355328 := by omega
        have hm1 : kn + 1 ≤ maxLen := by unfold maxLen; omega
        go_wp2_with (at_builtin; refine wpList_append_one #[.int .i64 xa, .int .i64 xb, .int .i64 xk, .int .i64 xo, .int .u8 xs] rfl (.tmp 91) (.tmp 93) 27 rfl U2 76 76 i8 _ 5 40 Tryz.underlying27 hi8 hz8 hz81 hz82 rfl (by decide) _ kn _ _ rfl own8 rfl rfl (by simp [Value.oneCell']) hm1 hb1 hU8 ?_; intro g4 cap4 w4 own4 hg4)
        go_roundw
        case rel => exact ⟨q + 1, _, rfl, by omega, by go_num, (E98.alloc _).grown hg4 (fun k hk => by have := (own8.lt k hk).1; have := HU2.out; omega), by rw [Hsu.out, if_pos hxb, List.length_append, List.map_append, List.flatten_append, hkn]; exact own4⟩
        case measure => simp only [intOf]; omega
      · have hxi : ¬ ((xb : Int) < (nb : Int)) := by omega
        go_wp2_with fail
        go_roundw
        case rel => exact ⟨q + 1, v, rfl, by omega, by go_num, E98, by rw [Hsu.out, if_neg hxb, hkn]; exact own8⟩
        case measure => simp only [intOf]; omega
    · obtain rfl : q = lm := by omega
      have hkq : keptQ Lm nb q = Lo := by rw [← Hlm.out, keptQ_all]; exact Hkp.out
      rw [hkq, Hlo.out] at own
      clear hkq
      obtain ⟨WK, rfl⟩ : ∃ W, W = wr := ⟨_, rfl⟩
      obtain ⟨KA, kc, hv, hKL⟩ : ∃ KA kc, v = .slice KA lo kc ∧ Links WK KA kc Lo := by
        have hlo := Hlo.out
        rcases own.2 with ⟨hv, h0⟩ | ⟨g, cap, cur, hv, -⟩
        · obtain rfl : Lo = [] := List.eq_nil_of_length_eq_zero (by omega)
          exact ⟨none, 0, by rw [hv, h0], links_nil _⟩
        · rw [hv] at own
          obtain ⟨RX, -, hc1, hc2⟩ := RowX.of_own (rows := Lo.map Lnk.cs) own
          refine ⟨_, cap, hv, ?_⟩
          unfold Links
          rw [hlo]
          exact RX.slice (lnk_wide Lo) (by rw [List.length_map, hlo]) hc1 hc2
      subst hv
      have HKL := Lib.hid hKL
      have HEr := Lib.hid Er
      have HE5 := Lib.hid E5r
      clear own hKL Er E5r
      go_wp2_with fail
      go_loopw [98] (fun ii wr' => ∃ (a : Nat), a ≤ nb ∧ ii = .int .i64 a ∧ Ext WK wr') (fun ii _ => nb - (intOf ii).toNat)
      case atStart => exact ⟨0, by omega, rfl, Ext.refl _⟩
      case round =>
        obtain ⟨a, ha, rfl, Ea⟩ := hrel
        have E9a := HEr.out.trans Ea
        by_cases hat : a < nb
        · obtain ⟨gb, go, p, h1, h2, -, h3⟩ := (HG8.out.ext E9a).at_ (k := a) (by rw [Hz1.out]; exact hat)
          rw [natZ_at (by rw [Hgl.out, Hnb.out]; exact hat)] at h2
          cases h2
          subst h1
          have hp := Hpart.out a (by rw [Hnb.out]; exact hat)
          have had := Hadd.out a hat
          obtain ⟨ga, hga⟩ : ∃ v, gl.getD a 0 = v := ⟨_, rfl⟩
          rw [hga] at hp had h3
          obtain ⟨nb1, no1, p1, k1, k2, -, k3⟩ := (HG9.out.ext E9a).at_ (k := a) (by rw [Hz2.out]; omega)
          rw [natZ_at (by rw [Hnl.out]; omega)] at k2
          cases k2
          obtain ⟨nb2, no2, p2, l1, l2, -, l3⟩ := (HG9.out.ext E9a).at_ (k := ga) (by rw [Hz2.out]; omega)
          rw [natZ_at (by rw [Hnl.out]; omega)] at l2
          cases l2
          subst k1
          simp only [Option.some.injEq, Addr.mk.injEq, and_true] at l1
          obtain ⟨rfl, rfl⟩ := l1
          rw [← had] at l3
          obtain ⟨v, hv⟩ : ∃ v, nl.getD a 0 = v := ⟨_, rfl⟩
          rw [hv] at k3 l3
          have hne : ((v : Int) != (v : Int)) = false := by simp
          have a0 : (0 : Int) ≤ a := by omega
          have a1 : (a : Int) < nb := by omega
          have a2 : (a : Int) < ((nb + 1 : Nat) : Int) := by omega
          have g0 : (0 : Int) ≤ ga := by omega
          have g1 : (ga : Int) < ((nb + 1 : Nat) : Int) := by omega
          have a3 : (a : Int) < (nb : Int) + 1 := by omega
          have g3 : (ga : Int) < (nb : Int) + 1 := by omega
          clear hga had hv hp
          go_upto_region 23 with (fail)
          refine wp_region_grow (by kernel_rfl) (by kernel_rfl) ?_
          repeat (go_big_quiet_step (fail))
          refine wpQuiet_nil ?_
          intro WR hWR
          have ER : Ext wr WR := by
            obtain ⟨x, rfl⟩ := hWR
            exact (Ext.refl _).grow x
          clear hWR
          obtain ⟨hcWR, hfWR, hzWR⟩ := ext_facts ER
          clear hcWR hfWR hzWR
          go_wp2_with fail
          go_roundw
          case rel => exact ⟨a + 1, by omega, by go_num, Ea.trans ER⟩
          case measure => simp only [intOf]; omega
        · obtain rfl : a = nb := by omega
          have SL := sameLinks_c KA A7 kc lc7 Lo _ (HKL.out.ext Ea) (HL7.out.ext E9a)
          rw [Hlo.out] at SL
          go_wp2_with fail
          refine SL.mono ?_
          rintro e WZ ⟨rfl, EZ⟩
          go_wp2_with fail
          go_ret
          exact ⟨rfl, HE.out.trans (HE5.out.trans (Ea.trans EZ))⟩
end Go.Proofs.YtenigkngmdofiaaGreat
namespace Go.Proofs.YtenigkngmdofiaaGreat
open Go.RowKit Go.ChangeShapes Go.WideShapes Go.ChangeAt Go.Deep Go.Joins

set_option maxRecDepth 100000 in
theorem latticeAdded_lifted (os : Os) (started : os.Started) (H : Type) (enc : TypeId × Value → H) :
    ReturnsInHanded {} Tryz.checked os 11 .any (Rows.latticeAddedSpec.pre6 enc Tryz.prog Tryz.f11 Rows.latticeAddedRow.domain false) (Rows.latticeAddedSpec.post enc Tryz.prog Tryz.f11 false true false false) := by
  refine returnsInHanded_of_change (C := Tryz.checked) Tryz.own started (by kernel_rfl) Tryz.func11
    (ChangeSpec.witness6 (enc := enc) (C := Tryz.checked) false ⟨#[], #[.slice none 0 0, .agg #[.slice none 0 0], .agg #[.int .i64 0, .int .i64 0, .int .i64 0, .int .i64 0, .int .u8 0, .int .u8 0]], []⟩ 8 (by kernel_rfl) (by kernel_rfl) (by kernel_rfl) (by kernel_rfl)) ?_
  intro W base args ds gs before hval0 hW hcnd _
  have hval : ∀ (j : Nat) t v, Tryz.f11.params[j]? = some t → args[j]? = some v → Value.okWide Tryz.prog W .any base t v := hval0
  have hW' := hW
  obtain ⟨p, q, hA0, hV, rfl, hfz, hnd⟩ := hW
  have hA : DataW.TrodAll enc Tryz.prog W 0 (fun _ => true) true Tryz.f11.params.toList args.toList ds p := hA0
  rw [Tryz.params11] at hA hval
  have hAll := hA
  obtain ⟨v0, v1, v2, d0, d1, d2, p0, p1, p2, rfl, rfl, rfl, h0, h1, h2⟩ := trodAll_three hA
  obtain ⟨rfl, rfl⟩ := trodVars_none hV
  obtain ⟨C, n1, cc, rfl⟩ := okWide_slice Tryz.underlying22 (hval 0 22 v0 rfl rfl)
  obtain ⟨fu0, hf0⟩ := h0
  obtain ⟨qs, rfl, hk, -⟩ := kinds_of_trod (by simpa [Value.cells] using hf0)
  obtain ⟨D, cd, bs, rfl, hb, hnil⟩ := model_open (hval 1 25 v1 rfl rfl) h1
  obtain ⟨b0, b1, b2, b3, b4, b5, fu2, rfl, hf2⟩ := open_six Tryz.underlying63 cells_brick (hval 2 63 v2 rfl rfl) h2
  obtain ⟨⟨kd, ⟨x, y, z⟩, t, c⟩, hb2, hby⟩ := brick_of_trod hf2
  unfold Brk.cs at hb2
  simp only [List.cons.injEq, and_true] at hb2
  obtain ⟨rfl, rfl, rfl, rfl, rfl, rfl⟩ := hb2
  clear hA0 hval0
  simp only [List.append_nil] at hW' hAll
  have hlt : ∀ q ∈ p0 ++ p1 ++ p2, q.block < W.heap.size := fun q hq => hW'.lt q hq
  refine (add_walk qs C cc bs D cd kd x y z t c W hk hb hnil hby).mono fun e W' ⟨he, hE⟩ => ?_
  subst he
  refine ⟨_, rfl, ?_⟩
  refine ⟨_, _, _, [], p0 ++ p1 ++ p2, [], hW', ?_, ?_, rfl, hE.frame _, fun h => by cases h⟩
  · exact trodAll_mk1 (shut_bool Tryz.underlying4 true)
  · exact trodAll_ext (ts := [22, 25, 63]) Tryz.laidOut hE (by
      intro t ht
      simp only [List.mem_cons, List.not_mem_nil, or_false] at ht
      rcases ht with rfl | rfl | rfl <;> exact ⟨by kernel_rfl, of_decide_eq_true (by kernel_rfl)⟩) hAll hlt

theorem latticeAdded_holds : Rows.LatticeAddedSaid :=
  OpenClaim.holds_of_wide 11 Tryz.f11 rfl rfl rfl rfl rfl rfl rfl ⟨rfl, rfl, rfl, rfl, rfl⟩ rfl rfl rfl rfl rfl (by kernel_rfl) Tryz.func11 (by kernel_rfl)
    (of_decide_eq_true (by kernel_rfl)) (by unfold Func.isWrapper; rw [if_neg (of_decide_eq_false (by kernel_rfl))]; exact ⟨rfl, rfl⟩)
    (fun os started H enc _ => latticeAdded_lifted os started H enc)
#print axioms latticeAdded_holds
end Go.Proofs.YtenigkngmdofiaaGreat
