
/- Cells and Knobs of the program at a brick of a valid model, by its number. plus of the laws; less of links. LatticeTouch, plain: the knobs of a link; the strengths summed over pairs; joints. -/
import Derived.Test.YtjacbhomhjoolaaGreatBApi
import Derived.Test.YtjacbhomhjoolaaGreatBApart
import Derived.Test.YtjacbhomhjoolaaGreatBTurnB
import Derived.Test.YtjacbhomhjoolaaGreatBLinkS
namespace Go.Proofs.YtjacbhomhjoolaaGreat
open Go.RowKit

theorem bricks_cell {w : World} {B : Option Addr} {cap : Nat} {l : List Brk} (h : Bricks w B cap l) {k : Nat} (hk : k < l.length) {g off : Nat} (hA : B = some ⟨g,off,none⟩) : w.cell? ⟨g,off + k * 6,none⟩ = some (.int .i64 (brkAt l k).kind) ∧ w.cell? ⟨g,off + k * 6 + 1,none⟩ = some (.int .i64 (brkAt l k).at_.x) ∧
  w.cell? ⟨g,off + k * 6 + 2,none⟩ = some (.int .i64 (brkAt l k).at_.y) ∧ w.cell? ⟨g,off + k * 6 + 3,none⟩ = some (.int .i64 (brkAt l k).at_.z) ∧ w.cell? ⟨g,off + k * 6 + 4,none⟩ = some (.int .u8 (brkAt l k).turn) ∧ w.cell? ⟨g,off + k * 6 + 5,none⟩ = some (.int .u8 (brkAt l k).color) := by
 obtain ⟨b,o,p,hA',hp, -, -,c0,c1,c2,c3,c4,c5⟩ := h.at_ hk
 rw [hA'] at hA
 cases hA
 rw [brkAt_eq hp]
 exact ⟨c0,c1,c2,c3,c4,c5⟩
theorem bricks_addr {w : World} {B : Option Addr} {cap : Nat} {l : List Brk} (h : Bricks w B cap l) (hk : 0 < l.length) : ∃ g off,B = some ⟨g,off,none⟩ := by
 obtain ⟨b,o,p,hA', -⟩ := h.at_ hk
 exact ⟨b,o,hA'⟩
def brkV (b : Brk) : Value := .agg #[.int .i64 b.kind,.int .i64 b.at_.x,.int .i64 b.at_.y,.int .i64 b.at_.z,.int .u8 b.turn,.int .u8 b.color]
section
variable {qs : List (Knd × KAt)} {bs : List Brk}
theorem brk_parts {w : World} {QA : Option Addr} {qc : Nat} (hk : Kinds w QA qc qs) (hb : ∀ b ∈ bs,b.byte) (h0 : modelErr (qs.map (·.1)) bs = 0) {j : Nat} (hj : j < bs.length) : ∃ (i t : Nat) (x y z c : Int) (k : Knd) (p : KAt),brkAt bs j = ⟨i,⟨x,y,z⟩,t,c⟩ ∧ t < 24 ∧ qs[i]? = some (k,p) ∧ k.Fine ∧ Pt.in_ 1000 ⟨x,y,z⟩ ∧ Brk.byte ⟨i,⟨x,y,z⟩,t,c⟩ ∧
  askedErr (qs.map (·.1)) [⟨i,⟨x,y,z⟩,t,c⟩] = 0 ∧ bcells (qs.map (·.1)) (brkAt bs j) = sortP (placeP k.cells t ⟨x,y,z⟩) ∧ bknobs (qs.map (·.1)) (brkAt bs j) = placeK k.knobs t ⟨x,y,z⟩ := by
 have hf := mfine_of hk hb h0
 have hq : bs[j]? = some bs[j] := List.getElem?_eq_getElem hj
 have hm := List.getElem_mem hj
 obtain ⟨i,t,k,p,e1,e2,ht,hi,hkf,hp, -⟩ := hf.b _ hm
 have hby := hb _ hm
 have has := asked_one (modelErr_zero h0).2.2 hm
 have hc := bcells_is e1 e2 hi
 have hn := bknobs_is e1 e2 hi
 rw [brkAt_eq hq]
 obtain ⟨b,hbe⟩ : ∃ b,bs[j] = b := ⟨_,rfl⟩
 rw [hbe] at e1 e2 hp hby has hc hn ⊢
 obtain ⟨kd,⟨x,y,z⟩,tt,c⟩ := b
 simp only at e1 e2 hp hc hn
 subst e1 e2
 exact ⟨i,t,x,y,z,c,k,p,rfl,ht,hi,hkf,hp,hby,has,hc,hn⟩
theorem cellsAt_c {w : World} {QA : Option Addr} {qc : Nat} (hk : Kinds w QA qc qs) (hb : ∀ b ∈ bs,b.byte) (h0 : modelErr (qs.map (·.1)) bs = 0) {j : Nat} (hj : j < bs.length) (W : World) (E : Ext w W) :
  Calls Tryz.prog 14 #[.slice QA qs.length qc,brkV (brkAt bs j)] W (CellsRes (bcells (qs.map (·.1)) (brkAt bs j)) (bcells (qs.map (·.1)) (brkAt bs j)).length W) := by
 obtain ⟨i,t,x,y,z,c,k,p,e,ht,hi,hkf,hp,hby,has,hc, -⟩ := brk_parts hk hb h0 hj
 have h := Cells_ok qs QA qc W (hk.ext E) i k p hi hkf x y z c t hby has ht (hp.ok (by omega))
 have hl : k.cells.length = (bcells (qs.map (·.1)) (brkAt bs j)).length := by rw [hc,sortP_len,placeP_len]
 rw [hl,← hc] at h
 rw [e] at h ⊢
 exact h
end


section
variable {K V : Type} [DecidableEq K]
theorem keys_putK {m : List (K × V)} {x p : K} {v : V} : p ∈ (putK m x v).map (·.1) ↔ p = x ∨ p ∈ m.map (·.1) := by
 induction m with
 | nil => simp [putK]
 | cons q m ih =>
  unfold putK
  split
  ·rename_i h
   simp only [List.map_cons,List.mem_cons]
   constructor
   ·rintro (h1 | h1)
    ·exact Or.inl h1
    ·exact Or.inr (Or.inr h1)
   ·rintro (h1 | h1 | h1)
    ·exact Or.inl h1
    ·exact Or.inl (h1.trans h.symm)
    ·exact Or.inr h1
  ·simp only [List.map_cons,List.mem_cons,ih]
   constructor
   ·rintro (h1 | h1 | h1)
    ·exact Or.inr (Or.inl h1)
    ·exact Or.inl h1
    ·exact Or.inr (Or.inr h1)
   ·rintro (h1 | h1 | h1)
    ·exact Or.inr (Or.inl h1)
    ·exact Or.inl h1
    ·exact Or.inr (Or.inr h1)
end
def prOf (x : Lnk) : Int × Int := ((x.a : Int),(x.b : Int))
def sumL (l : List Lnk) (p : Int × Int) : Int := ((l.filter fun x => decide (prOf x = p)).map fun x => strongS x.sort).sum
structure Sums (m : List ((Int × Int) × Int)) (l : List Lnk) : Prop where
 at_ : ∀ p,(getK m p).getD 0 = sumL l p
 nd : (m.map (·.1)).Nodup
 k : ∀ p,p ∈ m.map (·.1) ↔ ∃ x ∈ l,prOf x = p
theorem Sums.nil : Sums [] [] := ⟨fun _ => rfl,List.nodup_nil,fun p => by simp⟩
theorem sumL_snoc (l : List Lnk) (x : Lnk) (p : Int × Int) : sumL (l ++ [x]) p = sumL l p + if prOf x = p then strongS x.sort else 0 := by
 unfold sumL
 rw [List.filter_append,List.map_append,List.sum_append]
 by_cases h : prOf x = p <;> simp [h]
theorem Sums.put {m : List ((Int × Int) × Int)} {l : List Lnk} (h : Sums m l) (x : Lnk) : Sums (putK m (prOf x) ((getK m (prOf x)).getD 0 + strongS x.sort)) (l ++ [x]) := by
 refine ⟨fun p => ?_,putK_keys _ _ _ h.nd,fun p => ?_⟩
 ·rw [getK_putK,sumL_snoc]
  by_cases hp : p = prOf x
  ·subst hp
   rw [if_pos rfl,if_pos rfl,h.at_]
   rfl
  ·rw [if_neg hp,if_neg fun e => hp e.symm,h.at_]
   omega
 ·rw [keys_putK,h.k]
  constructor
  ·rintro (rfl | ⟨y,hy,rfl⟩)
   ·exact ⟨x,by simp,rfl⟩
   ·exact ⟨y,by simp [hy],rfl⟩
  ·rintro ⟨y,hy,rfl⟩
   rcases List.mem_append.1 hy with hy | hy
   ·exact Or.inr ⟨y,hy,rfl⟩
   ·rw [List.mem_singleton.1 hy]
    exact Or.inl rfl
theorem strongS_le (s : Int) : 0 ≤ strongS s ∧ strongS s ≤ 5 := by
 unfold strongS
 repeat' split
 all_goals omega
theorem sum_strong (l : List Lnk) : 0 ≤ (l.map fun x => strongS x.sort).sum ∧ (l.map fun x => strongS x.sort).sum ≤ 5 * l.length := by
 induction l with
 | nil => simp
 | cons x l ih =>
  have := strongS_le x.sort
  rw [List.map_cons,List.sum_cons,List.length_cons]
  omega
theorem sumL_le (l : List Lnk) (p : Int × Int) : 0 ≤ sumL l p ∧ sumL l p ≤ 5 * l.length := by
 have := sum_strong (l.filter fun x => decide (prOf x = p))
 have := List.length_filter_le (fun x => decide (prOf x = p)) l
 unfold sumL
 omega

/-! ### the knobs of a link -/
section
variable {ks : List Knd} {bs : List Brk}
theorem oddS_sort {s : Int} (h0 : 1 ≤ s) (h1 : s ≤ 6) : oddS s = 1 ∨ oddS s = 3 ∨ oddS s = 5 := by
 unfold oddS
 omega
theorem IsLnk.sorts (hf : Fit ks bs) {x : Lnk} (h : IsLnk ks bs x) : (x.sort = 1 ∨ x.sort = 3 ∨ x.sort = 5) ∧
  min (knobAt ks bs x.a x.knob).sort (knobAt ks bs x.b x.other).sort = x.sort ∧ max (knobAt ks bs x.a x.knob).sort (knobAt ks bs x.b x.other).sort = x.sort + 1 := by
 have hm := meetB_iff.1 h.m
 have hs := h.s
 have h1 := hf.dir (Nat.lt_trans h.ab h.b) h.k
 have h2 := hf.dir h.b h.o
 unfold knobAt
 obtain ⟨s,hs1⟩ : ∃ s,(knbAt (bknobs ks (brkAt bs x.a)) x.knob).sort = s := ⟨_,rfl⟩
 obtain ⟨t,ht1⟩ : ∃ s,(knbAt (bknobs ks (brkAt bs x.b)) x.other).sort = s := ⟨_,rfl⟩
 rw [hs1,ht1] at hm
 rw [hs1] at hs h1
 rw [ht1] at h2
 rw [hs1,ht1]
 have e1 := hm.2.2.1
 have e2 := hm.2.2.2
 rw [hs]
 refine ⟨oddS_sort h1.2.2.1 h1.2.2.2,?_⟩
 unfold oddS at *
 have := h1.2.2
 have := h2.2.2
 omega
end

/-! ### joints -/
def ltPr (p q : Int × Int) : Prop := p.1 < q.1 ∨ (p.1 = q.1 ∧ p.2 < q.2)
theorem ltPr_le {p q r : Int × Int} (h : ltPr p q ∨ p = q) (k : ltPr q r) : ltPr p r := by
 obtain ⟨a,b⟩ := p
 obtain ⟨c,d⟩ := q
 obtain ⟨e,f⟩ := r
 unfold ltPr at *
 simp only [Prod.mk.injEq] at *
 omega
theorem ltK_pr {x y : Lnk} (h : ltK x y = true) : ltPr (prOf x) (prOf y) ∨ prOf x = prOf y := by
 rw [ltK_iff] at h
 unfold ltPr prOf
 simp only [Prod.mk.injEq]
 omega
section
variable {ks : List Knd} {bs : List Brk} {L : List Lnk}
def jPr (j : Jnt) : Int × Int := ((j.a : Int),(j.b : Int))
theorem jntAt_some {i : Nat} {j : Jnt} (h : jntAt ks bs L i = some j) : (i = 0 ∨ sameP (lnkAt L (i - 1)) (lnkAt L i) = false) ∧ j = joinJ ks bs (L.filter (sameP (lnkAt L i))) := by
 unfold jntAt at h
 split at h
 ·cases h
 ·rename_i hn
  refine ⟨?_,(Option.some.inj h).symm⟩
  rcases Nat.eq_zero_or_pos i with h0 | h0
  ·exact Or.inl h0
  ·right
   cases e : sameP (lnkAt L (i - 1)) (lnkAt L i)
   ·rfl
   ·exact absurd ⟨h0,e⟩ hn
theorem head_filter {i : Nat} (hi : i < L.length) : 0 < (L.filter (sameP (lnkAt L i))).length ∧ prOf (lnkAt (L.filter (sameP (lnkAt L i))) 0) = prOf (lnkAt L i) := by
 have hm : lnkAt L i ∈ L.filter (sameP (lnkAt L i)) := List.mem_filter.2 ⟨lnkAt_mem hi,by rw [sameP_iff]; exact ⟨rfl,rfl⟩⟩
 have h0 : 0 < (L.filter (sameP (lnkAt L i))).length := List.length_pos_of_mem hm
 have h1 := (sameP_iff.1 (List.mem_filter.1 (lnkAt_mem h0)).2)
 refine ⟨h0,?_⟩
 unfold prOf
 rw [h1.1,h1.2]
theorem joinJ_pr {i : Nat} (hi : i < L.length) : jPr (joinJ ks bs (L.filter (sameP (lnkAt L i)))) = prOf (lnkAt L i) := (head_filter hi).2
theorem joinJ_sum {i : Nat} (_ : i < L.length) : (joinJ ks bs (L.filter (sameP (lnkAt L i)))).strength = sumL L (prOf (lnkAt L i)) := by
 show (((L.filter (sameP (lnkAt L i))).take (L.filter (sameP (lnkAt L i))).length).map fun y => strongS y.sort).sum = _
 rw [List.take_length]
 unfold sumL
 congr 2
 refine List.filter_congr fun x _ => ?_
 unfold sameP prOf
 rw [← Bool.decide_and,decide_eq_decide,Prod.mk.injEq]
 omega
theorem sumL_pos {x : Lnk} (hx : x ∈ L) (hs : ∀ y ∈ L,y.sort = 1 ∨ y.sort = 3 ∨ y.sort = 5) : sumL L (prOf x) ≠ 0 := by
 obtain ⟨s,t,rfl⟩ := List.append_of_mem hx
 have h1 := sum_strong (s.filter fun y => decide (prOf y = prOf x))
 have h2 := sum_strong (t.filter fun y => decide (prOf y = prOf x))
 unfold sumL
 rw [List.filter_append,List.filter_cons,if_pos (by simp),List.map_append,List.sum_append,List.map_cons,List.sum_cons]
 have : 2 ≤ strongS x.sort := by
  rcases hs x hx with h | h | h <;> rw [h] <;> decide
 omega
structure JntsOk (L : List Lnk) (J : List Jnt) : Prop where
 s : ∀ j ∈ J,sumL L (jPr j) = j.strength ∧ j.strength ≠ 0
 a : ∀ j ∈ J,(j.slides = true → j.axis ≠ 0) ∧ 0 ≤ j.axis ∧ j.axis ≤ 3
 o : J.Pairwise fun x y => ltPr (jPr x) (jPr y)
 k : ∀ p,(∃ x ∈ L,prOf x = p) ↔ p ∈ J.map jPr
theorem first_of {i : Nat} (hi : i < L.length) : ∃ k,k ≤ i ∧ prOf (lnkAt L k) = prOf (lnkAt L i) ∧ (k = 0 ∨ sameP (lnkAt L (k - 1)) (lnkAt L k) = false) := by
 induction i with
 | zero => exact ⟨0,Nat.le_refl _,rfl,Or.inl rfl⟩
 | succ i ih =>
  cases e : sameP (lnkAt L i) (lnkAt L (i + 1))
  ·exact ⟨i + 1,Nat.le_refl _,rfl,Or.inr e⟩
  ·obtain ⟨k,hk,hp,h0⟩ := ih (by omega)
   have := sameP_iff.1 e
   exact ⟨k,by omega,by rw [hp]; unfold prOf; rw [this.1,this.2],h0⟩
theorem jntsOk (hf : Fit ks bs) (hL : L = linkL ks bs) : JntsOk L (pj ks bs L L.length) := by
 have ha : L.Pairwise fun x y => ltK x y = true := hL ▸ linkL_asc hf
 have hl : ∀ x ∈ L,IsLnk ks bs x := fun x hx => mem_linkL.1 (hL ▸ hx)
 have hmem : ∀ {j},j ∈ pj ks bs L L.length → ∃ i,i < L.length ∧ jntAt ks bs L i = some j := fun {j} h => by
  obtain ⟨i,hi,e⟩ := List.mem_filterMap.1 h
  exact ⟨i,List.mem_range.1 hi,e⟩
 refine ⟨fun j hj => ?_,fun j hj => ?_,?_,fun p => ?_⟩
 ·obtain ⟨i,hi,e⟩ := hmem hj
  obtain ⟨-,rfl⟩ := jntAt_some e
  rw [joinJ_pr hi,joinJ_sum hi]
  exact ⟨rfl,sumL_pos (lnkAt_mem hi) fun y hy => ((hl y hy).sorts hf).1⟩
 ·obtain ⟨i,hi,e⟩ := hmem hj
  obtain ⟨-,rfl⟩ := jntAt_some e
  obtain ⟨h0, -⟩ := head_filter hi
  have hm := (List.mem_filter.1 (lnkAt_mem h0)).1
  have hk := hl _ hm
  have hd := hf.dir (Nat.lt_trans hk.ab hk.b) hk.k
  refine ⟨fun h => ?_,?_⟩
  ·have : ∀ j : Jnt,(endJ j).slides = true → (endJ j).axis ≠ 0 := fun j h => by
    unfold endJ at h ⊢
    simp only [Bool.and_eq_true,decide_eq_true_eq] at h
    exact h.2
   exact this _ h
  ·show 0 ≤ (midJ ks bs _ _ _).axis ∧ (midJ ks bs _ _ _).axis ≤ 3
   rcases midJ_axis (ks := ks) (bs := bs) (lnkAt (L.filter (sameP (lnkAt L i))) 0) (L.filter (sameP (lnkAt L i))) (L.filter (sameP (lnkAt L i))).length with e | e
   ·rw [e]
    unfold knobAt
    omega
   ·rw [e]
    omega
 ·unfold pj
  rw [List.pairwise_filterMap]
  refine List.pairwise_lt_range.imp_of_mem fun {i k} hi hk hik j1 e1 j2 e2 => ?_
  have hi := List.mem_range.1 hi
  have hk := List.mem_range.1 hk
  obtain ⟨-,rfl⟩ := jntAt_some e1
  obtain ⟨h2,rfl⟩ := jntAt_some e2
  rw [joinJ_pr hi,joinJ_pr hk]
  have key : ∀ a b,a ≤ b → b < L.length → ltPr (prOf (lnkAt L a)) (prOf (lnkAt L b)) ∨ prOf (lnkAt L a) = prOf (lnkAt L b) := fun a b hab hb => by
   rcases Nat.lt_or_ge a b with h | h
   ·have := List.pairwise_iff_getElem.1 ha a b (by omega) hb h
    rw [← Option.some.inj ((List.getElem?_eq_getElem (by omega)).symm.trans (lnkAt_get (l := L) (k := a) (by omega))),← Option.some.inj ((List.getElem?_eq_getElem hb).symm.trans (lnkAt_get (l := L) (k := b) hb))]
    exact ltK_pr this
   ·obtain rfl : a = b := by omega
    exact Or.inr rfl
  rcases h2 with h2 | h2
  ·omega
  ·refine ltPr_le (key i (k - 1) (by omega) (by omega)) ?_
   rcases key (k - 1) k (by omega) hk with h | h
   ·exact h
   ·exfalso
    rw [Bool.eq_false_iff] at h2
    refine h2 (sameP_iff.2 ?_)
    unfold prOf at h
    rw [Prod.mk.injEq] at h
    omega
 ·rw [List.mem_map]
  constructor
  ·rintro ⟨x,hx,rfl⟩
   obtain ⟨i,hi,rfl⟩ := List.getElem_of_mem hx
   obtain ⟨k,hk,hp,h0⟩ := first_of hi
   refine ⟨joinJ ks bs (L.filter (sameP (lnkAt L k))),List.mem_filterMap.2 ⟨k,List.mem_range.2 (by omega),?_⟩,?_⟩
   ·unfold jntAt
    rw [if_neg]
    rintro ⟨h1,h2⟩
    rcases h0 with h0 | h0
    ·omega
    ·rw [h0] at h2
     cases h2
   ·rw [joinJ_pr (by omega),hp]
    congr 1
    exact (Option.some.inj ((List.getElem?_eq_getElem hi).symm.trans (lnkAt_get hi))).symm
  ·rintro ⟨j,hj,rfl⟩
   obtain ⟨i,hi,e⟩ := hmem hj
   obtain ⟨-,rfl⟩ := jntAt_some e
   exact ⟨_,lnkAt_mem hi,(joinJ_pr hi).symm⟩
theorem JntsOk.len {J : List Jnt} (h : JntsOk L J) {m : List ((Int × Int) × Int)} (hs : Sums m L) : J.length = m.length := by
 have h1 : (J.map jPr).Nodup := by
  unfold List.Nodup
  rw [List.pairwise_map]
  refine h.o.imp fun {x y} hxy e => ?_
  rw [e] at hxy
  unfold ltPr at hxy
  omega
 have h2 : (J.map jPr).Perm (m.map (·.1)) := (List.perm_ext_iff_of_nodup h1 hs.nd).2 fun p => (h.k p).symm.trans (hs.k p).symm
 have := h2.length_eq
 rwa [List.length_map,List.length_map] at this
end
end Go.Proofs.YtjacbhomhjoolaaGreat
