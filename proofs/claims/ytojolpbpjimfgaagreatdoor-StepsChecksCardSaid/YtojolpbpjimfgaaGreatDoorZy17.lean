/- Texts of the proof: JoinP, NumX, GroupS, NextS, Upd. -/
import Derived.Test.YtojolpbpjimfgaaGreatDoorZy1
import Derived.Test.YtojolpbpjimfgaaGreatDoorZy6
import Derived.Test.YtojolpbpjimfgaaGreatDoorZy11
import Derived.Test.YtojolpbpjimfgaaGreatDoorZy14
import Derived.Test.YtojolpbpjimfgaaGreatDoorZy16
namespace Go.Proofs.YtojolpbpjimfgaaGreatDoor
open Go.RowKit
section
variable (ks:List Knd) (bs:List Brk)
def dirN(i q:Nat):Nat:=(knbAt (bknobs ks (brkAt bs i)) q).dir.toNat
def putJ(f:Nat→Nat→Nat)(i o j:Nat):Nat→Nat→Nat:=fun a b=>if a=i∧b=o then putN (f a b) j else f a b
def linkJ(f:Nat→Nat→Nat)(x:Lnk):Nat→Nat→Nat:=putJ (putJ f x.a (dirN ks bs x.a x.knob) x.b) x.b (dirN ks bs x.b x.other) x.a
def joinF(l:List Lnk):Nat→Nat→Nat:=l.foldl (linkJ ks bs) fun _ _=>0
theorem joinF_snoc(l:List Lnk)(x:Lnk):joinF ks bs (l ++ [x])=linkJ ks bs (joinF ks bs l) x:=by
 unfold joinF;rw[List.foldl_append];rfl
end
section
variable {ks:List Knd} {bs:List Brk}
theorem putJ_bit{f:Nat→Nat→Nat}{i o j a b k:Nat}:(putJ f i o j a b).testBit k=((f a b).testBit k||(decide (a=i)&&(decide (b=o)&&decide (j=k)))):=by
 unfold putJ;by_cases h1:a=i
 ·by_cases h2:b=o
  ·rw[if_pos ⟨h1,h2⟩,putN_bit];simp[h1,h2]
  ·rw[if_neg (fun h=>h2 h.2)];simp[h2]
 ·rw[if_neg (fun h=>h1 h.1)];simp[h1]
theorem foldJ_bit: ∀(l:List Lnk) (f:Nat→Nat→Nat) (a b k:Nat),(l.foldl (linkJ ks bs) f a b).testBit k=true↔(f a b).testBit k=true ∨ ∃x∈l,(x.a=a∧x.b=k∧dirN ks bs a x.knob=b)∨(x.b=a∧x.a=k∧dirN ks bs a x.other=b)
 | [],f,a,b,k=>by simp
 | x::l,f,a,b,k=>by
  rw[List.foldl_cons,foldJ_bit l];have h:(linkJ ks bs f x a b).testBit k=true↔(f a b).testBit k=true∨((x.a=a∧x.b=k∧dirN ks bs a x.knob=b)∨(x.b=a∧x.a=k∧dirN ks bs a x.other=b)):=by
   unfold linkJ;rw[putJ_bit,putJ_bit];simp only[Bool.or_eq_true,Bool.and_eq_true,decide_eq_true_eq];constructor
   ·rintro((h|⟨rfl,rfl,rfl⟩)|⟨rfl,rfl,rfl⟩)
    ·exact Or.inl h
    ·exact Or.inr (Or.inl ⟨rfl,rfl,rfl⟩)
    ·exact Or.inr (Or.inr ⟨rfl,rfl,rfl⟩)
   ·rintro(h|⟨rfl,rfl,rfl⟩|⟨rfl,rfl,rfl⟩)
    ·exact Or.inl (Or.inl h)
    ·exact Or.inl (Or.inr ⟨rfl,rfl,rfl⟩)
    ·exact Or.inr ⟨rfl,rfl,rfl⟩
  rw[h];constructor
  ·rintro((h|h)|⟨y,hy,h⟩)
   ·exact Or.inl h
   ·exact Or.inr ⟨x,by simp,h⟩
   ·exact Or.inr ⟨y,by simp[hy],h⟩
  ·rintro(h1|⟨y,hy,h1⟩)
   ·exact Or.inl (Or.inl h1)
   ·rcases List.mem_cons.1 hy with rfl|hy
    ·exact Or.inl (Or.inr h1)
    ·exact Or.inr ⟨y,hy,h1⟩
theorem joinF_bit{l:List Lnk}{a b k:Nat}:(joinF ks bs l a b).testBit k=true ↔ ∃x∈l,(x.a=a∧x.b=k∧dirN ks bs a x.knob=b)∨(x.b=a∧x.a=k∧dirN ks bs a x.other=b):=by
 unfold joinF;rw[foldJ_bit];simp
theorem joinF_set{n:Nat}(h: ∀x∈linkL ks bs,x.a<n∧x.b<n){l:List Lnk}(hl: ∀x∈l,x∈linkL ks bs)(a b:Nat):SetB n (joinF ks bs l a b):=fun k hk=>by
 obtain⟨x,hx,h1|h1⟩:=joinF_bit.1 hk
 ·exact h1.2.1▸(h x (hl x hx)).2
 ·exact h1.2.1▸(h x (hl x hx)).1
theorem lnk_lt{x:Lnk}(h:x∈linkL ks bs):x.a<bs.length∧x.b<bs.length∧x.knob<(bknobs ks (brkAt bs x.a)).length∧x.other<(bknobs ks (brkAt bs x.b)).length:=by
 have h:=mem_linkL.1 h;have:=h.ab;have:=h.b;exact⟨by omega,h.b,h.k,h.o⟩
theorem Fit.dirN(hf:Fit ks bs){j q:Nat}(hj:j<bs.length)(hq:q<(bknobs ks (brkAt bs j)).length):(knbAt (bknobs ks (brkAt bs j)) q).dir=(Go.Proofs.YtojolpbpjimfgaaGreatDoor.dirN ks bs j q:Int)∧Go.Proofs.YtojolpbpjimfgaaGreatDoor.dirN ks bs j q<6:=by
 obtain⟨tn,k,d,ht,-,-,hd,-,-,-,e,-⟩:=hf.knob hj hq;unfold Go.Proofs.YtojolpbpjimfgaaGreatDoor.dirN;rw[e];have hlt:=dirT_lt hd ht;simp only[Int.toNat_natCast];exact⟨trivial,hlt⟩
theorem fit_join(hf:Fit ks bs){z b d:Nat}(hb:b<bs.length):(∀x∈linkL ks bs,fitX ks bs z b d x) ↔ ∀o,o<6→o≠d→joinF ks bs (linkL ks bs) b o&&&z=0:=by
 constructor
 ·intro h o ho hne;refine Nat.eq_of_testBit_eq fun k=> ?_;rw[Nat.zero_testBit,Nat.testBit_and];cases hk:(joinF ks bs (linkL ks bs) b o).testBit k
  ·rfl
  ·rw[Bool.true_and];cases hz:z.testBit k
   ·rfl
   ·obtain⟨x,hx,⟨rfl,rfl,h3⟩|⟨rfl,rfl,h3⟩⟩:=joinF_bit.1 hk
    ·have h1:=(h x hx).1 rfl hz;have hl:=lnk_lt hx;have h2:=(hf.dirN hl.1 hl.2.2.1).1;omega
    ·have h1:=(h x hx).2 rfl hz;have hl:=lnk_lt hx;have h2:=(hf.dirN hl.2.1 hl.2.2.2).1;omega
 ·intro h x hx;have hl:=lnk_lt hx;refine⟨fun e hz=> ?_,fun e hz=> ?_⟩
  ·subst e;obtain⟨h2,h3⟩:=hf.dirN hl.1 hl.2.2.1;by_cases he:Go.Proofs.YtojolpbpjimfgaaGreatDoor.dirN ks bs x.a x.knob=d
   ·omega
   ·have h4:=congrArg (fun n=>Nat.testBit n x.b) (h _ h3 he);simp only[Nat.testBit_and,Nat.zero_testBit,hz,Bool.and_true] at h4;rw[joinF_bit.2 ⟨x,hx,Or.inl ⟨rfl,rfl,rfl⟩⟩] at h4;cases h4
  ·subst e;obtain⟨h2,h3⟩:=hf.dirN hl.2.1 hl.2.2.2;by_cases he:Go.Proofs.YtojolpbpjimfgaaGreatDoor.dirN ks bs x.b x.other=d
   ·omega
   ·have h4:=congrArg (fun n=>Nat.testBit n x.a) (h _ h3 he);simp only[Nat.testBit_and,Nat.zero_testBit,hz,Bool.and_true] at h4;rw[joinF_bit.2 ⟨x,hx,Or.inr ⟨rfl,rfl,rfl⟩⟩] at h4;cases h4
end
def NumX(w:World)(g:Nat)(l:List Int):Prop:= ∃ex,Blk w g 3 ((l.map numC).toArray++ex)
section
variable {w w':World} {g:Nat} {l:List Int}
theorem NumX.ext(h:NumX w g l)(E:Ext w w'):NumX w' g l:=by
 obtain⟨ex,h⟩:=h;exact⟨ex,h.ext E⟩
theorem NumX.lt(h:NumX w g l):g<w.heap.size:=by
 obtain⟨ex,h⟩:=h;exact h.lt
theorem NumX.frozen(h:NumX w g l)(i:Nat):w.frozen? ⟨g,i,none⟩=false:=by
 obtain⟨ex,h⟩:=h;exact h.frozen i
theorem NumX.cell(h:NumX w g l){i:Nat}{v:Int}(hv:l[i]? = some v):w.cell? ⟨g,i,none⟩=some (.int .i64 v):=by
 obtain⟨ex,h⟩:=h;have hl:=(List.getElem?_eq_some_iff.1 hv).1;rw[h.cell,Array.getElem?_append_left (by simpa using hl)];simp[hv,numC]
theorem NumX.set_(h:NumX w g l){i:Nat}(hi:i<l.length)(v:Int):NumX (w.setCell ⟨g,i,none⟩ (.int .i64 v)) g (l.set i v):=by
 obtain⟨ex,h⟩:=h;refine⟨ex,?_⟩;have:=h.set_ i (.int .i64 v);rw[Array.setIfInBounds_append,if_pos (by simpa using hi)] at this;have e:(l.map numC).toArray.setIfInBounds i (.int .i64 v)=((l.set i v).map numC).toArray:=by
  rw[List.setIfInBounds_toArray,List.map_set];rfl
 rwa [e] at this
theorem NumX.far(h:NumX w g l){p:Addr}(hp:g≠p.block)(v:Value):NumX (w.setCell p v) g l:=by
 obtain⟨ex,h⟩:=h;exact⟨ex,h.far hp v⟩
theorem num_rows(l:List Int):(l.map fun n=> [Value.int .i64 n]).flatten=l.map numC:=by
 induction l with
 | nil=>rfl
 | cons x l ih=>rw[List.map_cons,List.flatten_cons,ih];rfl
theorem NumX.of_own{b n cap:Nat}(h:w.ownsRow b 3 1 (.slice (some ⟨g,0,none⟩) n cap) n (l.map numC)):NumX w g l∧b≤g∧n≤cap∧cap≤maxLen:=by
 rw[←num_rows] at h;obtain⟨⟨ex,h1⟩,h2⟩:=RowX.of_own (rows:=l.map fun n=> [Value.int .i64 n]) h;refine⟨⟨ex,?_⟩,h2⟩;unfold rowsA at h1;rwa [num_rows] at h1
theorem NumX.slice(h:NumX w g l){cap:Nat}(h1:l.length≤cap)(h2:cap≤maxLen):IntsZ w (some ⟨g,0,none⟩) cap l :=
 ⟨by rw[List.length_map],h1,h2,fun r hr=>by obtain⟨y,-,rfl⟩:=List.mem_map.1 hr;rfl,fun _=>⟨g,0,rfl,h.lt,fun i r hr j u hu=>by
  rw[List.getElem?_map] at hr;obtain⟨v,hv,rfl⟩:=Option.map_eq_some_iff.1 hr;have hj:j=0:=by
   have:=(List.getElem?_eq_some_iff.1 hu).1
   simpa using this
  subst hj;simp only[List.getElem?_cons_zero,Option.some.injEq] at hu;subst hu;rw[Nat.zero_add,Nat.mul_one,Nat.add_zero]
  exact h.cell hv⟩⟩
end
def Nbr(L:List Lnk)(i k:Nat):Prop:= ∃x∈L,(x.a=i∧x.b=k)∨(x.b=i∧x.a=k)
theorem Nbr.symm{L:List Lnk}{i k:Nat}(h:Nbr L i k):Nbr L k i:=by
 obtain⟨x,hx,h|h⟩:=h
 ·exact⟨x,hx,Or.inr ⟨h.2,h.1⟩⟩
 ·exact⟨x,hx,Or.inl ⟨h.2,h.1⟩⟩
inductive Conn(L:List Lnk)(i:Nat):Nat→Prop where
 | refl:Conn L i i
 | step {j k:Nat}:Conn L i j→Nbr L j k→Conn L i k
theorem Conn.trans{L:List Lnk}{i j k:Nat}(h:Conn L i j)(h':Conn L j k):Conn L i k:=by
 induction h' with
 | refl=>exact h
 | step _ hn ih=>exact ih.step hn
theorem Conn.one{L:List Lnk}{i k:Nat}(h:Nbr L i k):Conn L i k:=Conn.refl.step h
theorem Conn.symm{L:List Lnk}{i j:Nat}(h:Conn L i j):Conn L j i:=by
 induction h with
 | refl=>exact .refl
 | step _ hn ih=>exact(Conn.one hn.symm).trans ih
structure Least(L:List Lnk)(i g:Nat):Prop where
 c:Conn L i g
 le: ∀j,Conn L i j→g≤j
theorem Least.unique{L:List Lnk}{i g h:Nat}(a:Least L i g)(b:Least L i h):g=h:=by
 have:=a.le _ b.c;have:=b.le _ a.c;omega
def Within(L:List Lnk)(n:Nat):Prop:= ∀x∈L,x.a<n∧x.b<n
theorem Nbr.lt{L:List Lnk}{n i k:Nat}(hw:Within L n)(h:Nbr L i k):i<n∧k<n:=by
 obtain⟨x,hx,h⟩:=h;have:=hw x hx;omega
theorem Conn.lt{L:List Lnk}{n i k:Nat}(hw:Within L n)(hi:i<n)(h:Conn L i k):k<n:=by
 induction h with
 | refl=>exact hi
 | step _ hn _=>exact(hn.lt hw).2
def isLeast(L:List Lnk)(n:Nat)(out:List Nat):Prop:=out.length=n ∧ ∀i,i<n→Least L i (out.getD i 0)
theorem isLeast.unique{L:List Lnk}{n:Nat}{a b:List Nat}(ha:isLeast L n a)(hb:isLeast L n b):a=b:=by
 refine List.ext_getElem (by rw[ha.1,hb.1]) fun i h1 h2=> ?_;have:=(ha.2 i (by have:=ha.1;omega)).unique (hb.2 i (by have:=ha.1;omega));rw[List.getD_eq_getElem?_getD,List.getD_eq_getElem?_getD,List.getElem?_eq_getElem h1,List.getElem?_eq_getElem h2] at this
 simpa using this
/-! The reference's rounds. -/
def rlx(o:List Nat)(x:Lnk):List Nat:=(o.set x.a (min (o.getD x.a 0) (o.getD x.b 0))).set x.b (min (o.getD x.a 0) (o.getD x.b 0))
def rlxs(L:List Lnk)(o:List Nat)(q:Nat):List Nat:=(L.take q).foldl rlx o
def rounds(L:List Lnk)(o:List Nat):Nat→List Nat
 | 0=>o
 | n+1=>rlxs L (rounds L o n) L.length
def groupL(L:List Lnk)(n:Nat):List Nat:=rounds L (List.range n) n
theorem rlx_len(o:List Nat)(x:Lnk):(rlx o x).length=o.length:=by simp[rlx]
theorem getD_set{o:List Nat}{i j v:Nat}(hi:i<o.length):(o.set i v).getD j 0=if i=j then v else o.getD j 0:=by
 rw[List.getD_eq_getElem?_getD,List.getD_eq_getElem?_getD,List.getElem?_set];by_cases h:i=j
 ·subst h;simp[hi]
 ·simp[h]
theorem rlx_at{o:List Nat}{x:Lnk}(ha:x.a<o.length)(hb:x.b<o.length)(j:Nat):(rlx o x).getD j 0=if j=x.a∨j=x.b then min (o.getD x.a 0) (o.getD x.b 0) else o.getD j 0:=by
 unfold rlx;rw[getD_set (by simpa using hb),getD_set ha];by_cases h1:x.b=j
 ·rw[if_pos h1,if_pos (Or.inr h1.symm)]
 ·rw[if_neg h1];by_cases h2:x.a=j
  ·rw[if_pos h2,if_pos (Or.inl h2.symm)]
  ·rw[if_neg h2,if_neg (by omega)]
def Sound(L:List Lnk)(n:Nat)(o:List Nat):Prop:=o.length=n ∧ ∀i,i<n→Conn L i (o.getD i 0)
theorem Sound.rlx{L:List Lnk}{n:Nat}{o:List Nat}(hw:Within L n)(h:Sound L n o){x:Lnk}(hx:x∈L):Sound L n (rlx o x) ∧ ∀j,(Go.Proofs.YtojolpbpjimfgaaGreatDoor.rlx o x).getD j 0≤o.getD j 0:=by
 have hl:=hw x hx;have ha:=rlx_at (o:=o) (x:=x) (by rw[h.1];exact hl.1) (by rw[h.1];exact hl.2);have hn:Nbr L x.a x.b:=⟨x,hx,Or.inl ⟨rfl,rfl⟩⟩;refine⟨⟨by rw[rlx_len,h.1],fun i hi=> ?_⟩,fun j=> ?_⟩
 ·rw[ha]
  split
  ·rename_i hij;have hm:min (o.getD x.a 0) (o.getD x.b 0)=o.getD x.a 0∨min (o.getD x.a 0) (o.getD x.b 0)=o.getD x.b 0:=by omega
   have c1:=h.2 x.a hl.1;have c2:=h.2 x.b hl.2;rcases hm with hm|hm <;> rw[hm] <;> rcases hij with rfl|rfl
   ·exact c1
   ·exact(Conn.one hn.symm).trans c1
   ·exact(Conn.one hn).trans c2
   ·exact c2
  ·exact h.2 i hi
 ·rw[ha]
  split
  ·rename_i hij;rcases hij with rfl|rfl <;> omega
  ·exact Nat.le_refl _
theorem Sound.rlxs{L:List Lnk}{n:Nat}(hw:Within L n): ∀(l:List Lnk) (o:List Nat),(∀x∈l,x∈L)→Sound L n o→Sound L n (l.foldl Go.Proofs.YtojolpbpjimfgaaGreatDoor.rlx o) ∧ ∀j,(l.foldl Go.Proofs.YtojolpbpjimfgaaGreatDoor.rlx o).getD j 0≤o.getD j 0
 | [],o,_,h=>⟨h,fun _=>Nat.le_refl _⟩
 | x::l,o,hl,h=>by
  obtain⟨h1,h2⟩:=h.rlx hw (hl x (List.mem_cons_self ..));obtain⟨h3,h4⟩:=Sound.rlxs hw l (Go.Proofs.YtojolpbpjimfgaaGreatDoor.rlx o x) (fun y hy=>hl y (List.mem_cons_of_mem _ hy)) h1;exact⟨h3,fun j=>Nat.le_trans (h4 j) (h2 j)⟩
theorem Sound.start(L:List Lnk)(n:Nat):Sound L n (List.range n):=⟨List.length_range,fun i hi=>by
 rw[List.getD_eq_getElem?_getD,List.getElem?_range hi]
 exact .refl⟩
theorem Sound.rounds{L:List Lnk}{n:Nat}(hw:Within L n){o:List Nat}(h:Sound L n o): ∀m,Sound L n (rounds L o m)
 | 0=>h
 | m+1=>by
  have:=(Sound.rlxs hw L _ (fun _ h=>h) (Sound.rounds hw h m)).1;unfold Go.Proofs.YtojolpbpjimfgaaGreatDoor.rounds Go.Proofs.YtojolpbpjimfgaaGreatDoor.rlxs;rw[List.take_length];exact this
open Classical in
noncomputable def reached(L:List Lnk)(n g:Nat)(o:List Nat):Nat:=(List.range n).countP fun i=>decide (Conn L g i∧o.getD i 0≤g)
/-! The search in depth: out holds a label, or a number below 0. -/
def lab(o:List Int)(v:Nat):Int:=o.getD v 0
theorem lab_set{o:List Int}{i j:Nat}{v:Int}(hi:i<o.length):lab (o.set i v) j=if i=j then v else lab o j:=by
 unfold lab;rw[List.getD_eq_getElem?_getD,List.getD_eq_getElem?_getD,List.getElem?_set];by_cases h:i=j
 ·subst h;simp[hi]
 ·simp[h]
structure Vis(L:List Lnk)(n:Nat)(i k:Nat)(o o':List Int):Prop where
 len:o'.length=o.length
 old: ∀v,0≤lab o v→lab o' v=lab o v
 new: ∀v,lab o v<0→lab o' v<0∨(lab o' v=i∧Conn L k v)
 at_:0≤lab o' k
 cl: ∀v,lab o v<0→0≤lab o' v → ∀u,Nbr L v u→0≤lab o' u
theorem Vis.done{L:List Lnk}{n i k:Nat}{o:List Int}(h:0≤lab o k):Vis L n i k o o:=⟨rfl,fun _ _=>rfl,fun _ h=>Or.inl h,h,fun v h h'=>by omega⟩
structure VisP(L:List Lnk)(n:Nat)(i k:Nat)(nb:List Nat)(t:Nat)(o o':List Int):Prop where
 len:o'.length=o.length
 old: ∀v,0≤lab o v→lab o' v=lab o v
 new: ∀v,lab o v<0→lab o' v<0∨(lab o' v=i∧Conn L k v)
 at_:0≤lab o' k
 cl: ∀v,v≠k→lab o v<0→0≤lab o' v → ∀u,Nbr L v u→0≤lab o' u
 nb: ∀s u,s<t→nb[s]? = some u→0≤lab o' u
theorem VisP.start{L:List Lnk}{n i k:Nat}{nb:List Nat}{o:List Int}(hk:k<o.length)(h:lab o k<0):VisP L n i k nb 0 o (o.set k i):=by
 have hl:=fun j=>lab_set (o:=o) (i:=k) (j:=j) (v:=(i:Int)) hk;refine⟨by simp,fun v hv=> ?_,fun v hv=> ?_,?_,fun v hv h1 h2=> ?_,fun s u hs=>by omega⟩
 ·rw[hl,if_neg (by rintro rfl;omega)]
 ·rw[hl];by_cases e:k=v
  ·subst e;rw[if_pos rfl];exact Or.inr ⟨rfl,.refl⟩
  ·rw[if_neg e];exact Or.inl hv
 ·rw[hl,if_pos rfl];omega
 ·rw[hl,if_neg (Ne.symm hv)] at h2;omega
theorem VisP.next{L:List Lnk}{n i k:Nat}{nb:List Nat}{t u:Nat}{o o' o'':List Int}(h:VisP L n i k nb t o o')(hu:nb[t]? = some u)(hn:Nbr L k u)(h':Vis L n i u o' o''):VisP L n i k nb (t+1) o o'':=by
 have mono: ∀v,0≤lab o' v→0≤lab o'' v:=fun v hv=>by rw[h'.old v hv];exact hv
 refine⟨h'.len.trans h.len,fun v hv=> ?_,fun v hv=> ?_,mono _ h.at_,fun v hv h1 h2 w hw=> ?_,fun s w hs hw=> ?_⟩
 ·rw[h'.old v (by rw[h.old v hv];exact hv),h.old v hv]
 ·rcases h.new v hv with h1|⟨h1,h2⟩
  ·rcases h'.new v h1 with h3|⟨h3,h4⟩
   ·exact Or.inl h3
   ·exact Or.inr ⟨h3,(Conn.one hn).trans h4⟩
  ·exact Or.inr ⟨by rw[h'.old v (by omega),h1],h2⟩
 ·rcases Int.lt_or_le (lab o' v) 0 with h3|h3
  ·exact h'.cl v h3 h2 w hw
  ·exact mono _ (h.cl v hv h1 h3 w hw)
 ·rcases Nat.lt_or_ge s t with h1|h1
  ·exact mono _ (h.nb s w h1 hw)
  ·obtain rfl:s=t:=by omega
   rw[hu] at hw;cases hw;exact h'.at_
theorem VisP.all{L:List Lnk}{n i k:Nat}{nb:List Nat}{o o':List Int}(h:VisP L n i k nb nb.length o o')(hnb: ∀u,Nbr L k u→u∈nb):Vis L n i k o o':=by
 refine⟨h.len,h.old,h.new,h.at_,fun v h1 h2 u hu=> ?_⟩;by_cases e:v=k
 ·subst e;obtain⟨s,hs⟩:=List.getElem?_of_mem (hnb u hu);exact h.nb s u (List.getElem?_eq_some_iff.1 hs).1 hs
 ·exact h.cl v e h1 h2 u hu
def negs(o:List Int):Nat:=o.countP fun v=>decide (v<0)
structure Upto(L:List Lnk)(n i:Nat)(o:List Int):Prop where
 len:o.length=n
 l: ∀v,v<n→0≤lab o v→Least L v (lab o v).toNat
 cl: ∀v,v<n→0≤lab o v → ∀u,Nbr L v u→0≤lab o u
 d: ∀j,j<i→0≤lab o j
theorem Upto.conn{L:List Lnk}{n i v u:Nat}{o:List Int}(hw:Within L n)(h:Upto L n i o)(hv:v<n)(h0:0≤lab o v)(hc:Conn L v u):0≤lab o u:=by
 induction hc with
 | refl=>exact h0
 | step hj hn ih=>exact h.cl _ (hj.lt hw hv) ih _ hn
theorem Upto.start(L:List Lnk)(n:Nat):Upto L n 0 (List.replicate n (-1)):=by
 have key: ∀v,v<n→lab (List.replicate n (-1)) v = -1:=fun v hv=>by
  unfold lab;rw[List.getD_eq_getElem?_getD,List.getElem?_replicate,if_pos hv];rfl
 refine⟨by simp,fun v hv h=> ?_,fun v hv h=> ?_,fun j hj=>by omega⟩
 ·rw[key v hv] at h;omega
 ·rw[key v hv] at h;omega
theorem Upto.next{L:List Lnk}{n i:Nat}{o o':List Int}(hw:Within L n)(hi:i<n)(h:Upto L n i o)(h':Vis L n i i o o'):Upto L n (i+1) o':=by
 have mono: ∀v,0≤lab o v→0≤lab o' v:=fun v hv=>by rw[h'.old v hv];exact hv
 refine⟨h'.len.trans h.len,fun v hv h0=> ?_,fun v hv h0 u hu=> ?_,fun j hj=> ?_⟩
 ·rcases Int.lt_or_le (lab o v) 0 with h1|h1
  ·rcases h'.new v h1 with h2|⟨h2,h3⟩
   ·omega
   ·rw[h2,Int.toNat_natCast];refine⟨h3.symm,fun j hj=> ?_⟩;rcases Nat.lt_or_ge j i with h4|h4
    ·exfalso;have h5:=h.conn hw (by omega) (h.d j h4) (hj.symm);omega
    ·exact h4
  ·rw[h'.old v h1];exact h.l v hv h1
 ·rcases Int.lt_or_le (lab o v) 0 with h1|h1
  ·exact h'.cl v h1 h0 u hu
  ·exact mono _ (h.cl v hv h1 u hu)
 ·rcases Nat.lt_or_ge j i with h1|h1
  ·exact mono _ (h.d j h1)
  ·obtain rfl:j=i:=by omega
   exact h'.at_
def setF{α:Type}(f:Nat→α)(i:Nat)(v:α):Nat→α:=fun d=>if d=i then v else f d
theorem setF_at{α:Type}(f:Nat→α)(i:Nat)(v:α):setF f i v i=v:=if_pos rfl
theorem setF_ne{α:Type}(f:Nat→α){i d:Nat}(v:α)(h:d≠i):setF f i v d=f d:=if_neg h
structure RowsO(w:World)(T n:Nat)(vs:Nat→Value)(f:Nat→List Int):Prop where
 row: ∀k,k<n→w.ownsRow T 3 1 (vs k) (f k).length ((f k).map numC)
 sep: ∀c d,c<n→d<n→c≠d → ∀r,(vs c).ownBlock=some r→(vs d).ownBlock≠some r
section
variable {w w':World} {T n:Nat} {vs:Nat→Value} {f:Nat→List Int}
theorem RowsO.ext(h:RowsO w T n vs f)(E:Ext w w'):RowsO w' T n vs f:=⟨fun k hk=>own_ext (h.row k hk) E,h.sep⟩
theorem RowsO.nil(w:World)(T n:Nat):RowsO w T n (fun _=>nilV) (fun _=> []):=⟨fun _ _=>World.ownsRow_nil _ _ _ _,fun _ _ _ _ _ r hr=>by cases hr⟩
theorem RowsO.other(h:RowsO w T n vs f){c:Nat}(hc:c<n){v':Value}{m:Nat}{xs ns:List Value}(hf:Fate w w' T 3 1 (vs c) v' m xs ns){d:Nat}(hd:d<n)(hdc:d≠c) :
  w'.ownsRow T 3 1 (vs d) (f d).length ((f d).map numC) ∧ ∀r,(vs d).ownBlock=some r→v'.ownBlock≠some r:=by
 obtain⟨-,g,cap,rfl,hh⟩:=hf;have key: ∀r,(vs d).ownBlock=some r→(Value.slice (some ⟨g,0,none⟩) (m+1) cap).ownBlock≠some r:=by
  intro r hr e;simp only[Value.ownBlock,Option.some.injEq] at e;subst e;rcases hh with⟨hu,-⟩|⟨hu,-⟩
  ·exact h.sep d c hd hc hdc g hr (by rw[hu];rfl)
  ·have:=((h.row d hd).lt _ hr).2;omega
 refine⟨?_,key⟩;rcases hh with⟨-,hg⟩|⟨-,hg⟩
 ·refine ownGrown (h.row d hd) hg ?_;cases ho:(vs d).ownBlock with
  | none=>exact Or.inl rfl
  | some r =>
   right;intro e;exact key r ho e.symm
 ·refine ownGrown (h.row d hd) hg ?_;cases ho:(vs d).ownBlock with
  | none=>exact Or.inl rfl
  | some r =>
   right;intro e;cases e
theorem RowsO.step(h:RowsO w T n vs f){c:Nat}(hc:c<n){v':Value}{j:Int}(hf:Fate w w' T 3 1 (vs c) v' (f c).length ((f c).map numC) [numC j]):RowsO w' T n (setF vs c v') (setF f c (f c ++ [j])):=by
 refine⟨fun d hd=> ?_,fun a b ha hb hab r hr=> ?_⟩
 ·by_cases e:d=c
  ·subst e;rw[setF_at,setF_at,List.length_append,List.map_append];exact hf.1
  ·rw[setF_ne _ _ e,setF_ne _ _ e];exact(h.other hc hf hd e).1
 ·by_cases ea:a=c
  ·subst ea;rw[setF_at] at hr;rw[setF_ne _ _ (Ne.symm hab)];exact fun e=>(h.other hc hf hb (Ne.symm hab)).2 r e hr
  ·rw[setF_ne _ _ ea] at hr;by_cases eb:b=c
   ·subst eb;rw[setF_at];exact(h.other hc hf ha ea).2 r hr
   ·rw[setF_ne _ _ eb];exact h.sep a b ha hb hab r hr
structure TmpO(w:World)(n:Nat)(vs:Nat→Value)(g:Nat)(x:Int):Prop where
 b:Blk w g 3 #[.int .i64 x]
 s: ∀k,k<n→(vs k).ownBlock≠some g
theorem TmpO.ext{g:Nat}{x:Int}(h:TmpO w n vs g x)(E:Ext w w'):TmpO w' n vs g x:=⟨h.b.ext E,h.s⟩
theorem TmpO.new(h:RowsO w T n vs f)(x:Int):TmpO (w.alloc (.cells #[.int .i64 x] 3)) n vs w.heap.size x:=⟨Blk.new _ _ _,fun k hk e=>by
 have:=((h.row k hk).lt _ e).2
 omega⟩
theorem TmpO.step{g c:Nat}{x:Int}(h:TmpO w n vs g x)(hc:c<n){v':Value}{m:Nat}{xs ns:List Value}(hf:Fate w w' T 3 1 (vs c) v' m xs ns):TmpO w' n (setF vs c v') g x:=by
 obtain⟨-,g0,cap,rfl,hh⟩:=hf;have hne:g0≠g:=by
  rcases hh with⟨hu,-⟩|⟨hu,-⟩
  ·exact fun e=>h.s c hc (by rw[hu,e];rfl)
  ·have:=h.b.lt;omega
 refine⟨?_,fun k hk=> ?_⟩
 ·rcases hh with⟨-,hg⟩|⟨-,hg⟩
  ·exact h.b.grown hg (fun e=>hne (Option.some.inj e).symm)
  ·exact h.b.grown hg (by nofun)
 ·by_cases e:k=c
  ·subst e;rw[setF_at];exact fun e=>hne (Option.some.inj e)
  ·rw[setF_ne _ _ e];exact h.s k hk
theorem Blk.fate{g:Nat}{t e:TypeId}{cs:Array Value}{b sz m:Nat}{v v':Value}{xs ys ns:List Value}{k:Nat}(h:Blk w g t cs)(own:w.ownsRow b e sz v k ys)(hf:Fate w w' b e sz v v' m xs ns)(hne:t≠e):Blk w' g t cs:=by
 obtain⟨-,g0,cap,rfl,hh⟩:=hf;rcases hh with⟨hu,hg⟩|⟨-,hg⟩
 ·refine blkGrown h own ?_ hne;rw[hu];exact hg
 ·exact h.grown hg (by nofun)
theorem Ext.fate{a:World}{e:TypeId}{b sz m:Nat}{v v':Value}{xs ys ns:List Value}{k:Nat}(E:Ext a w)(own:w.ownsRow b e sz v k ys)(hb:a.heap.size≤b)(hf:Fate w w' b e sz v v' m xs ns):Ext a w':=by
 obtain⟨-,g0,cap,rfl,hh⟩:=hf;rcases hh with⟨hu,hg⟩|⟨-,hg⟩
 ·refine E.grown hg fun k hk=> ?_;cases hk;have:=(own.lt g0 (by rw[hu];rfl)).1;omega
 ·exact E.grown hg fun k hk=>by cases hk
theorem Fate.size{e:TypeId}{b sz m:Nat}{v v':Value}{xs ns:List Value}(hf:Fate w w' b e sz v v' m xs ns):w.heap.size≤w'.heap.size:=by
 obtain⟨-,g0,cap,rfl,hh⟩:=hf;rcases hh with⟨-,hg⟩|⟨-,hg⟩ <;> exact hg.size
end
def vsA(n:Nat)(vs:Nat→Value):Array Value:=((List.range n).map vs).toArray
theorem vsA_get{n i:Nat}(vs:Nat→Value)(h:i<n):(vsA n vs)[i]? = some (vs i):=by
 unfold vsA;simp[h]
theorem vsA_set{n i:Nat}(vs:Nat→Value)(v:Value):(vsA n vs).setIfInBounds i v=vsA n (setF vs i v):=by
 apply Array.ext_getElem?;intro j;unfold vsA setF;rw[Array.getElem?_setIfInBounds];by_cases hj:j<n
 ·by_cases h:i=j
  ·subst h;simp[hj]
  ·rw[if_neg h];simp[hj,Ne.symm h]
 ·by_cases h:i=j
  ·subst h;simp[hj]
  ·rw[if_neg h];simp[hj]
def nbrs(l:List Lnk)(k:Nat):List Int:=l.flatMap fun x=>(if k=x.a then [(x.b:Int)] else [])++if k=x.b then [(x.a:Int)] else []
theorem RowsO.far{w:World}{T n:Nat}{vs:Nat→Value}{f:Nat→List Int}(h:RowsO w T n vs f){g:Nat}{t:TypeId}{cs:Array Value}(hb:Blk w g t cs)(ht:t≠3){p:Addr}(hp:p.block=g)(u:Value):RowsO (w.setCell p u) T n vs f:=by
 have ho:Only (fun b=>b=g) w (w.setCell p u):=(Only.refl _ _).setCell (fun _=>hp) _;refine⟨fun k hk=>own_only (h.row k hk) ho fun r hr e=> ?_,h.sep⟩;subst e;obtain⟨cs',h'⟩:=own_typed (h.row k hk) hr;exact ht (hb.types h')
theorem infoInts:(Tryz.prog.info? 26).map (fun i=>(i.zero,i.size,i.bytes))=some (some (.slice none 0 0),1,24):=by kernel_rfl
theorem infoInt2:(Tryz.prog.info? 3).map (fun i=>(i.zero,i.size,i.bytes))=some (some (.int .i64 0),1,8):=by kernel_rfl
theorem flat_one(n:Nat)(v:Value):(List.replicate n [v]).flatten=List.replicate n v:=by
 induction n with
 | zero=>rfl
 | succ n ih=>rw[List.replicate_succ,List.flatten_cons,ih,List.replicate_succ];rfl
def zeroA(n:Nat):Array Value:=((List.replicate n (0:Int)).map numC).toArray
theorem make_nums(n:Nat)(hn:n≤1000)(w:World):(Instr.makeSlice 26 (.int .i64 (n:Int)) (.int .i64 (n:Int))).run Tryz.prog w = .ok (.slice (some ⟨w.heap.size,0,none⟩) n n) (w.alloc (.cells (zeroA n) 3)):=by
 obtain⟨i0,hi,hz0,hz1,hz2⟩:=info_parts infoInt2;have h:=run_make (P:=Tryz.prog) w 26 3 i0 (.int .i64 0) Tryz.underlying26 hi hz0 .i64 .i64 (n:Int) (n:Int) (by omega) (Int.le_refl _) (by rw[hz2];omega) (by omega);rw[h];have e:madeCells (Value.cells (.int .i64 0)) ((n:Int).toNat*i0.size)=zeroA n:=by
  rw[hz1,Int.toNat_natCast,rowsA_made (sz:=1) rfl (by omega)];unfold rowsA zeroA;rw[List.map_replicate];exact congrArg List.toArray (flat_one n (numC 0))
 rw[e];simp
theorem num_zero{w:World}{g n:Nat}(h:Blk w g 3 (zeroA n)):NumX w g (List.replicate n 0):=⟨#[],by rw[Array.append_empty];exact h⟩
def negL(n t:Nat):List Int:=List.replicate t (-1)++List.replicate (n-t) 0
end Go.Proofs.YtojolpbpjimfgaaGreatDoor
namespace Go.Proofs.YtojolpbpjimfgaaGreatDoor
def upd(f:Nat→Nat→Int)(i k:Nat)(v:Int):Nat→Nat→Int:=fun a b=>if a=i∧b=k then v else f a b
end Go.Proofs.YtojolpbpjimfgaaGreatDoor
