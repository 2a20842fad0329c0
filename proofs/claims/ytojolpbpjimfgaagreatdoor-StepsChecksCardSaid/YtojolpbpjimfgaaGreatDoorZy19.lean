/- Texts of the proof: JoinS, TouchP, Faces, SortKLaid. -/
import Derived.Test.YtojolpbpjimfgaaGreatDoorZy8
import Derived.Test.YtojolpbpjimfgaaGreatDoorZy16
import Derived.Test.YtojolpbpjimfgaaGreatDoorZy18
import Derived.Shelf.SlLaysF0
import Derived.Test.YtojolpbpjimfgaaGreatDoorProg
namespace Go.Proofs.YtojolpbpjimfgaaGreatDoor
open Go.RowKit
structure Jnt where
 a:Nat
 b:Nat
 strength:Int
 axis:Int
 slides:Bool
deriving instance DecidableEq for Jnt
def Jnt.cs(x:Jnt):List Value:= [.int .i64 x.a,.int .i64 x.b,.int .i64 x.strength,.int .u8 x.axis,.bool x.slides]
def Jnts(w:World)(A:Option Addr)(cap:Nat)(l:List Jnt):Prop:=SliceIs w A l.length cap 5 (l.map Jnt.cs)
theorem Jnts.ext{w w':World}{A:Option Addr}{cap:Nat}{l:List Jnt}(h:Jnts w A cap l)(e:Ext w w'):Jnts w' A cap l:=SliceIs.ext h e
theorem Jnts.len{w:World}{A:Option Addr}{cap:Nat}{l:List Jnt}(h:Jnts w A cap l):l.length≤maxLen:=Nat.le_trans h.le h.small
theorem jnts_nil(w:World):Jnts w none 0 []:=⟨rfl,Nat.le_refl _,Nat.zero_le _,by simp,fun h=>by cases h⟩
theorem jnt_wide(l:List Jnt): ∀r∈l.map Jnt.cs,r.length=5:=fun r h=>by
 obtain⟨p,_,rfl⟩:=List.mem_map.1 h;rfl
def strongS(s:Int):Int:=if s=1 then 2 else if s=3 then 3 else if s=5 then 5 else 0
def lineB(a b:Knb):Bool:=decide (a.dir / 2=b.dir / 2)&&((decide (a.dir / 2=0)||decide (a.at_.x=b.at_.x))&&((decide (a.dir / 2=1)||decide (a.at_.y=b.at_.y))&&(decide (a.dir / 2=2)||decide (a.at_.z=b.at_.z))))
theorem lineB_iff{a b:Knb}:lineB a b=true↔a.dir / 2=b.dir / 2∧(a.dir / 2=0∨a.at_.x=b.at_.x)∧(a.dir / 2=1∨a.at_.y=b.at_.y)∧(a.dir / 2=2∨a.at_.z=b.at_.z):=by
 simp only[lineB,Bool.and_eq_true,Bool.or_eq_true,decide_eq_true_eq]
def lineK(k:Knb):Pt:=if k.dir / 2=0 then⟨0,k.at_.y,k.at_.z⟩ else if k.dir / 2=1 then⟨k.at_.x,0,k.at_.z⟩ else⟨k.at_.x,k.at_.y,0⟩
theorem lineK_iff{a b:Knb}(ha:0≤a.dir∧a.dir≤5)(hb:0≤b.dir∧b.dir≤5):lineB a b=true↔a.dir / 2+1=b.dir / 2+1∧lineK a=lineK b:=by
 rw[lineB_iff];unfold lineK;have h1:a.dir / 2=0∨a.dir / 2=1∨a.dir / 2=2:=by omega
 have h2:b.dir / 2=0∨b.dir / 2=1∨b.dir / 2=2:=by omega
 rcases h1 with h1|h1|h1 <;> rcases h2 with h2|h2|h2 <;> rw[h1,h2] <;> simp
section
variable (ks:List Knd) (bs:List Brk)
def knobAt(i k:Nat):Knb:=knbAt (bknobs ks (brkAt bs i)) k
def lineOk(x y:Lnk):Bool:=lineB (knobAt ks bs x.a x.knob) (knobAt ks bs x.a y.knob)&&lineB (knobAt ks bs x.a x.knob) (knobAt ks bs x.b y.other)
def midJ(x:Lnk)(l:List Lnk)(k:Nat):Jnt:=⟨x.a,x.b,((l.take k).map fun y=>strongS y.sort).sum,if(l.take k).all (lineOk ks bs x) then(knobAt ks bs x.a x.knob).dir / 2+1 else 0,(l.take k).all fun y=>decide (y.sort=3)⟩
def endJ(j:Jnt):Jnt:=⟨j.a,j.b,j.strength,j.axis,j.slides&&decide (j.axis≠0)⟩
def lnkAt(l:List Lnk)(i:Nat):Lnk:=l.getD i ⟨0,0,0,0,0⟩
def joinJ(l:List Lnk):Jnt:=endJ (midJ ks bs (lnkAt l 0) l l.length)
def sameP(x y:Lnk):Bool:=decide (y.a=x.a)&&decide (y.b=x.b)
def jntAt(L:List Lnk)(i:Nat):Option Jnt:=if 0<i∧sameP (lnkAt L (i-1)) (lnkAt L i)=true then none else some (joinJ ks bs (L.filter (sameP (lnkAt L i))))
def pj(L:List Lnk)(i:Nat):List Jnt:=(List.range i).filterMap (jntAt ks bs L)
def jointL:List Jnt:=pj ks bs (linkL ks bs) (linkL ks bs).length
end
theorem sameP_iff{x y:Lnk}:sameP x y=true↔y.a=x.a∧y.b=x.b:=by simp[sameP]
theorem lnkAt_eq{l:List Lnk}{k:Nat}{p:Lnk}(h:l[k]? = some p):lnkAt l k=p:=by simp[lnkAt,h]
theorem lnkAt_get{l:List Lnk}{k:Nat}(h:k<l.length):l[k]? = some (lnkAt l k):=by
 have:=List.getElem?_eq_getElem h;rw[lnkAt_eq this,this]
theorem lnkAt_mem{l:List Lnk}{k:Nat}(h:k<l.length):lnkAt l k∈l:=List.mem_of_getElem? (lnkAt_get h)
section
variable {ks:List Knd} {bs:List Brk}
theorem pj_succ(L:List Lnk)(i:Nat):pj ks bs L (i+1)=pj ks bs L i++(jntAt ks bs L i).toList:=by
 unfold pj;rw[List.range_succ,List.filterMap_append];cases h:jntAt ks bs L i <;> simp[h]
theorem pj_len(L:List Lnk)(i:Nat):(pj ks bs L i).length≤i:=by
 unfold pj;exact Nat.le_trans (List.length_filterMap_le _ _) (by simp)
theorem midJ_zero(x:Lnk)(l:List Lnk):midJ ks bs x l 0=⟨x.a,x.b,0,(knobAt ks bs x.a x.knob).dir / 2+1,true⟩:=by
 unfold midJ;simp
theorem midJ_succ{x:Lnk}{l:List Lnk}{k:Nat}{y:Lnk}(h:l[k]? = some y):midJ ks bs x l (k+1)=⟨x.a,x.b,(midJ ks bs x l k).strength+strongS y.sort,if lineOk ks bs x y then(midJ ks bs x l k).axis else 0,(midJ ks bs x l k).slides&&decide (y.sort=3)⟩:=by
 unfold midJ;rw[List.take_add_one,h];simp only[Option.toList_some,List.map_append,List.sum_append,List.map_cons,List.map_nil,List.sum_cons,List.sum_nil,List.all_append,List.all_cons,List.all_nil,Bool.and_true,Int.add_zero,Jnt.mk.injEq,true_and,and_true];cases h1:(l.take k).all (lineOk ks bs x) <;> cases h2:lineOk ks bs x y <;> simp
theorem midJ_axis(x:Lnk)(l:List Lnk)(k:Nat):(midJ ks bs x l k).axis=(knobAt ks bs x.a x.knob).dir / 2+1∨(midJ ks bs x l k).axis=0:=by
 unfold midJ;simp only
 split
 ·exact Or.inl rfl
 ·exact Or.inr rfl
theorem midJ_strength(x:Lnk)(l:List Lnk)(k:Nat):0≤(midJ ks bs x l k).strength∧(midJ ks bs x l k).strength≤5*k:=by
 induction k with
 | zero=>rw[midJ_zero];simp
 | succ k ih =>
  cases h:l[k]? with
  | none =>
   have e:midJ ks bs x l (k+1)=midJ ks bs x l k:=by
    unfold midJ;rw[List.take_add_one,h,Option.toList_none,List.append_nil]
   rw[e];omega
  | some y =>
   rw[midJ_succ h];simp only;have:0≤strongS y.sort∧strongS y.sort≤5:=by
    unfold strongS
    repeat' split
    all_goals omega
   omega
theorem filter_group{L:List Lnk}(ha:L.Pairwise fun x y=>ltK x y=true){p n:Nat}(hp:p+n≤L.length)(hn:0<n)(hb:p=0∨sameP (lnkAt L (p-1)) (lnkAt L p)=false)(hs: ∀t,t<n→sameP (lnkAt L p) (lnkAt L (p+t))=true)(he:p+n=L.length∨sameP (lnkAt L p) (lnkAt L (p+n))=false) :
  L.filter (sameP (lnkAt L p))=(L.drop p).take n:=by
 have asc: ∀i j,i<j→j<L.length→ltK (lnkAt L i) (lnkAt L j)=true:=fun i j hij hj=>by
  have:=List.pairwise_iff_getElem.1 ha i j (by omega) hj hij;rwa [←lnkAt_eq (List.getElem?_eq_getElem (show i<L.length by omega)),←lnkAt_eq (List.getElem?_eq_getElem hj)] at this
 have e:L=L.take p++((L.drop p).take n++L.drop (p+n)):=by
  rw[←List.drop_drop,List.take_append_drop,List.take_append_drop]
 have f1:(L.take p).filter (sameP (lnkAt L p)) = []:=by
  rw[List.filter_eq_nil_iff];intro y hy h;obtain⟨k,hk⟩:=List.getElem?_of_mem hy;have hkp:k<p:=by
   have:=(List.getElem?_eq_some_iff.1 hk).1;rw[List.length_take] at this;omega
  rw[List.getElem?_take_of_lt hkp] at hk;rw[←lnkAt_eq hk,sameP_iff] at h;rcases hb with hb|hb
  ·omega
  ·rw[←Bool.not_eq_true,sameP_iff] at hb;have h2:=ltK_iff.1 (asc (p-1) p (by omega) (by omega));rcases Nat.lt_or_ge k (p-1) with h3|h3
   ·have h4:=ltK_iff.1 (asc k (p-1) h3 (by omega));omega
   ·obtain rfl:k=p-1:=by omega
    omega
 have f2:((L.drop p).take n).filter (sameP (lnkAt L p))=(L.drop p).take n:=by
  rw[List.filter_eq_self];intro y hy;obtain⟨k,hk⟩:=List.getElem?_of_mem hy;have hkn:k<n:=by
   have:=(List.getElem?_eq_some_iff.1 hk).1;rw[List.length_take] at this;omega
  rw[List.getElem?_take_of_lt hkn,List.getElem?_drop] at hk;rw[←lnkAt_eq hk];exact hs k hkn
 have f3:(L.drop (p+n)).filter (sameP (lnkAt L p)) = []:=by
  rw[List.filter_eq_nil_iff];intro y hy h;obtain⟨k,hk⟩:=List.getElem?_of_mem hy;have hlt:=(List.getElem?_eq_some_iff.1 hk).1;rw[List.length_drop] at hlt;rw[List.getElem?_drop] at hk;rw[←lnkAt_eq hk,sameP_iff] at h;rcases he with he|he
  ·omega
  ·rw[←Bool.not_eq_true,sameP_iff] at he;have h2:=ltK_iff.1 (asc p (p+n) (by omega) (by omega));rcases Nat.eq_zero_or_pos k with rfl|h3
   ·exact he h
   ·have h4:=ltK_iff.1 (asc (p+n) (p+n+k) (by omega) (by omega));omega
 refine(congrArg (List.filter (sameP (lnkAt L p))) e).trans ?_;rw[List.filter_append,List.filter_append,f1,f2,f3,List.nil_append,List.append_nil]
theorem pj_group{L:List Lnk}(ha:L.Pairwise fun x y=>ltK x y=true){p n:Nat}(hp:p+n≤L.length)(hn:0<n)(hb:p=0∨sameP (lnkAt L (p-1)) (lnkAt L p)=false)(hs: ∀t,t<n→sameP (lnkAt L p) (lnkAt L (p+t))=true)(he:p+n=L.length∨sameP (lnkAt L p) (lnkAt L (p+n))=false) :
  pj ks bs L (p+n)=pj ks bs L p ++ [joinJ ks bs ((L.drop p).take n)]:=by
 rw[←filter_group ha hp hn hb hs he];have key: ∀t,t<n→pj ks bs L (p+(t+1))=pj ks bs L p ++ [joinJ ks bs (L.filter (sameP (lnkAt L p)))]:=by
  intro t
  induction t with
  | zero =>
   intro _;rw[Nat.zero_add,pj_succ];unfold jntAt;rw[if_neg (by
    rintro⟨h1,h2⟩;rcases hb with hb|hb
    ·omega
    ·rw[hb] at h2
     cases h2)]
   rfl
  | succ t ih =>
   intro ht;rw[show p+(t+1+1)=p+(t+1)+1 by omega,pj_succ,ih (by omega)];unfold jntAt;rw[if_pos]
   ·simp
   ·refine⟨by omega,?_⟩;have h1:=sameP_iff.1 (hs t (by omega));have h2:=sameP_iff.1 (hs (t+1) ht);rw[show p+(t+1)-1=p+t by omega,sameP_iff];omega
 have:=key (n-1) (by omega);rwa [show n-1+1=n by omega] at this
structure OfPair(ks:List Knd)(bs:List Brk)(l:List Lnk):Prop where
 ne:0<l.length
 m: ∀y∈l,IsLnk ks bs y∧y.a=(lnkAt l 0).a∧y.b=(lnkAt l 0).b
theorem ofPair_filter{x:Lnk}(hx:x∈linkL ks bs):OfPair ks bs ((linkL ks bs).filter (sameP x)):=by
 have hne:0<((linkL ks bs).filter (sameP x)).length:=List.length_pos_iff.2 fun e=>by
  have:x∈(linkL ks bs).filter (sameP x):=List.mem_filter.2 ⟨hx,sameP_iff.2 ⟨rfl,rfl⟩⟩;rw[e] at this;cases this
 refine⟨hne,fun y hy=> ?_⟩;obtain⟨h1,h2⟩:=List.mem_filter.1 hy;obtain⟨-,h3⟩:=List.mem_filter.1 (lnkAt_mem hne);rw[sameP_iff] at h2 h3;exact⟨mem_linkL.1 h1,by omega,by omega⟩
theorem lineOk_iff(hf:Fit ks bs){x y:Lnk}(hx:IsLnk ks bs x)(hy:IsLnk ks bs y)(ha:y.a=x.a)(hb:y.b=x.b):lineOk ks bs x y=lineB (knobAt ks bs x.a x.knob) (knobAt ks bs x.a y.knob):=by
 obtain⟨xa,xb,xk,xo,xs⟩:=x;obtain⟨ya,yb,yk,yo,ys⟩:=y;simp only at ha hb;subst ha hb;have hm:=meetB_iff.1 hy.m;have hd:=hf.dir (show ya<bs.length from by have:=hy.ab;have:=hy.b;simp only at *;omega) hy.k;simp only at hm hd;unfold lineOk;cases h:lineB (knobAt ks bs ya xk) (knobAt ks bs ya yk)
 ·rfl
 ·rw[Bool.true_and,lineB_iff];rw[lineB_iff] at h;unfold knobAt at *
  obtain⟨d,hdn⟩: ∃d:Nat,(knbAt (bknobs ks (brkAt bs ya)) yk).dir=d:=⟨(knbAt (bknobs ks (brkAt bs ya)) yk).dir.toNat,by omega⟩;rw[←hm.1,hm.2.1];rw[hdn] at h hd ⊢;rw[Int.toNat_natCast];unfold addP oppD;simp only;have e1:d=0∨d=1∨d=2∨d=3∨d=4∨d=5:=by omega
  rcases e1 with rfl|rfl|rfl|rfl|rfl|rfl <;> simp only[stepS] <;> omega
end
section
variable {K V:Type} [DecidableEq K]
theorem keys_putK{m:List (K×V)}{x p:K}{v:V}:p∈(putK m x v).map (·.1)↔p=x∨p∈m.map (·.1):=by
 induction m with
 | nil=>simp[putK]
 | cons q m ih =>
  unfold putK
  split
  ·rename_i h;simp only[List.map_cons,List.mem_cons];constructor
   ·rintro(h1|h1)
    ·exact Or.inl h1
    ·exact Or.inr (Or.inr h1)
   ·rintro(h1|h1|h1)
    ·exact Or.inl h1
    ·exact Or.inl (h1.trans h.symm)
    ·exact Or.inr h1
  ·simp only[List.map_cons,List.mem_cons,ih];constructor
   ·rintro(h1|h1|h1)
    ·exact Or.inr (Or.inl h1)
    ·exact Or.inl h1
    ·exact Or.inr (Or.inr h1)
   ·rintro(h1|h1|h1)
    ·exact Or.inr (Or.inl h1)
    ·exact Or.inl h1
    ·exact Or.inr (Or.inr h1)
end
def prOf(x:Lnk):Int×Int:=((x.a:Int),(x.b:Int))
def sumL(l:List Lnk)(p:Int×Int):Int:=((l.filter fun x=>decide (prOf x=p)).map fun x=>strongS x.sort).sum
structure Sums(m:List ((Int×Int)×Int))(l:List Lnk):Prop where
 at_: ∀p,(getK m p).getD 0=sumL l p
 nd:(m.map (·.1)).Nodup
 k: ∀p,p∈m.map (·.1) ↔ ∃x∈l,prOf x=p
theorem Sums.nil:Sums [] []:=⟨fun _=>rfl,List.nodup_nil,fun p=>by simp⟩
theorem sumL_snoc(l:List Lnk)(x:Lnk)(p:Int×Int):sumL (l ++ [x]) p=sumL l p+if prOf x=p then strongS x.sort else 0:=by
 unfold sumL;rw[List.filter_append,List.map_append,List.sum_append];by_cases h:prOf x=p <;> simp[h]
theorem Sums.put{m:List ((Int×Int)×Int)}{l:List Lnk}(h:Sums m l)(x:Lnk):Sums (putK m (prOf x) ((getK m (prOf x)).getD 0+strongS x.sort)) (l ++ [x]):=by
 refine⟨fun p=> ?_,putK_keys _ _ _ h.nd,fun p=> ?_⟩
 ·rw[getK_putK,sumL_snoc];by_cases hp:p=prOf x
  ·subst hp;rw[if_pos rfl,if_pos rfl,h.at_];rfl
  ·rw[if_neg hp,if_neg fun e=>hp e.symm,h.at_];omega
 ·rw[keys_putK,h.k];constructor
  ·rintro(rfl|⟨y,hy,rfl⟩)
   ·exact⟨x,by simp,rfl⟩
   ·exact⟨y,by simp[hy],rfl⟩
  ·rintro⟨y,hy,rfl⟩;rcases List.mem_append.1 hy with hy|hy
   ·exact Or.inr ⟨y,hy,rfl⟩
   ·rw[List.mem_singleton.1 hy];exact Or.inl rfl
theorem strongS_le(s:Int):0≤strongS s∧strongS s≤5:=by
 unfold strongS
 repeat' split
 all_goals omega
theorem sum_strong(l:List Lnk):0≤(l.map fun x=>strongS x.sort).sum∧(l.map fun x=>strongS x.sort).sum≤5*l.length:=by
 induction l with
 | nil=>simp
 | cons x l ih =>
  have:=strongS_le x.sort;rw[List.map_cons,List.sum_cons,List.length_cons];omega
theorem sumL_le(l:List Lnk)(p:Int×Int):0≤sumL l p∧sumL l p≤5*l.length:=by
 have:=sum_strong (l.filter fun x=>decide (prOf x=p));have:=List.length_filter_le (fun x=>decide (prOf x=p)) l;unfold sumL;omega
/-! ### the knobs of a link -/
section
variable {ks:List Knd} {bs:List Brk}
theorem oddS_sort{s:Int}(h0:1≤s)(h1:s≤6):oddS s=1∨oddS s=3∨oddS s=5:=by
 unfold oddS;omega
theorem IsLnk.sorts(hf:Fit ks bs){x:Lnk}(h:IsLnk ks bs x):(x.sort=1∨x.sort=3∨x.sort=5) ∧
  min (knobAt ks bs x.a x.knob).sort (knobAt ks bs x.b x.other).sort=x.sort∧max (knobAt ks bs x.a x.knob).sort (knobAt ks bs x.b x.other).sort=x.sort+1:=by
 have hm:=meetB_iff.1 h.m;have hs:=h.s;have h1:=hf.dir (Nat.lt_trans h.ab h.b) h.k;have h2:=hf.dir h.b h.o;unfold knobAt;obtain⟨s,hs1⟩:=nm ((knbAt (bknobs ks (brkAt bs x.a)) x.knob).sort);obtain⟨t,ht1⟩:=nm ((knbAt (bknobs ks (brkAt bs x.b)) x.other).sort);rw[hs1,ht1] at hm;rw[hs1] at hs h1;rw[ht1] at h2;rw[hs1,ht1];have e1:=hm.2.2.1;have e2:=hm.2.2.2;rw[hs];refine⟨oddS_sort h1.2.2.1 h1.2.2.2,?_⟩;unfold oddS at *
 have:=h1.2.2;have:=h2.2.2;omega
end
/-! ### joints -/
def ltPr(p q:Int×Int):Prop:=p.1<q.1∨(p.1=q.1∧p.2<q.2)
theorem ltPr_le{p q r:Int×Int}(h:ltPr p q∨p=q)(k:ltPr q r):ltPr p r:=by
 obtain⟨a,b⟩:=p;obtain⟨c,d⟩:=q;obtain⟨e,f⟩:=r;unfold ltPr at *
 simp only[Prod.mk.injEq] at *
 omega
theorem ltK_pr{x y:Lnk}(h:ltK x y=true):ltPr (prOf x) (prOf y)∨prOf x=prOf y:=by
 rw[ltK_iff] at h;unfold ltPr prOf;simp only[Prod.mk.injEq];omega
section
variable {ks:List Knd} {bs:List Brk} {L:List Lnk}
def jPr(j:Jnt):Int×Int:=((j.a:Int),(j.b:Int))
theorem jntAt_some{i:Nat}{j:Jnt}(h:jntAt ks bs L i=some j):(i=0∨sameP (lnkAt L (i-1)) (lnkAt L i)=false)∧j=joinJ ks bs (L.filter (sameP (lnkAt L i))):=by
 unfold jntAt at h
 split at h
 ·cases h
 ·rename_i hn;refine⟨?_,(Option.some.inj h).symm⟩;rcases Nat.eq_zero_or_pos i with h0|h0
  ·exact Or.inl h0
  ·right;cases e:sameP (lnkAt L (i-1)) (lnkAt L i)
   ·rfl
   ·exact absurd ⟨h0,e⟩ hn
theorem head_filter{i:Nat}(hi:i<L.length):0<(L.filter (sameP (lnkAt L i))).length∧prOf (lnkAt (L.filter (sameP (lnkAt L i))) 0)=prOf (lnkAt L i):=by
 have hm:lnkAt L i∈L.filter (sameP (lnkAt L i)):=List.mem_filter.2 ⟨lnkAt_mem hi,by rw[sameP_iff];exact⟨rfl,rfl⟩⟩;have h0:0<(L.filter (sameP (lnkAt L i))).length:=List.length_pos_of_mem hm;have h1:=(sameP_iff.1 (List.mem_filter.1 (lnkAt_mem h0)).2);refine⟨h0,?_⟩;unfold prOf;rw[h1.1,h1.2]
theorem joinJ_pr{i:Nat}(hi:i<L.length):jPr (joinJ ks bs (L.filter (sameP (lnkAt L i))))=prOf (lnkAt L i):=(head_filter hi).2
theorem joinJ_sum{i:Nat}(_:i<L.length):(joinJ ks bs (L.filter (sameP (lnkAt L i)))).strength=sumL L (prOf (lnkAt L i)):=by
 show(((L.filter (sameP (lnkAt L i))).take (L.filter (sameP (lnkAt L i))).length).map fun y=>strongS y.sort).sum=_
 rw[List.take_length];unfold sumL;congr 2;refine List.filter_congr fun x _=> ?_;unfold sameP prOf;rw[←Bool.decide_and,decide_eq_decide,Prod.mk.injEq];omega
theorem sumL_pos{x:Lnk}(hx:x∈L)(hs: ∀y∈L,y.sort=1∨y.sort=3∨y.sort=5):sumL L (prOf x)≠0:=by
 obtain⟨s,t,rfl⟩:=List.append_of_mem hx;have h1:=sum_strong (s.filter fun y=>decide (prOf y=prOf x));have h2:=sum_strong (t.filter fun y=>decide (prOf y=prOf x));unfold sumL;rw[List.filter_append,List.filter_cons,if_pos (by simp),List.map_append,List.sum_append,List.map_cons,List.sum_cons];have:2≤strongS x.sort:=by
  rcases hs x hx with h|h|h <;> rw[h] <;> decide
 omega
structure JntsOk(L:List Lnk)(J:List Jnt):Prop where
 s: ∀j∈J,sumL L (jPr j)=j.strength∧j.strength≠0
 a: ∀j∈J,(j.slides=true→j.axis≠0)∧0≤j.axis∧j.axis≤3
 o:J.Pairwise fun x y=>ltPr (jPr x) (jPr y)
 k: ∀p,(∃x∈L,prOf x=p)↔p∈J.map jPr
theorem first_of{i:Nat}(hi:i<L.length): ∃k,k≤i∧prOf (lnkAt L k)=prOf (lnkAt L i)∧(k=0∨sameP (lnkAt L (k-1)) (lnkAt L k)=false):=by
 induction i with
 | zero=>exact⟨0,Nat.le_refl _,rfl,Or.inl rfl⟩
 | succ i ih =>
  cases e:sameP (lnkAt L i) (lnkAt L (i+1))
  ·exact⟨i+1,Nat.le_refl _,rfl,Or.inr e⟩
  ·obtain⟨k,hk,hp,h0⟩:=ih (by omega);have:=sameP_iff.1 e;exact⟨k,by omega,by rw[hp];unfold prOf;rw[this.1,this.2],h0⟩
theorem jntsOk(hf:Fit ks bs)(hL:L=linkL ks bs):JntsOk L (pj ks bs L L.length):=by
 have ha:L.Pairwise fun x y=>ltK x y=true:=hL▸linkL_asc hf;have hl: ∀x∈L,IsLnk ks bs x:=fun x hx=>mem_linkL.1 (hL▸hx);have hmem: ∀{j},j∈pj ks bs L L.length → ∃i,i<L.length∧jntAt ks bs L i=some j:=fun {j} h=>by
  obtain⟨i,hi,e⟩:=List.mem_filterMap.1 h;exact⟨i,List.mem_range.1 hi,e⟩
 refine⟨fun j hj=> ?_,fun j hj=> ?_,?_,fun p=> ?_⟩
 ·obtain⟨i,hi,e⟩:=hmem hj;obtain⟨-,rfl⟩:=jntAt_some e;rw[joinJ_pr hi,joinJ_sum hi];exact⟨rfl,sumL_pos (lnkAt_mem hi) fun y hy=>((hl y hy).sorts hf).1⟩
 ·obtain⟨i,hi,e⟩:=hmem hj;obtain⟨-,rfl⟩:=jntAt_some e;obtain⟨h0,-⟩:=head_filter hi;have hm:=(List.mem_filter.1 (lnkAt_mem h0)).1;have hk:=hl _ hm;have hd:=hf.dir (Nat.lt_trans hk.ab hk.b) hk.k;refine⟨fun h=> ?_,?_⟩
  ·have: ∀j:Jnt,(endJ j).slides=true→(endJ j).axis≠0:=fun j h=>by
    unfold endJ at h ⊢;simp only[Bool.and_eq_true,decide_eq_true_eq] at h;exact h.2
   exact this _ h
  ·show 0≤(midJ ks bs _ _ _).axis∧(midJ ks bs _ _ _).axis≤3
   rcases midJ_axis (ks:=ks) (bs:=bs) (lnkAt (L.filter (sameP (lnkAt L i))) 0) (L.filter (sameP (lnkAt L i))) (L.filter (sameP (lnkAt L i))).length with e|e
   ·rw[e];unfold knobAt;omega
   ·rw[e];omega
 ·unfold pj;rw[List.pairwise_filterMap];refine List.pairwise_lt_range.imp_of_mem fun {i k} hi hk hik j1 e1 j2 e2=> ?_;have hi:=List.mem_range.1 hi;have hk:=List.mem_range.1 hk;obtain⟨-,rfl⟩:=jntAt_some e1;obtain⟨h2,rfl⟩:=jntAt_some e2;rw[joinJ_pr hi,joinJ_pr hk];have key: ∀a b,a≤b→b<L.length→ltPr (prOf (lnkAt L a)) (prOf (lnkAt L b))∨prOf (lnkAt L a)=prOf (lnkAt L b):=fun a b hab hb=>by
   rcases Nat.lt_or_ge a b with h|h
   ·have:=List.pairwise_iff_getElem.1 ha a b (by omega) hb h;rw[←Option.some.inj ((List.getElem?_eq_getElem (by omega)).symm.trans (lnkAt_get (l:=L) (k:=a) (by omega))),←Option.some.inj ((List.getElem?_eq_getElem hb).symm.trans (lnkAt_get (l:=L) (k:=b) hb))];exact ltK_pr this
   ·obtain rfl:a=b:=by omega
    exact Or.inr rfl
  rcases h2 with h2|h2
  ·omega
  ·refine ltPr_le (key i (k-1) (by omega) (by omega)) ?_;rcases key (k-1) k (by omega) hk with h|h
   ·exact h
   ·exfalso;rw[Bool.eq_false_iff] at h2;refine h2 (sameP_iff.2 ?_);unfold prOf at h;rw[Prod.mk.injEq] at h;omega
 ·rw[List.mem_map];constructor
  ·rintro⟨x,hx,rfl⟩;obtain⟨i,hi,rfl⟩:=List.getElem_of_mem hx;obtain⟨k,hk,hp,h0⟩:=first_of hi;refine⟨joinJ ks bs (L.filter (sameP (lnkAt L k))),List.mem_filterMap.2 ⟨k,List.mem_range.2 (by omega),?_⟩,?_⟩
   ·unfold jntAt;rw[if_neg];rintro⟨h1,h2⟩;rcases h0 with h0|h0
    ·omega
    ·rw[h0] at h2;cases h2
   ·rw[joinJ_pr (by omega),hp];congr 1;exact(Option.some.inj ((List.getElem?_eq_getElem hi).symm.trans (lnkAt_get hi))).symm
  ·rintro⟨j,hj,rfl⟩;obtain⟨i,hi,e⟩:=hmem hj;obtain⟨-,rfl⟩:=jntAt_some e;exact⟨_,lnkAt_mem hi,(joinJ_pr hi).symm⟩
theorem JntsOk.len{J:List Jnt}(h:JntsOk L J){m:List ((Int×Int)×Int)}(hs:Sums m L):J.length=m.length:=by
 have h1:(J.map jPr).Nodup:=by
  unfold List.Nodup;rw[List.pairwise_map];refine h.o.imp fun {x y} hxy e=> ?_;rw[e] at hxy;unfold ltPr at hxy;omega
 have h2:(J.map jPr).Perm (m.map (·.1)):=(List.perm_ext_iff_of_nodup h1 hs.nd).2 fun p=>(h.k p).symm.trans (hs.k p).symm;have:=h2.length_eq;rwa [List.length_map,List.length_map] at this
end
def encF(x:Pt×Int):Value:= .agg #[.int .i64 x.1.x,.int .i64 x.1.y,.int .i64 x.1.z,.int .u8 x.2]
def evE(x:Nat×Nat):Value:= .agg #[.int .i64 x.1,.int .i64 x.2]
theorem pt_equalIn(w:World)(n:Nat)(a b c d e f:Int):(Op.equalIn (n+3) 124 (.agg #[.int .i64 a,.int .i64 b,.int .i64 c]) (.agg #[.int .i64 d,.int .i64 e,.int .i64 f])).run Tryz.prog w = .ok (decide (a=d)&&(decide (b=e)&&decide (c=f))) w:=by
 have u3:=Tryz.underlying3;have hS:Tryz.prog.underlying 124=some (.struct (Tryz.prog.fieldsOf 124)):=by kernel_rfl
 have hp:Tryz.prog.stoodInHeld 124=false:=by kernel_rfl
 rw[run_equalIn_agg w (n+2) _ _ _ hS hp];simp only[Program.fieldsOf,Tryz.underlying124];go_simp;by_cases h1:a=d <;> by_cases h2:b=e <;> by_cases h3:c=f <;> simp[h1,h2,h3]
theorem face_equalIn(w:World)(n:Nat)(a b c d a' b' c' d':Int):(Op.equalIn (n+4) 217 (.agg #[.int .i64 a,.int .i64 b,.int .i64 c,.int .u8 d]) (.agg #[.int .i64 a',.int .i64 b',.int .i64 c',.int .u8 d'])).run Tryz.prog w = .ok (decide (a=a')&&(decide (b=b')&&(decide (c=c')&&decide (d=d')))) w:=by
 have u5:=Tryz.underlying5;have hS:Tryz.prog.underlying 217=some (.struct (Tryz.prog.fieldsOf 217)):=by kernel_rfl
 have hp:Tryz.prog.stoodInHeld 217=false:=by kernel_rfl
 have hc:=fun w=>pt_equalIn w n a b c a' b' c';rw[run_equalIn_agg w (n+3) _ _ _ hS hp];simp only[Program.fieldsOf,Tryz.underlying217];go_simp;by_cases h1:a=a' <;> by_cases h2:b=b' <;> by_cases h3:c=c' <;> by_cases h4:d=d' <;> simp[h1,h2,h3,h4]
theorem face_equal(w:World)(a b c d a' b' c' d':Int):(Op.equal 217 (.agg #[.int .i64 a,.int .i64 b,.int .i64 c,.int .u8 d]) (.agg #[.int .i64 a',.int .i64 b',.int .i64 c',.int .u8 d'])).run Tryz.prog w = .ok (decide (a=a')&&(decide (b=b')&&(decide (c=c')&&decide (d=d')))) w:=face_equalIn w 9996 a b c d a' b' c' d'
theorem faceKey:KeyEnc Tryz.prog 217 encF where
 wide:=by kernel_rfl
 eq w x y:=by
  obtain⟨⟨a,b,c⟩,d⟩:=x;obtain⟨⟨a',b',c'⟩,d'⟩:=y;rw[encF,encF,face_equal];simp[Pt.mk.injEq,Bool.and_assoc]
 check w em x:=by
  obtain⟨⟨a,b,c⟩,d⟩:=x;show(Instr.checkKey em 10000 217 (.agg #[.int .i64 a,.int .i64 b,.int .i64 c,.int .u8 d])).run Tryz.prog w = .ok () w
  kernel_rfl
 same x:=by
  obtain⟨⟨a,b,c⟩,d⟩:=x;simp[encF,Instr.sameBits]
section
variable {ks:List Knd} {bs:List Brk}
def klen(ks:List Knd)(bs:List Brk)(i:Nat):Nat:=(bknobs ks (brkAt bs i)).length
def faceAt(ks:List Knd)(bs:List Brk)(i k:Nat):Pt×Int:=((knbAt (bknobs ks (brkAt bs i)) k).at_,(knbAt (bknobs ks (brkAt bs i)) k).dir)
structure Faces(ks:List Knd)(bs:List Brk)(m:List ((Pt×Int)×(Nat×Nat)))(P:Nat→Nat→Prop):Prop where
 s: ∀F i k,getK m F=some (i,k)→P i k∧faceAt ks bs i k=F
 a: ∀i k,P i k→getK m (faceAt ks bs i k)=some (i,k)
theorem Faces.nil{P:Nat→Nat→Prop}(h: ∀i k,¬P i k):Faces ks bs [] P:=⟨(fun _ _ _ h=>nomatch h),fun i k hp=>(h i k hp).elim⟩
theorem Faces.congr{m:List ((Pt×Int)×(Nat×Nat))}{P Q:Nat→Nat→Prop}(h:Faces ks bs m P)(e: ∀i k,Q i k↔P i k):Faces ks bs m Q :=
 ⟨fun F i k hg=>⟨(e i k).2 (h.s F i k hg).1,(h.s F i k hg).2⟩,fun i k hq=>h.a i k ((e i k).1 hq)⟩
def Upk(ks:List Knd)(bs:List Brk)(j q i k:Nat):Prop:=(i<j∧k<klen ks bs i)∨(i=j∧k<q)
theorem Faces.put(hf:Fit ks bs){m:List ((Pt×Int)×(Nat×Nat))}{j q:Nat}(h:Faces ks bs m (Upk ks bs j q))(hj:j<bs.length)(hq:q<klen ks bs j):Faces ks bs (putK m (faceAt ks bs j q) (j,q)) (Upk ks bs j (q+1)):=by
 have hlen: ∀i k,Upk ks bs j q i k→i<bs.length∧k<klen ks bs i:=fun i k h=>by
  rcases h with⟨h1,h2⟩|⟨rfl,h2⟩
  ·exact⟨by omega,h2⟩
  ·exact⟨hj,by omega⟩
 refine⟨fun F i k hg=> ?_,fun i k hp=> ?_⟩
 ·rw[getK_putK] at hg
  split at hg
  ·rename_i e;cases hg;exact⟨Or.inr ⟨rfl,Nat.lt_succ_self _⟩,e.symm⟩
  ·obtain⟨h1,h2⟩:=h.s F i k hg;refine⟨?_,h2⟩;rcases h1 with h1|⟨h1,h3⟩
   ·exact Or.inl h1
   ·exact Or.inr ⟨h1,by omega⟩
 ·rw[getK_putK];by_cases e:i=j∧k=q
  ·obtain⟨rfl,rfl⟩:=e;rw[if_pos rfl]
  ·have hu:Upk ks bs j q i k:=by
    rcases hp with hp|⟨h1,h2⟩
    ·exact Or.inl hp
    ·exact Or.inr ⟨h1,by omega⟩
   obtain⟨l1,l2⟩:=hlen i k hu;rw[if_neg,h.a i k hu];intro e1;unfold faceAt at e1;simp only[Prod.mk.injEq] at e1;obtain⟨e2,e3⟩:=hf.face l1 hj l2 hq e1.1 e1.2;exact e ⟨e2,e3⟩
theorem Upk.next(i k j:Nat):Upk ks bs (j+1) 0 i k↔Upk ks bs j (klen ks bs j) i k:=by
 unfold Upk;constructor
 ·rintro(⟨h1,h2⟩|⟨-,h2⟩)
  ·by_cases e:i=j
   ·subst e;exact Or.inr ⟨rfl,h2⟩
   ·exact Or.inl ⟨by omega,h2⟩
  ·omega
 ·rintro(⟨h1,h2⟩|⟨rfl,h2⟩)
  ·exact Or.inl ⟨by omega,h2⟩
  ·exact Or.inl ⟨by omega,h2⟩
def farAt(ks:List Knd)(bs:List Brk)(i k:Nat):Pt×Int:=(addP (knbAt (bknobs ks (brkAt bs i)) k).at_ (stepS (knbAt (bknobs ks (brkAt bs i)) k).dir.toNat),oppD (knbAt (bknobs ks (brkAt bs i)) k).dir)
theorem IsLnk.far{x:Lnk}(h:IsLnk ks bs x):faceAt ks bs x.b x.other=farAt ks bs x.a x.knob:=by
 have:=meetB_iff.1 h.m;unfold faceAt farAt;rw[this.1,this.2.1]
theorem Faces.none_{m:List ((Pt×Int)×(Nat×Nat))}(h:Faces ks bs m (Upk ks bs bs.length 0)){a i:Nat}(hg:getK m (farAt ks bs a i)=none): ∀x,IsLnk ks bs x→x.a=a→x.knob=i→False:=fun x hx ha hi=>by
 have:=h.a x.b x.other (Or.inl ⟨hx.b,hx.o⟩);rw[hx.far,ha,hi,hg] at this;cases this
theorem Faces.some_{m:List ((Pt×Int)×(Nat×Nat))}(h:Faces ks bs m (Upk ks bs bs.length 0)){a i b k:Nat}(hg:getK m (farAt ks bs a i)=some (b,k)): ∀x,IsLnk ks bs x→x.a=a→x.knob=i→x.b=b∧x.other=k:=fun x hx ha hi=>by
 have:=h.a x.b x.other (Or.inl ⟨hx.b,hx.o⟩);rw[hx.far,ha,hi,hg] at this;cases this;exact⟨rfl,rfl⟩
def fitS(s t:Int):Bool:=decide ((s+1) / 2=(t+1) / 2)&&decide (s≠t)
theorem fitS_iff{s t:Int}(hs:1≤s∧s≤6)(ht:1≤t∧t≤6):fitS s t=true↔s≠t∧oddS s=oddS t:=by
 unfold fitS oddS;simp only[Bool.and_eq_true,decide_eq_true_eq];omega
theorem fitS_min{s t:Int}(_:1≤s∧s≤6)(_:1≤t∧t≤6)(h:fitS s t=true):min s t=oddS s:=by
 unfold fitS at h;unfold oddS;simp only[Bool.and_eq_true,decide_eq_true_eq] at h;omega
def sortAt(ks:List Knd)(bs:List Brk)(i k:Nat):Int:=(knbAt (bknobs ks (brkAt bs i)) k).sort
theorem Faces.skip1{m:List ((Pt×Int)×(Nat×Nat))}(h:Faces ks bs m (Upk ks bs bs.length 0)){a i b k:Nat}(hg:getK m (farAt ks bs a i)=some (b,k))(hb:b≤a): ∀x,IsLnk ks bs x→x.a=a→x.knob=i→False:=fun x hx ha hi=>by
 have:=(h.some_ hg x hx ha hi).1;have:=hx.ab;omega
theorem Faces.skip2(hf:Fit ks bs){m:List ((Pt×Int)×(Nat×Nat))}(h:Faces ks bs m (Upk ks bs bs.length 0)){a i b k:Nat}(ha:a<bs.length)(hi:i<klen ks bs a)(hg:getK m (farAt ks bs a i)=some (b,k))(hs:fitS (sortAt ks bs a i) (sortAt ks bs b k)=false): ∀x,IsLnk ks bs x→x.a=a→x.knob=i→False:=fun x hx hxa hxi=>by
 obtain⟨e1,e2⟩:=h.some_ hg x hx hxa hxi;have hm:=meetB_iff.1 hx.m;have s1:=(hf.dir ha hi).2.2;have s2:=(hf.dir hx.b hx.o).2.2;rw[hxa,hxi] at hm;have:fitS (sortAt ks bs a i) (sortAt ks bs b k)=true:=by
  rw[←e1,←e2];exact(fitS_iff s1 s2).2 hm.2.2
 rw[hs] at this;cases this
theorem Faces.hit(hf:Fit ks bs){m:List ((Pt×Int)×(Nat×Nat))}(h:Faces ks bs m (Upk ks bs bs.length 0)){a i b k:Nat}(ha:a<bs.length)(hi:i<klen ks bs a)(hg:getK m (farAt ks bs a i)=some (b,k))(hb:a<b)(hs:fitS (sortAt ks bs a i) (sortAt ks bs b k)=true) :
  IsLnk ks bs ⟨a,b,i,k,min (sortAt ks bs a i) (sortAt ks bs b k)⟩:=by
 obtain⟨h1,h2⟩:=h.s _ _ _ hg;have hbk:b<bs.length∧k<klen ks bs b:=by
  rcases h1 with h1|⟨-,h1⟩
  ·exact h1
  ·omega
 have s1:=(hf.dir ha hi).2.2;have s2:=(hf.dir hbk.1 hbk.2).2.2;unfold faceAt farAt at h2;simp only[Prod.mk.injEq] at h2;exact⟨hb,hbk.1,hi,hbk.2,meetB_iff.2 ⟨h2.1.symm,h2.2,(fitS_iff s1 s2).1 hs⟩,fitS_min s1 s2 hs⟩
theorem Faces.lt{m:List ((Pt×Int)×(Nat×Nat))}(h:Faces ks bs m (Upk ks bs bs.length 0)){F:Pt×Int}{b k:Nat}(hg:getK m F=some (b,k)):b<bs.length∧k<klen ks bs b:=by
 rcases(h.s _ _ _ hg).1 with h1|⟨-,h1⟩
 ·exact h1
 ·omega
end
end Go.Proofs.YtojolpbpjimfgaaGreatDoor
namespace Go.Proofs.YtojolpbpjimfgaaGreatDoor
open Go.Shelf
def sortLinks_ren:Go.Shelf.Ren:=⟨fun|6=>123|15=>141|14=>150|28=>166|29=>167|20=>183|21=>184|22=>185|23=>186|24=>187|25=>188|26=>189|27=>190|46=>202|47=>195|48=>196|49=>203|50=>204|57=>209|n=>n,fun|22=>131|24=>135|25=>222|3=>3|39=>206|0=>0|53=>265|55=>63|4=>4|46=>259|45=>258|50=>164|5=>5|9=>9|66=>279|70=>283|76=>290|77=>56|n=>n,fun|n=>n⟩
theorem sortLinks:SlLaysF0.n6 Tryz.prog sortLinks_ren:={
 mixed:=by kernel_rfl,
 f6:=⟨Tryz.f123.name,by decide,Tryz.func123.trans (congrArg some (by kernel_rfl))⟩,
 f14:=⟨Tryz.f150.name,by decide,Tryz.func150.trans (congrArg some (by kernel_rfl))⟩,
 f15:=Tryz.func141.trans (congrArg some (by kernel_rfl)),
 f20:=⟨Tryz.f183.name,by decide,Tryz.func183.trans (congrArg some (by kernel_rfl))⟩,
 f21:=⟨Tryz.f184.name,by decide,Tryz.func184.trans (congrArg some (by kernel_rfl))⟩,
 f22:=⟨Tryz.f185.name,by decide,Tryz.func185.trans (congrArg some (by kernel_rfl))⟩,
 f23:=⟨Tryz.f186.name,by decide,Tryz.func186.trans (congrArg some (by kernel_rfl))⟩,
 f24:=⟨Tryz.f187.name,by decide,Tryz.func187.trans (congrArg some (by kernel_rfl))⟩,
 f25:=⟨Tryz.f188.name,by decide,Tryz.func188.trans (congrArg some (by kernel_rfl))⟩,
 f26:=⟨Tryz.f189.name,by decide,Tryz.func189.trans (congrArg some (by kernel_rfl))⟩,
 f27:=⟨Tryz.f190.name,by decide,Tryz.func190.trans (congrArg some (by kernel_rfl))⟩,
 f28:=Tryz.func166.trans (congrArg some (by kernel_rfl)),
 f29:=Tryz.func167.trans (congrArg some (by kernel_rfl)),
 f46:=⟨Tryz.f202.name,by decide,Tryz.func202.trans (congrArg some (by kernel_rfl))⟩,
 f47:=Tryz.func195.trans (congrArg some (by kernel_rfl)),
 f48:=Tryz.func196.trans (congrArg some (by kernel_rfl)),
 f49:=⟨Tryz.f203.name,by decide,Tryz.func203.trans (congrArg some (by kernel_rfl))⟩,
 f50:=⟨Tryz.f204.name,by decide,Tryz.func204.trans (congrArg some (by kernel_rfl))⟩,
 f57:=⟨Tryz.f209.name,by decide,Tryz.func209.trans (congrArg some (by kernel_rfl))⟩,
 t0:=Tryz.underlying0,
 a0:=Tryz.isAgg0,
 z0:=Tryz.sizeOf0,
 v0:=Tryz.zeroValue0,
 t3:=Tryz.underlying3,
 a3:=Tryz.isAgg3,
 z3:=Tryz.sizeOf3,
 v3:=Tryz.zeroValue3,
 t4:=Tryz.underlying4,
 a4:=Tryz.isAgg4,
 z4:=Tryz.sizeOf4,
 v4:=Tryz.zeroValue4,
 t5:=Tryz.underlying5,
 a5:=Tryz.isAgg5,
 z5:=Tryz.sizeOf5,
 v5:=Tryz.zeroValue5,
 t9:=Tryz.underlying9,
 a9:=Tryz.isAgg9,
 z9:=Tryz.sizeOf9,
 v9:=Tryz.zeroValue9,
 t22:=Tryz.underlying131,
 a22:=Tryz.isAgg131,
 z22:=Tryz.sizeOf131,
 v22:=Tryz.zeroValue131,
 t25:=Tryz.underlying222,
 a25:=Tryz.isAgg222,
 z25:=Tryz.sizeOf222,
 v25:=Tryz.zeroValue222,
 t39:=Tryz.underlying206,
 a39:=Tryz.isAgg206,
 z39:=Tryz.sizeOf206,
 v39:=Tryz.zeroValue206,
 t45:=Tryz.underlying258,
 a45:=Tryz.isAgg258,
 z45:=Tryz.sizeOf258,
 v45:=Tryz.zeroValue258,
 t46:=Tryz.underlying259,
 a46:=Tryz.isAgg259,
 z46:=Tryz.sizeOf259,
 v46:=Tryz.zeroValue259,
 t50:=Tryz.underlying164,
 a50:=Tryz.isAgg164,
 z50:=Tryz.sizeOf164,
 v50:=Tryz.zeroValue164,
 t53:=Tryz.underlying265,
 a53:=Tryz.isAgg265,
 z53:=Tryz.sizeOf265,
 v53:=Tryz.zeroValue265,
 t55:=Tryz.underlying63,
 a55:=Tryz.isAgg63,
 z55:=Tryz.sizeOf63,
 v55:=Tryz.zeroValue63,
 t66:=Tryz.underlying279,
 a66:=Tryz.isAgg279,
 z66:=Tryz.sizeOf279,
 v66:=Tryz.zeroValue279,
 t70:=Tryz.underlying283,
 a70:=Tryz.isAgg283,
 z70:=Tryz.sizeOf283,
 v70:=Tryz.zeroValue283,
 t76:=Tryz.underlying290,
 a76:=Tryz.isAgg290,
 z76:=Tryz.sizeOf290,
 v76:=Tryz.zeroValue290,
 t77:=Tryz.underlying56,
 a77:=Tryz.isAgg56,
 z77:=Tryz.sizeOf56,
 v77:=Tryz.zeroValue56 }
end Go.Proofs.YtojolpbpjimfgaaGreatDoor
