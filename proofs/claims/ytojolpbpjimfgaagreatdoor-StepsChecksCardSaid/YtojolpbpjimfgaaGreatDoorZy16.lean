/- Texts of the proof: LinkU, Api2, ApartP, ApartM, ApartW, BrkAt, Mem, WayP. -/
import Derived.Test.YtojolpbpjimfgaaGreatDoorZy7
import Derived.Test.YtojolpbpjimfgaaGreatDoorZy8
import Derived.Test.YtojolpbpjimfgaaGreatDoorZy11
import Derived.Test.YtojolpbpjimfgaaGreatDoorZy13
import Derived.Test.YtojolpbpjimfgaaGreatDoorZy14
import Derived.Test.YtojolpbpjimfgaaGreatDoorZy15
set_option maxHeartbeats 8000000
set_option maxRecDepth 100000
namespace Go.Proofs.YtojolpbpjimfgaaGreatDoor
open Go.RowKit
theorem knbLt_iff{y x:Knb}:y.lt x=true↔ltP y.at_ x.at_=true∨(y.at_=x.at_∧y.dir<x.dir):=by
 simp only[Knb.lt,Bool.or_eq_true,Bool.and_eq_true,Pt.eqB_iff,decide_eq_true_eq]
theorem knbLt_trans{a b c:Knb}(h:a.lt b=true)(k:b.lt c=true):a.lt c=true:=by
 rw[knbLt_iff] at *
 rcases h with h|⟨h1,h2⟩ <;> rcases k with k|⟨k1,k2⟩
 ·exact Or.inl (ltP_trans h k)
 ·exact Or.inl (by rw[←k1];exact h)
 ·exact Or.inl (by rw[h1];exact k)
 ·exact Or.inr ⟨h1.trans k1,by omega⟩
theorem knobs_asc{cs:List Pt}{l:List Knb}(h:knobsB cs l=true){i j:Nat}(hij:i<j)(hj:j<l.length):(knbAt l i).lt (knbAt l j)=true:=by
 have step: ∀i,i+1<l.length→(knbAt l i).lt (knbAt l (i+1))=true:=fun i hi=>by
  have:=allR_at h hi;unfold knobOk at this;rw[Bool.and_eq_true,Bool.or_eq_true] at this;rcases this.2 with h' | h'
  ·exact absurd (of_decide_eq_true h') (by omega)
  ·exact h'
 have far: ∀d i,i+d+1<l.length→(knbAt l i).lt (knbAt l (i+d+1))=true:=by
  intro d
  induction d with
  | zero=>exact fun i hi=>step i hi
  | succ d ih=>exact fun i hi=>knbLt_trans (ih i (by omega)) (step (i+d+1) hi)
 have:=far (j-i-1) i (by omega);rwa [show i+(j-i-1)+1=j by omega] at this
theorem knob_one{cs:List Pt}{l:List Knb}(h:knobsB cs l=true){i:Nat}(hi:i<l.length):(knbAt l i).one cs=true:=by
 have:=allR_at h hi;unfold knobOk at this;rw[Bool.and_eq_true] at this;exact this.1
theorem one_iff{cs:List Pt}{x:Knb}(h:x.one cs=true):x.dir≤5∧1≤x.sort∧x.sort≤6∧x.at_∈cs∧addP x.at_ (stepS x.dir.toNat) ∉ cs:=by
 unfold Knb.one at h;simp only[Bool.and_eq_true,decide_eq_true_eq,inB_iff,Bool.not_eq_true'] at h;refine⟨h.1,h.2.1.1,h.2.1.2,hasP_iff.1 h.2.2.1,fun hm=> ?_⟩;rw[hasP_iff.2 hm] at h;exact absurd h.2.2.2 (by decide)
theorem dirT_inj: ∀d,d<6 → ∀e,e<6 → ∀n,n<24→dirT d n=dirT e n→d=e:=by decide +kernel
theorem check_over{ks:List Knd}{bs:List Brk}(h:checkErr ks bs=0):overL ks bs bs.length = []:=by
 have hm:=check_model h;unfold checkErr at h;rw[if_pos hm] at h;by_cases h0:overL ks bs bs.length = []
 ·exact h0
 ·rw[if_neg h0] at h;cases h
structure Fit(ks:List Knd)(bs:List Brk):Prop where
 n:bs.length≤40
 b: ∀j,j<bs.length → ∃(i tn:Nat) (k:Knd),(brkAt bs j).kind=i∧(brkAt bs j).turn=tn∧tn<24∧ks[i]? = some k∧k.valid=true∧k.Fine∧Pt.in_ 1000 (brkAt bs j).at_∧bknobs ks (brkAt bs j)=placeK k.knobs tn (brkAt bs j).at_∧bcells ks (brkAt bs j)=sortP (placeP k.cells tn (brkAt bs j).at_)
 o: ∀i k,i<bs.length→k<bs.length → ∀p,p∈bcells ks (brkAt bs i)→p∈bcells ks (brkAt bs k)→i=k
theorem fit_of{w:World}{QA:Option Addr}{qc:Nat}{qs:List (Knd×KAt)}(hk:Kinds w QA qc qs){bs:List Brk}(hb: ∀b∈bs,b.byte)(h:checkErr (qs.map (·.1)) bs=0):Fit (qs.map (·.1)) bs:=by
 have hm:=check_model h;have hf:=mfine_of hk hb hm;have h0:kindsErr (qs.map (·.1))=0:=by
  by_cases h0:kindsErr (qs.map (·.1))=0
  ·exact h0
  ·rw[modelErr_kinds h0] at hm;exact hm
 refine⟨hf.n,fun j hj=> ?_,?_⟩
 ·have hq:bs[j]? = some bs[j]:=List.getElem?_eq_getElem hj;obtain⟨i,tn,k,p,e1,e2,ht,hi,hkf,hp,-⟩:=hf.b _ (List.getElem_mem hj);rw[brkAt_eq hq];exact⟨i,tn,k,e1,e2,ht,by rw[List.getElem?_map,hi];rfl,kindsErr_valid h0 (List.mem_map.2 ⟨_,List.mem_of_getElem? hi,rfl⟩),hkf,hp,bknobs_is e1 e2 hi,bcells_is e1 e2 hi⟩
 ·have ho:=check_over h;have key: ∀i k,i<k→k<bs.length → ∀p,p∈bcells (qs.map (·.1)) (brkAt bs i)→p∈bcells (qs.map (·.1)) (brkAt bs k)→False:=fun i k hik hk p h1 h2=>by
   have:((i:Int),(k:Int))∈overL (qs.map (·.1)) bs bs.length:=mem_overL.2 ⟨i,k,rfl,hik,hk,commonB_iff.2 ⟨p,h1,h2⟩⟩;rw[ho] at this;cases this
  intro i k hi hk p h1 h2;rcases Nat.lt_trichotomy i k with h|h|h
  ·exact(key i k h hk p h1 h2).elim
  ·exact h
  ·exact(key k i h hi p h2 h1).elim
section
variable {ks:List Knd} {bs:List Brk}
theorem Fit.klen(hf:Fit ks bs){j:Nat}(hj:j<bs.length):(bknobs ks (brkAt bs j)).length≤48:=by
 obtain⟨i,tn,k,e1,e2,ht,hi,hv,hkf,hp,hb,hc⟩:=hf.b j hj;rw[hb,placeK_len];have h1:k.sized=true:=by
  unfold Knd.valid at hv;rw[Bool.and_eq_true] at hv;exact hv.1
 exact(sized_iff.1 h1).2.1
theorem Fit.knob(hf:Fit ks bs){j q:Nat}(hj:j<bs.length)(hq:q<(bknobs ks (brkAt bs j)).length): ∃(tn:Nat) (k:Knd) (d:Nat),tn<24∧k.valid=true∧q<k.knobs.length∧d<6∧(knbAt k.knobs q).dir=d∧1≤(knbAt k.knobs q).sort∧(knbAt k.knobs q).sort≤6 ∧
  knbAt (bknobs ks (brkAt bs j)) q=⟨addP (turnS (knbAt k.knobs q).at_ tn) (brkAt bs j).at_,dirT d tn,(knbAt k.knobs q).sort⟩∧addP (turnS (knbAt k.knobs q).at_ tn) (brkAt bs j).at_∈bcells ks (brkAt bs j)∧(brkAt bs j).turn=tn∧(∃i:Nat,(brkAt bs j).kind=i∧ks[i]? = some k)∧(knbAt k.knobs q).at_∈k.cells∧(knbAt k.knobs q).at_.in_ 15∧Pt.in_ 1000 (brkAt bs j).at_:=by
 obtain⟨i,tn,k,e1,e2,ht,hi,hv,hkf,hp,hb,hc⟩:=hf.b j hj;rw[hb,placeK_len] at hq;have hv':=hv;unfold Knd.valid at hv';simp only[Bool.and_eq_true] at hv';have ho:=one_iff (knob_one hv'.2.2 hq);have hm:knbAt k.knobs q∈k.knobs:=by
  rw[knbAt_eq (List.getElem?_eq_getElem hq)];exact List.getElem_mem hq
 have hkd:=hkf.kok _ hm;refine⟨tn,k,(knbAt k.knobs q).dir.toNat,ht,hv,hq,by have:=ho.1;have:=hkd.2.1;omega,by have:=hkd.2.1;omega,ho.2.1,ho.2.2.1,?_,?_,e2,⟨i,e1,hi⟩,ho.2.2.2.1,hkf.near _ ho.2.2.2.1,hp⟩
 ·rw[hb];have hg:k.knobs[q]? = some k.knobs[q]:=List.getElem?_eq_getElem hq;rw[knbAt_eq hg];refine knbAt_eq ?_;unfold placeK;rw[List.getElem?_map,hg];rfl
 ·rw[hc];refine(sortP_perm _).mem_iff.2 ?_;unfold placeP;exact List.mem_map.2 ⟨_,ho.2.2.2.1,rfl⟩
theorem Fit.dir(hf:Fit ks bs){j q:Nat}(hj:j<bs.length)(hq:q<(bknobs ks (brkAt bs j)).length):0≤(knbAt (bknobs ks (brkAt bs j)) q).dir∧(knbAt (bknobs ks (brkAt bs j)) q).dir<6∧1≤(knbAt (bknobs ks (brkAt bs j)) q).sort∧(knbAt (bknobs ks (brkAt bs j)) q).sort≤6:=by
 obtain⟨tn,k,d,ht,hv,hqk,hd,e1,e2,e3,e4,-⟩:=hf.knob hj hq;rw[e4];have:=dirT_lt hd ht;exact⟨by simp only;omega,by simp only;omega,e2,e3⟩
structure Knb.meets(x:Knb):Prop where
 ok:x.at_.ok
 d0:0≤x.dir
 d5:x.dir≤5
 s1:1≤x.sort
 s6:x.sort≤6
theorem Fit.meets(hf:Fit ks bs){j q:Nat}(hj:j<bs.length)(hq:q<(bknobs ks (brkAt bs j)).length):(knbAt (bknobs ks (brkAt bs j)) q).meets:=by
 obtain⟨tn,k,d,ht,hv,hqk,hd,e1,e2,e3,e4,-,-,-,-,hin,hp⟩:=hf.knob hj hq;rw[e4];have:=dirT_lt hd ht;exact⟨(addP_in (turnS_in hin tn) hp).ok (by omega),by simp only;omega,by simp only;omega,e2,e3⟩
theorem Fit.face(hf:Fit ks bs){i j q r:Nat}(hi:i<bs.length)(hj:j<bs.length)(hq:q<(bknobs ks (brkAt bs i)).length)(hr:r<(bknobs ks (brkAt bs j)).length)(h1:(knbAt (bknobs ks (brkAt bs i)) q).at_=(knbAt (bknobs ks (brkAt bs j)) r).at_)
  (h2:(knbAt (bknobs ks (brkAt bs i)) q).dir=(knbAt (bknobs ks (brkAt bs j)) r).dir):i=j∧q=r:=by
 obtain⟨t1,k1,d1,ht1,hv1,hq1,hd1,a1,-,-,b1,c1,f1,⟨i1,g1,l1⟩,-⟩:=hf.knob hi hq;obtain⟨t2,k2,d2,ht2,hv2,hq2,hd2,a2,-,-,b2,c2,f2,⟨i2,g2,l2⟩,-⟩:=hf.knob hj hr;rw[b1,b2] at h1 h2;simp only at h1 h2;have hij:i=j:=hf.o i j hi hj _ c1 (by rw[h1];exact c2);subst hij;refine⟨rfl,?_⟩;obtain rfl:t1=t2:=by omega
 obtain rfl:i1=i2:=by omega
 obtain rfl:k1=k2:=by
  rw[l1] at l2;cases l2;rfl
 have e1:=turnS_inj _ (addP_inj h1);have e2:d1=d2:=dirT_inj d1 hd1 d2 hd2 t1 ht1 (by omega);have hv':=hv1;unfold Knd.valid at hv';simp only[Bool.and_eq_true] at hv';rcases Nat.lt_trichotomy q r with h|h|h
 ·have:=knbLt_iff.1 (knobs_asc hv'.2.2 h hq2);rw[e1,ltP_irrefl] at this;rcases this with h' | h'
  ·cases h'
  ·omega
 ·exact h
 ·have:=knbLt_iff.1 (knobs_asc hv'.2.2 h hq1);rw[e1,ltP_irrefl] at this;rcases this with h' | h'
  ·cases h'
  ·omega
theorem lnk_unique(hf:Fit ks bs){x y:Lnk}(hx:IsLnk ks bs x)(hy:IsLnk ks bs y)(ha:x.a=y.a)(hk:x.knob=y.knob):x=y:=by
 obtain⟨xa,xb,xk,xo,xs⟩:=x;obtain⟨ya,yb,yk,yo,ys⟩:=y;simp only at ha hk;subst ha hk;obtain⟨a1,a2,a3,a4,a5,a6⟩:=hx;obtain⟨b1,b2,b3,b4,b5,b6⟩:=hy;simp only at a1 a2 a3 a4 a5 a6 b1 b2 b3 b4 b5 b6;rw[meetB_iff] at a5 b5;obtain⟨h1,h2⟩:=hf.face a2 b2 a4 b4 (by rw[←a5.1,←b5.1]) (by rw[a5.2.1,b5.2.1]);subst h1 h2;rw[a6,b6]
theorem linkL_asc(hf:Fit ks bs):(linkL ks bs).Pairwise fun x y=>ltK x y=true:=by
 have h:=linkL_ltO ks bs;rw[List.pairwise_iff_getElem] at h ⊢;intro i j hi hj hij;have h1:=h i j hi hj hij;rw[ltK_iff];unfold LtO at h1;rcases h1 with h1|⟨e1,h1|⟨e2,h1|⟨e3,h1⟩⟩⟩
 ·exact Or.inl h1
 ·exact Or.inr ⟨e1,Or.inl h1⟩
 ·exact Or.inr ⟨e1,Or.inr ⟨e2,h1⟩⟩
 ·have:=lnk_unique hf (mem_linkL.1 (List.getElem_mem hi)) (mem_linkL.1 (List.getElem_mem hj)) e1 e3;rw[this] at h1;omega
/-! What the program has gathered. -/
structure Got(ks:List Knd)(bs:List Brk)(a n:Nat)(L:List Lnk):Prop where
 nd:L.Nodup
 m: ∀x,x∈L↔IsLnk ks bs x∧(x.a<a∨(x.a=a∧x.knob<n))
theorem Got.nil:Got ks bs 0 0 []:=⟨List.nodup_nil,fun x=>⟨fun h=>(nomatch h),fun h=>absurd h.2 (by omega)⟩⟩
theorem Got.next{a:Nat}{L:List Lnk}(h:Got ks bs a (bknobs ks (brkAt bs a)).length L):Got ks bs (a+1) 0 L:=⟨h.nd,fun x=>by
 rw[h.m];constructor
 ·rintro⟨h1,h2⟩;exact⟨h1,by omega⟩
 ·rintro⟨h1,h2⟩;refine⟨h1,?_⟩;have:=h1.k;by_cases e:x.a=a
  ·rw[e] at this;exact Or.inr ⟨e,this⟩
  ·omega⟩
theorem Got.skip{a n:Nat}{L:List Lnk}(h:Got ks bs a n L)(hn: ∀x,IsLnk ks bs x→x.a=a→x.knob=n→False):Got ks bs a (n+1) L:=⟨h.nd,fun x=>by
 rw[h.m];constructor
 ·rintro⟨h1,h2⟩;exact⟨h1,by omega⟩
 ·rintro⟨h1,h2⟩;refine⟨h1,?_⟩;rcases h2 with h2|⟨h2,h3⟩
  ·exact Or.inl h2
  ·by_cases e:x.knob=n
   ·exact(hn x h1 h2 e).elim
   ·omega⟩
theorem Got.add(hf:Fit ks bs){a n:Nat}{L:List Lnk}(h:Got ks bs a n L){x:Lnk}(hx:IsLnk ks bs x)(ha:x.a=a)(hn:x.knob=n):Got ks bs a (n+1) (L ++ [x]):=by
 refine⟨?_,fun y=> ?_⟩
 ·rw[List.nodup_append];refine⟨h.nd,by simp,fun y hy z hz e=> ?_⟩;rw[List.mem_singleton] at hz;subst hz e;have:=((h.m y).1 hy).2;omega
 ·rw[List.mem_append,h.m,List.mem_singleton];constructor
  ·rintro(⟨h1,h2⟩|rfl)
   ·exact⟨h1,by omega⟩
   ·exact⟨hx,by omega⟩
  ·rintro⟨h1,h2⟩;by_cases e:y.a=a∧y.knob=n
   ·exact Or.inr (lnk_unique hf h1 hx (by omega) (by omega))
   ·exact Or.inl ⟨h1,by omega⟩
theorem Got.perm{L:List Lnk}(h:Got ks bs bs.length 0 L):L.Perm (linkL ks bs) :=
 (List.perm_ext_iff_of_nodup h.nd (linkL_nodup ks bs)).2 fun x=>by
  rw[h.m,mem_linkL];exact⟨fun h=>h.1,fun h=>⟨h,Or.inl (by have:=h.ab;have:=h.b;omega)⟩⟩
theorem sorted_linkL(hf:Fit ks bs){l:List Lnk}(hp:l.Perm (linkL ks bs))(hs:l.Pairwise fun x y=>ltK y x=false):l=linkL ks bs:=by
 refine List.Perm.eq_of_pairwise (le:=fun x y=>ltK y x=false) ?_ hs ((linkL_asc hf).imp fun {x y} h=>by rw[ltK_iff] at h;rw[ltK_not];omega) hp;intro a b ha hb h k;rw[ltK_not] at h k;exact lnk_unique hf (mem_linkL.1 (hp.mem_iff.1 ha)) (mem_linkL.1 hb) (by omega) (by omega)
end
def KnobsRes(l:List Knb)(n:Nat)(w:World)(e:Ending)(w':World):Prop:= ∃g cap,w.heap.size≤g∧e = .returned (.tuple #[.slice (some ⟨g,0,none⟩) n cap,.int .i64 0])∧n≤cap∧cap≤maxLen∧RowX w' g 137 (l.map Knb.cs)∧Ext w w'
theorem Knobs_ok(qs:List (Knd×KAt))(QA:Option Addr)(qc:Nat)(w:World)(hk:Kinds w QA qc qs)(i:Nat)(k:Knd)(p:KAt)(hi:qs[i]? = some (k,p))(hf:k.Fine)(x y z c:Int)(t:Nat)(hb:Brk.byte ⟨i,⟨x,y,z⟩,t,c⟩)(he:askedErr (qs.map (·.1)) [⟨i,⟨x,y,z⟩,t,c⟩]=0)(ht:t<24)(hp:Pt.ok ⟨x,y,z⟩) :
  Calls Tryz.prog 63 #[.slice QA qs.length qc,.agg #[.int .i64 i,.int .i64 x,.int .i64 y,.int .i64 z,.int .u8 t,.int .u8 c]] w (KnobsRes (placeK k.knobs t ⟨x,y,z⟩) k.knobs.length w):=by
 obtain⟨cells,knobs,wt⟩:=k;obtain⟨A,ca,B,cb⟩:=p;have hil:i<qs.length:=(List.getElem?_eq_some_iff.1 hi).1;have hql:qs.length≤9223372036854775807:=by have:=hk.len;unfold maxLen at this;omega
 have hcl:knobs.length≤48:=hf.klen;obtain⟨n,hn⟩:=nm knobs.length;show Calls _ _ _ _ (KnobsRes (placeK knobs t ⟨x,y,z⟩) knobs.length w)
 rw[hn];have Hn:=h_ hn;clear hn;have hcok: ∀q∈knobs,q.fine:=hf.kok;have hc:Knobs w B cb knobs:=(hk.k _ (List.mem_of_getElem? hi)).n;obtain⟨W1,hW1,E1,B1,hz1⟩:=mk_ w #[.int .i64 i,.int .i64 x,.int .i64 y,.int .i64 z,.int .u8 t,.int .u8 c] 126;have b1:=B1.cell;have CH:=check1_c qs QA qc i x y z t c W1 (hk.ext E1) hb 126;rw[he] at CH;clear he hz1;have hml:knobs.length≤maxLen:=by unfold maxLen;omega
 have f1:IntKind.i64.wrap (t:Int)=t:=IntWalk.i64_in _ (by omega);go_enter Tryz.func63,Tryz.ntmps63;go_wp2_with fail;refine CH.mono ?_;rintro e W2 ⟨rfl,E2⟩;have E:=E1.trans E2;have BB:=B1.ext E2;obtain⟨kg,koff,k',p',rfl,hq,hka,hkg,c0,c1,c2⟩:=(hk.ext E).at_ hil;rw[hi] at hq;cases hq;simp only at c0 c1 c2;clear CH b1 hW1 B1 E1 E2 hka;have b1:=BB.cell;have i1:(0:Int)≤i:=by omega
 have i2:(i:Int)<qs.length:=by omega
 have hn:=Hn.out;have CC: ∀W,Ext W2 W→Calls Tryz.prog 92 #[.agg #[.slice A cells.length ca,.slice B n cb,.int .i64 wt],.int .i64 t,.agg #[.int .i64 x,.int .i64 y,.int .i64 z]] W (KnobsPost (placeK knobs t ⟨x,y,z⟩) n W):=fun W EW=>by
  subst hn;exact knobs_c cells.length ca knobs wt A B cb t x y z W (hc.ext (E.trans EW)) (by omega) hcok ht hp
 have HCC:=h_ CC;rw[hn] at c1 hml;clear CC hn hi hf hc hcok
 go_upto_region 4 with(fail)
 go_region_law (first
  | (go_simp;go_at_call 92;refine(HCC.out _ (Ext.refl W2).drew).mono ?_;rintro e W3 ⟨g,hg,rfl,B3,E3⟩))
 all_goals
  go_wp2_with fail;go_ret2;exact⟨g,n,Nat.le_trans E.size hg,rfl,Nat.le_refl _,hml,rowX_of_blk B3,E.trans (Ext.drew (Ext.refl W2) |>.trans E3)⟩
/-! The reference. -/
def RKnobsRes(l:List Knb)(n:Nat)(w:World)(e:Ending)(w':World):Prop:= ∃A cap,e = .returned (.tuple #[.slice A n cap,.int .i64 0])∧SliceIs w' A n cap 5 (l.map Knb.cs)∧(∀q,A=some q→w.heap.size≤q.block)∧Ext w w'
section
variable {K:Type} [DecidableEq K]
def Tally(m:List (K×Int))(l:List K):Prop:=(∀x,(getK m x).getD 0=(l.count x:Int)) ∧ ∀p∈m,p.2≤(l.count p.1:Int)
theorem Tally.nil:Tally ([]:List (K×Int)) []:=⟨fun _=>rfl,fun _ h=>nomatch h⟩
theorem mem_putK{m:List (K×Int)}{x:K}{v:Int}{p:K×Int}(h:p∈putK m x v):p=(x,v)∨p∈m:=by
 induction m with
 | nil=>exact Or.inl (by simpa [putK] using h)
 | cons q m ih =>
  unfold putK at h
  split at h
  ·rcases List.mem_cons.1 h with h|h
   ·exact Or.inl h
   ·exact Or.inr (List.mem_cons_of_mem _ h)
  ·rcases List.mem_cons.1 h with h|h
   ·exact Or.inr (by rw[h];exact List.mem_cons_self)
   ·rcases ih h with h|h
    ·exact Or.inl h
    ·exact Or.inr (List.mem_cons_of_mem _ h)
theorem Tally.put{m:List (K×Int)}{l:List K}(h:Tally m l)(x:K):Tally (putK m x ((getK m x).getD 0+1)) (l ++ [x]):=by
 constructor
 ·intro y;rw[getK_putK];by_cases hy:y=x
  ·subst hy;rw[if_pos rfl,h.1];simp
  ·rw[if_neg hy,h.1,List.count_append,List.count_singleton];rw[if_neg (by simpa using fun e=>hy e.symm)];simp
 ·intro p hp;rcases mem_putK hp with rfl|hp
  ·simp[h.1]
  ·have:=h.2 p hp;rw[List.count_append];omega
theorem Tally.one{m:List (K×Int)}{l:List K}(h:Tally m l)(hn:l.Nodup): ∀p∈m,¬1<p.2:=fun p hp=>by
 have:=h.2 p hp;have:=List.nodup_iff_count.1 hn p.1;omega
theorem Tally.le{m:List (K×Int)}{l:List K}(h:Tally m l)(x:K):0≤(getK m x).getD 0∧(getK m x).getD 0≤l.length:=by
 rw[h.1];have:=List.count_le_length (a:=x) (l:=l);omega
def twiceB(l:List K):Bool:= !decide l.Nodup
end
/-! ### cells -/
def flatC(ks:List Knd)(bs:List Brk)(j:Nat):List Pt:=(List.range j).flatMap fun i=>bcells ks (brkAt bs i)
/-! ### ends -/
theorem meet_back{p q:Pt}{d e:Int}(h0:0≤d)(h1:d<6)(h:addP p (stepS d.toNat)=q)(he:e=oppD d):addP q (stepS e.toNat)=p∧oppD e=d:=by
 subst he h;obtain⟨x,y,z⟩:=p;have hd:d=0∨d=1∨d=2∨d=3∨d=4∨d=5:=by omega
 rcases hd with rfl|rfl|rfl|rfl|rfl|rfl <;> simp[addP,stepS,oppD] <;> omega
section
variable {ks:List Knd} {bs:List Brk}
theorem IsLnk.back(hf:Fit ks bs){x:Lnk}(h:IsLnk ks bs x):addP (knbAt (bknobs ks (brkAt bs x.b)) x.other).at_ (stepS (knbAt (bknobs ks (brkAt bs x.b)) x.other).dir.toNat)=(knbAt (bknobs ks (brkAt bs x.a)) x.knob).at_ ∧
  oppD (knbAt (bknobs ks (brkAt bs x.b)) x.other).dir=(knbAt (bknobs ks (brkAt bs x.a)) x.knob).dir:=by
 have hm:=meetB_iff.1 h.m;have hd:=hf.dir (Nat.lt_trans h.ab h.b) h.k;exact meet_back hd.1 hd.2.1 hm.1 hm.2.1
def endsL(l:List Lnk):List (Nat×Nat):=l.flatMap fun x=> [(x.a,x.knob),(x.b,x.other)]
end
def encE(x:Nat×Nat):Value:= .agg #[.int .i64 x.1,.int .i64 x.2]
def evI(x:Int):Value:= .int .i64 x
section
variable {P:Program} {K V:Type} {enc:K→Value} {ev:V→Value}
end
def bornOf:Value→Nat
 | .tuple #[_,.int _ n]=>n.toNat
 | _=>0
theorem asked_one{ks:List Knd}{bs:List Brk}{b:Brk}(h:askedErr ks bs=0)(hm:b∈bs):askedErr ks [b]=0:=by
 have h0:kindsErr ks=0:=by
  by_cases h0:kindsErr ks=0
  ·exact h0
  ·rwa [askedErr_kinds h0] at h
 obtain⟨j,hj⟩:=List.getElem?_of_mem hm;cases hb:b.ok ks.length
 ·rw[askedErr_bad h0 (List.getElem?_eq_some_iff.1 hj).1 (by rw[brkAt_eq hj];exact hb)] at h;cases h
 ·refine askedErr_good h0 fun i hi=> ?_;obtain rfl:i=0:=by simpa using hi
  exact hb
theorem RowX.grown{w w':World}{g:Nat}{t:TypeId}{rows:List (List Value)}{row:Option Nat}(h:RowX w g t rows)(e:w.grownBy w' row)(hr:some g≠row):RowX w' g t rows:=by
 obtain⟨ex,hb⟩:=h;exact⟨ex,hb.grown e hr⟩
theorem RowX.map_ne{K V:Type}{enc:K→Value}{ev:V→Value}{w:World}{M:Nat}{m:List (K×V)}{g:Nat}{t:TypeId}{rows:List (List Value)}(h:RowX w g t rows)(hm:MapOf enc ev w M m):some g≠some M:=by
 obtain⟨ex,hb⟩:=h;exact fun e=>hm.blk_ne hb (by cases e;rfl)
theorem bricks_cell{w:World}{B:Option Addr}{cap:Nat}{l:List Brk}(h:Bricks w B cap l){k:Nat}(hk:k<l.length){g off:Nat}(hA:B=some ⟨g,off,none⟩):w.cell? ⟨g,off+k*6,none⟩=some (.int .i64 (brkAt l k).kind)∧w.cell? ⟨g,off+k*6+1,none⟩=some (.int .i64 (brkAt l k).at_.x) ∧
  w.cell? ⟨g,off+k*6+2,none⟩=some (.int .i64 (brkAt l k).at_.y)∧w.cell? ⟨g,off+k*6+3,none⟩=some (.int .i64 (brkAt l k).at_.z)∧w.cell? ⟨g,off+k*6+4,none⟩=some (.int .u8 (brkAt l k).turn)∧w.cell? ⟨g,off+k*6+5,none⟩=some (.int .u8 (brkAt l k).color):=by
 obtain⟨b,o,p,hA',hp,-,-,c0,c1,c2,c3,c4,c5⟩:=h.at_ hk;rw[hA'] at hA;cases hA;rw[brkAt_eq hp];exact⟨c0,c1,c2,c3,c4,c5⟩
theorem bricks_addr{w:World}{B:Option Addr}{cap:Nat}{l:List Brk}(h:Bricks w B cap l)(hk:0<l.length): ∃g off,B=some ⟨g,off,none⟩:=by
 obtain⟨b,o,p,hA',-⟩:=h.at_ hk;exact⟨b,o,hA'⟩
def brkV(b:Brk):Value:= .agg #[.int .i64 b.kind,.int .i64 b.at_.x,.int .i64 b.at_.y,.int .i64 b.at_.z,.int .u8 b.turn,.int .u8 b.color]
section
variable {qs:List (Knd×KAt)} {bs:List Brk}
theorem brk_parts{w:World}{QA:Option Addr}{qc:Nat}(hk:Kinds w QA qc qs)(hb: ∀b∈bs,b.byte)(h0:modelErr (qs.map (·.1)) bs=0){j:Nat}(hj:j<bs.length): ∃(i t:Nat) (x y z c:Int) (k:Knd) (p:KAt),brkAt bs j=⟨i,⟨x,y,z⟩,t,c⟩∧t<24∧qs[i]? = some (k,p)∧k.Fine∧Pt.in_ 1000 ⟨x,y,z⟩∧Brk.byte ⟨i,⟨x,y,z⟩,t,c⟩ ∧
  askedErr (qs.map (·.1)) [⟨i,⟨x,y,z⟩,t,c⟩]=0∧bcells (qs.map (·.1)) (brkAt bs j)=sortP (placeP k.cells t ⟨x,y,z⟩)∧bknobs (qs.map (·.1)) (brkAt bs j)=placeK k.knobs t ⟨x,y,z⟩:=by
 have hf:=mfine_of hk hb h0;have hq:bs[j]? = some bs[j]:=List.getElem?_eq_getElem hj;have hm:=List.getElem_mem hj;obtain⟨i,t,k,p,e1,e2,ht,hi,hkf,hp,-⟩:=hf.b _ hm;have hby:=hb _ hm;have has:=asked_one (modelErr_zero h0).2.2 hm;have hc:=bcells_is e1 e2 hi;have hn:=bknobs_is e1 e2 hi;rw[brkAt_eq hq];obtain⟨b,hbe⟩:=nm (bs[j]);rw[hbe] at e1 e2 hp hby has hc hn ⊢;obtain⟨kd,⟨x,y,z⟩,tt,c⟩:=b;simp only at e1 e2 hp hc hn;subst e1 e2;exact⟨i,t,x,y,z,c,k,p,rfl,ht,hi,hkf,hp,hby,has,hc,hn⟩
theorem cellsAt_c{w:World}{QA:Option Addr}{qc:Nat}(hk:Kinds w QA qc qs)(hb: ∀b∈bs,b.byte)(h0:modelErr (qs.map (·.1)) bs=0){j:Nat}(hj:j<bs.length)(W:World)(E:Ext w W) :
  Calls Tryz.prog 62 #[.slice QA qs.length qc,brkV (brkAt bs j)] W (CellsRes (bcells (qs.map (·.1)) (brkAt bs j)) (bcells (qs.map (·.1)) (brkAt bs j)).length W):=by
 obtain⟨i,t,x,y,z,c,k,p,e,ht,hi,hkf,hp,hby,has,hc,-⟩:=brk_parts hk hb h0 hj;have h:=Cells_ok qs QA qc W (hk.ext E) i k p hi hkf x y z c t hby has ht (hp.ok (by omega));have hl:k.cells.length=(bcells (qs.map (·.1)) (brkAt bs j)).length:=by rw[hc,sortP_len,placeP_len]
 rw[hl,←hc] at h;rw[e] at h ⊢;exact h
theorem knobsAt_c{w:World}{QA:Option Addr}{qc:Nat}(hk:Kinds w QA qc qs)(hb: ∀b∈bs,b.byte)(h0:modelErr (qs.map (·.1)) bs=0){j:Nat}(hj:j<bs.length)(W:World)(E:Ext w W) :
  Calls Tryz.prog 63 #[.slice QA qs.length qc,brkV (brkAt bs j)] W (KnobsRes (bknobs (qs.map (·.1)) (brkAt bs j)) (bknobs (qs.map (·.1)) (brkAt bs j)).length W):=by
 obtain⟨i,t,x,y,z,c,k,p,e,ht,hi,hkf,hp,hby,has,-,hn⟩:=brk_parts hk hb h0 hj;have h:=Knobs_ok qs QA qc W (hk.ext E) i k p hi hkf x y z c t hby has ht (hp.ok (by omega));have hl:k.knobs.length=(bknobs (qs.map (·.1)) (brkAt bs j)).length:=by rw[hn,placeK_len]
 rw[hl,←hn] at h;rw[e] at h ⊢;exact h
end
def memA(z q:Nat):Nat:=(setL z).getD q 0
theorem memA_eq{z q i:Nat}(h:(setL z)[q]? = some i):memA z q=i:=by
 unfold memA;rw[List.getD_eq_getElem?_getD,h];rfl
theorem memA_get{z q:Nat}(h:q<(setL z).length):(setL z)[q]? = some (memA z q):=by
 rw[memA_eq (List.getElem?_eq_getElem h),List.getElem?_eq_getElem h]
theorem memA_lt{n z q:Nat}(hz:SetB n z)(hn:n≤64)(h:q<(setL z).length):memA z q<n:=hz _ ((setL_of hz hn).1 (List.mem_of_getElem? (memA_get h)))
def partQ(bs:List Brk)(z q:Nat):List Brk:=((setL z).take q).map (brkAt bs)
def partB(bs:List Brk)(z:Nat):List Brk:=(setL z).map (brkAt bs)
theorem partQ_all(bs:List Brk)(z:Nat):partQ bs z (setL z).length=partB bs z:=by rw[partQ,List.take_length];rfl
theorem partQ_succ(bs:List Brk){z q:Nat}(h:q<(setL z).length):partQ bs z (q+1)=partQ bs z q ++ [brkAt bs (memA z q)]:=by
 unfold partQ;rw[List.take_add_one,memA_get h,List.map_append];rfl
theorem partB_len(bs:List Brk)(z:Nat):(partB bs z).length=(setL z).length:=List.length_map _
theorem partB_at(bs:List Brk){z q:Nat}(h:q<(setL z).length):brkAt (partB bs z) q=brkAt bs (memA z q):=by
 refine brkAt_eq ?_;unfold partB;rw[List.getElem?_map,memA_get h];rfl
def handQ(hands:List Int)(z q:Nat):List Int:=((List.range q).filter fun k=>hasZ hands (memA z k:Int)).map fun k:Nat=>(k:Int)
def handP(hands:List Int)(z:Nat):List Int:=handQ hands z (setL z).length
theorem handQ_succ(hands:List Int)(z q:Nat):handQ hands z (q+1)=handQ hands z q++if hasZ hands (memA z q:Int) then [(q:Int)] else []:=by
 unfold handQ;rw[List.range_succ,List.filter_append,List.map_append];congr 1;cases h:hasZ hands (memA z q:Int) <;> simp[h]
theorem handQ_len(hands:List Int)(z q:Nat):(handQ hands z q).length≤q:=by
 unfold handQ;rw[List.length_map];exact Nat.le_trans (List.length_filter_le _ _) (by simp)
theorem asc_chosen{l:List Nat}{n:Nat}(h:l.Pairwise (· < ·))(hb: ∀i∈l,i<n):chosenB (l.map fun k:Nat=>(k:Int)) n=true:=by
 have hg: ∀{j:Nat} {i:Nat},l[j]? = some i→(l.map fun k:Nat=>(k:Int))[j]? = some (i:Int):=fun e=>by rw[List.getElem?_map,e];rfl
 refine chosen_good fun j hj=> ?_;rw[List.length_map] at hj;have hq:l[j]? = some l[j]:=List.getElem?_eq_getElem hj;have hb:=hb _ (List.mem_of_getElem? hq);rcases Nat.eq_zero_or_pos j with rfl|h0
 ·exact chOk_zero (hg hq) (by omega)
 ·have hr:l[j-1]? = some l[j-1]:=List.getElem?_eq_getElem (by omega);rw[chOk_next (hg hq) (by omega) (hg hr) (by omega)];have:=List.pairwise_iff_getElem.1 h (j-1) j (by omega) hj (by omega);exact decide_eq_true (by omega)
theorem handP_chosen(hands:List Int)(z:Nat):chosenB (handP hands z) (setL z).length=true:=by
 refine asc_chosen (List.Pairwise.filter _ List.pairwise_lt_range) fun i hi=> ?_;exact List.mem_range.1 (List.mem_filter.1 hi).1
def backP(d t:Nat)(c:Pt):Pt:=⟨c.x-t*(stepS d).x,c.y-t*(stepS d).y,c.z-t*(stepS d).z⟩
theorem backP_zero(d:Nat)(c:Pt):backP d 0 c=c:=by simp[backP]
theorem step_cases{P:Nat→Prop}(h0:P 0)(h1:P 1)(h2:P 2)(h3:P 3)(h4:P 4)(h5:P 5){d:Nat}(hd:d<6):P d:=by
 have:d=0∨d=1∨d=2∨d=3∨d=4∨d=5:=by omega
 rcases this with rfl|rfl|rfl|rfl|rfl|rfl <;> assumption
theorem backP_succ(d t:Nat)(c:Pt):backP d (t+1) c=⟨(backP d t c).x-(stepS d).x,(backP d t c).y-(stepS d).y,(backP d t c).z-(stepS d).z⟩:=by
 unfold backP;simp only[Pt.mk.injEq,Int.natCast_add,Int.natCast_one,Int.add_mul,Int.one_mul];omega
theorem backP_near{d t:Nat}(hd:d<6)(ht:t≤64){c:Pt}(hc:c.in_ 1015):(backP d t c).in_ 1079:=by
 obtain⟨⟨a1,a2⟩,⟨b1,b2⟩,⟨c1,c2⟩⟩:=hc;revert hd;refine fun hd=>step_cases (P:=fun d=>(backP d t c).in_ 1079) ?_ ?_ ?_ ?_ ?_ ?_ hd<;>(simp only[backP,stepS,Pt.in_];omega)
def fitX(ks:List Knd)(bs:List Brk)(z b d:Nat)(x:Lnk):Prop :=
 (x.a=b→z.testBit x.b=true→(knbAt (bknobs ks (brkAt bs b)) x.knob).dir=d)∧(x.b=b→z.testBit x.a=true→(knbAt (bknobs ks (brkAt bs b)) x.other).dir=d)
structure FreeP(ks:List Knd)(bs:List Brk)(tab:Int)(z b d:Nat):Prop where
 fit: ∀x∈linkL ks bs,fitX ks bs z b d x
 tab: ∀c∈bcells ks (brkAt bs b),tab≤(backP d 64 c).z
 way: ∀j,z.testBit j=true → ∀c∈bcells ks (brkAt bs b),∀t,1≤t→t≤64 → ¬backP d t c∈bcells ks (brkAt bs j)
open Classical in
noncomputable def freeB(ks:List Knd)(bs:List Brk)(tab:Int)(z b d:Nat):Bool:=decide (FreeP ks bs tab z b d)
open Classical in
theorem freeB_iff{ks:List Knd}{bs:List Brk}{tab:Int}{z b d:Nat}:freeB ks bs tab z b d=true↔FreeP ks bs tab z b d:=by
 unfold freeB;exact decide_eq_true_iff
open Classical in
theorem freeB_not{ks:List Knd}{bs:List Brk}{tab:Int}{z b d:Nat}(h: ¬FreeP ks bs tab z b d):freeB ks bs tab z b d=false:=by
 unfold freeB;exact decide_eq_false h
noncomputable def wayQ(ks:List Knd)(bs:List Brk)(tab:Int)(z b n:Nat):List Int:=((List.range n).filter fun d=>freeB ks bs tab z b d).map fun d:Nat=>(d:Int)
def SeeP(ks:List Knd)(bs:List Brk)(z b d:Nat):Prop:= ∃c∈bcells ks (brkAt bs b),∀j,z.testBit j=true→j≠b → ∀t,1≤t → ¬backP d t c∈bcells ks (brkAt bs j)
open Classical in
noncomputable def seeB(ks:List Knd)(bs:List Brk)(z b d:Nat):Bool:=decide (SeeP ks bs z b d)
open Classical in
theorem seeB_iff{ks:List Knd}{bs:List Brk}{z b d:Nat}:seeB ks bs z b d=true↔SeeP ks bs z b d:=by
 unfold seeB;exact decide_eq_true_iff
noncomputable def seenQ(ks:List Knd)(bs:List Brk)(z d q:Nat):List Int:=(((setL z).take q).filter fun b=>seeB ks bs z b d).map fun b:Nat=>(b:Int)
noncomputable def seenN(ks:List Knd)(bs:List Brk)(z d:Nat):Nat:=(setL z).foldl (fun s b=>if seeB ks bs z b d then putN s b else s) 0
theorem low_le{ks:List Knd}{b:Brk}{c:Pt}(h:c∈bcells ks b):(ptAt (bcells ks b) 0).z≤c.z:=by
 obtain⟨q,hq⟩:=List.getElem?_of_mem h;have hql:=(List.getElem?_eq_some_iff.1 hq).1;rw[ptAt_eq (List.getElem?_eq_getElem (show 0<(bcells ks b).length by omega))];rcases Nat.eq_zero_or_pos q with rfl|h0
 ·rw[(List.getElem?_eq_some_iff.1 hq).2];exact Int.le_refl _
 ·have h00:0<(bcells ks b).length:=by omega
  have hs:ltP ((bcells ks b)[q]'hql) ((bcells ks b)[0]'h00)=false:=List.pairwise_iff_getElem.1 (sortP_pairs (placeP (kindAt ks b.kind.toNat).cells b.turn.toNat b.at_)) 0 q h00 hql h0;rw[(List.getElem?_eq_some_iff.1 hq).2,ltP_not] at hs;omega
theorem cells_near{w:World}{qs:List (Knd×KAt)}{bs:List Brk}{QA:Option Addr}{qc:Nat}(hk:Kinds w QA qc qs)(hb: ∀b∈bs,b.byte)(h0:modelErr (qs.map (·.1)) bs=0){j:Nat}(hj:j<bs.length): ∀p∈bcells (qs.map (·.1)) (brkAt bs j),p.in_ 1015:=by
 obtain⟨i,t,x,y,z,c,k,p,e,ht,hi,hkf,hp,hby,has,hc,-⟩:=brk_parts hk hb h0 hj;intro q hq;rw[hc] at hq;have hm:=(sortP_perm _).mem_iff.1 hq;obtain⟨d,hd,e⟩:=List.mem_map.1 (show _∈k.cells.map (fun c=>addP (turnS c t) ⟨x,y,z⟩) from hm);rw[←e];exact addP_in (B:=15) (C:=1000) (turnS_in (hkf.near d hd) t) hp
theorem tab_way{d t:Nat}(hd:d<6)(h1:1≤t)(ht:t≤64){c:Pt}{tab:Int}(hc:tab≤c.z)(h: ¬tab≤(backP d t c).z): ¬tab≤(backP d 64 c).z:=by
 revert h;refine step_cases (P:=fun d=> ¬tab≤(backP d t c).z → ¬tab≤(backP d 64 c).z) ?_ ?_ ?_ ?_ ?_ ?_ hd<;>(simp only[backP,stepS];omega)
def behindZ(c p:Pt)(d:Nat):Int :=
 let n:=(c.x-p.x)*(stepS d).x+(c.y-p.y)*(stepS d).y+(c.z-p.z)*(stepS d).z
 if n<1 then 0 else if backP d n.toNat c=p then n else 0
theorem behind_iff{c p:Pt}{d t:Nat}(hd:d<6)(ht:1≤t):behindZ c p d=t↔backP d t c=p:=by
 obtain⟨x,y,z⟩:=c;obtain⟨a,b,e⟩:=p;refine step_cases (P:=fun d=>behindZ ⟨x,y,z⟩ ⟨a,b,e⟩ d=t↔backP d t ⟨x,y,z⟩=⟨a,b,e⟩) ?_ ?_ ?_ ?_ ?_ ?_ hd <;>
 ·simp only[behindZ,backP,stepS,Pt.mk.injEq]
  split
  ·omega
  ·split <;> omega
theorem behind_nonneg(c p:Pt)(d:Nat):0≤behindZ c p d:=by
 unfold behindZ;simp only
 split
 ·omega
 ·split <;> omega
end Go.Proofs.YtojolpbpjimfgaaGreatDoor
