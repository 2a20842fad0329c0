/- Texts of the proof: Ord, Has, KindS. -/
import Derived.Test.YtojolpbpjimfgaaGreatDoorZy1
import Derived.Test.YtojolpbpjimfgaaGreatDoorZy2
import Derived.Deep.CutRange
import Derived.Deep.DeepCutAuto
import Derived.BigQuiet
set_option maxHeartbeats 1600000
namespace Go.Proofs.YtojolpbpjimfgaaGreatDoor
open Go.RowKit
theorem mk_(w:World)(ca:Array Value)(ta:TypeId): ∃W,w.alloc (.cells ca ta)=W∧Ext w W∧Blk W w.heap.size ta ca∧W.heap.size=w.heap.size+1 :=
 ⟨_,rfl,(Ext.refl w).alloc _,Blk.new _ _ _,by simp⟩
def ordZ(a b:Int):Int:=if a<b then -1 else if b<a then 1 else 0
theorem ordZ_lt{a b:Int}(h:a<b):ordZ a b = -1:=if_pos h
theorem ordZ_gt{a b:Int}(h:b<a):ordZ a b=1:=by rw[ordZ,if_neg (by omega),if_pos h]
theorem ordZ_eq{a b:Int}(h:a=b):ordZ a b=0:=by rw[ordZ,if_neg (by omega),if_neg (by omega)]
theorem nanZ_c(a:Int)(w:World):Calls Tryz.prog 151 #[.int .i64 a] w fun e w'=>e = .returned (.bool false)∧w=w':=by
 go_enter Tryz.func151,Tryz.ntmps151
 go_wp2
 go_ret;exact⟨by simp,rfl⟩
theorem nanU_c(a:Int)(w:World):Calls Tryz.prog 193 #[.int .u8 a] w fun e w'=>e = .returned (.bool false)∧w=w':=by
 go_enter Tryz.func193,Tryz.ntmps193
 go_wp2
 go_ret;exact⟨by simp,rfl⟩
theorem cmpZ_c(a b:Int)(w:World):Calls Tryz.prog 126 #[.int .i64 a,.int .i64 b] w fun e w'=>e = .returned (.int .i64 (ordZ a b))∧w=w':=by
 by_cases h1:a<b
 ·have Hc:=h_ (ordZ_lt h1);go_enter Tryz.func126,Tryz.ntmps126;go_wp2_with (go_at_call 151;refine(nanZ_c _ _).mono ?_;rintro e w' ⟨rfl,rfl⟩);go_ret;exact⟨by rw[Hc.out];rfl,rfl⟩
 ·by_cases h2:b<a
  ·have Hc:=h_ (ordZ_gt h2);go_enter Tryz.func126,Tryz.ntmps126;go_wp2_with (go_at_call 151;refine(nanZ_c _ _).mono ?_;rintro e w' ⟨rfl,rfl⟩);go_ret;exact⟨by rw[Hc.out];rfl,rfl⟩
  ·have Hc:=h_ (ordZ_eq (show a=b by omega));go_enter Tryz.func126,Tryz.ntmps126;go_wp2_with (go_at_call 151;refine(nanZ_c _ _).mono ?_;rintro e w' ⟨rfl,rfl⟩);go_ret;exact⟨by rw[Hc.out];rfl,rfl⟩
theorem cmpU_c(a b:Int)(w:World):Calls Tryz.prog 157 #[.int .u8 a,.int .u8 b] w fun e w'=>e = .returned (.int .i64 (ordZ a b))∧w=w':=by
 by_cases h1:a<b
 ·have Hc:=h_ (ordZ_lt h1);go_enter Tryz.func157,Tryz.ntmps157;go_wp2_with (go_at_call 193;refine(nanU_c _ _).mono ?_;rintro e w' ⟨rfl,rfl⟩);go_ret;exact⟨by rw[Hc.out];rfl,rfl⟩
 ·by_cases h2:b<a
  ·have Hc:=h_ (ordZ_gt h2);go_enter Tryz.func157,Tryz.ntmps157;go_wp2_with (go_at_call 193;refine(nanU_c _ _).mono ?_;rintro e w' ⟨rfl,rfl⟩);go_ret;exact⟨by rw[Hc.out];rfl,rfl⟩
  ·have Hc:=h_ (ordZ_eq (show a=b by omega));go_enter Tryz.func157,Tryz.ntmps157;go_wp2_with (go_at_call 193;refine(nanU_c _ _).mono ?_;rintro e w' ⟨rfl,rfl⟩);go_ret;exact⟨by rw[Hc.out];rfl,rfl⟩
def orL:List Int→Int
 | []=>0
 | x::xs=>if x=0 then orL xs else x
theorem orL_drop{xs:List Int}{k:Nat}{n:Int}(h:xs[k]? = some n):orL (xs.drop k)=if n=0 then orL (xs.drop (k+1)) else n:=by
 obtain⟨hk,hn⟩:=List.getElem?_eq_some_iff.1 h;rw[List.drop_eq_getElem_cons hk,hn];rfl
theorem orL_c(A:Option Addr)(cap:Nat)(xs:List Int)(w:World)(hs:SliceIs w A xs.length cap 1 (xs.map fun n=> [.int .i64 n])) :
  Calls Tryz.prog 125 #[.slice A xs.length cap] w fun e w'=>e = .returned (.int .i64 (orL xs))∧w=w':=by
 have hl:xs.length≤9223372036854775807:=by have:=hs.le;have:=hs.small;unfold maxLen at this;omega
 go_enter Tryz.func125,Tryz.ntmps125
 go_wp2
 go_loop [8] (fun i=> ∃k:Nat,k≤xs.length∧i = .int .i64 k∧orL xs=orL (xs.drop k)) (fun i=>xs.length-(intOf i).toNat)
 case atStart=>exact⟨0,by omega,rfl,rfl⟩
 case round =>
  obtain⟨k,hk,rfl,hj⟩:=hrel;have Hj:=h_ hj;clear hj;by_cases hlt:k<xs.length
  ·obtain⟨b,off,rfl,hb,hc⟩:=hs.cells (by omega);obtain⟨n,hn⟩: ∃n,xs[k]? = some n:=⟨_,List.getElem?_eq_getElem hlt⟩;have hc0:=hc k [.int .i64 n] (by rw[List.getElem?_map,hn];rfl) 0 _ rfl;have Hd:=h_ (orL_drop hn);clear hn hc;simp only[Nat.mul_one,Nat.add_zero] at hc0;by_cases h1:n=0
   ·subst h1
    go_wp2
    go_round
    case rel=>exact⟨k+1,by omega,by go_num,by rw[Hj.out,Hd.out,if_pos rfl]⟩
    case measure=>simp[intOf];omega
   ·have h2:(n != 0)=true:=by simpa using h1
    have Hn:=h_ h1;clear h1
    go_wp2
    go_ret;exact⟨by rw[Hj.out,Hd.out,if_neg Hn.out];rfl,rfl⟩
  ·obtain rfl:xs.length=k:=by omega
   go_wp2
   go_ret;exact⟨by rw[Hj.out,List.drop_length];rfl,rfl⟩
theorem ints_new(w:World)(xs:List Int)(t:TypeId)(h:xs.length≤100):SliceIs (w.alloc (.cells (xs.map (Value.int .i64)).toArray t)) (some ⟨w.heap.size,0,none⟩) xs.length xs.length 1 (xs.map fun n=> [.int .i64 n]):=by
 refine⟨by simp,Nat.le_refl _,by unfold maxLen;omega,by simp,fun _=>⟨_,0,rfl,by simp,fun i r hr j u hu=> ?_⟩⟩;rw[List.getElem?_map] at hr;obtain⟨n,hn,rfl⟩:=Option.map_eq_some_iff.1 hr;have hj:j=0:=by
  rcases Nat.eq_zero_or_pos j with h|h
  ·exact h
  ·rw[List.getElem?_eq_none (by simp;omega)] at hu;cases hu
 subst hj;simp at hu;subst hu;rw[cell_new];simp[hn]
theorem or2_c(a b:Int)(w:World)(t:TypeId):Calls Tryz.prog 125 #[.slice (some ⟨w.heap.size,0,none⟩) 2 2] (w.alloc (.cells #[.int .i64 a,.int .i64 b] t)) fun e w'=>e = .returned (.int .i64 (orL [a,b]))∧w.alloc (.cells #[.int .i64 a,.int .i64 b] t)=w' :=
 orL_c _ 2 [a,b] _ (ints_new w [a,b] t (by simp))
theorem or3_c(a b c:Int)(w:World)(t:TypeId):Calls Tryz.prog 125 #[.slice (some ⟨w.heap.size,0,none⟩) 3 3] (w.alloc (.cells #[.int .i64 a,.int .i64 b,.int .i64 c] t)) fun e w'=>e = .returned (.int .i64 (orL [a,b,c]))∧w.alloc (.cells #[.int .i64 a,.int .i64 b,.int .i64 c] t)=w' :=
 orL_c _ 3 [a,b,c] _ (ints_new w [a,b,c] t (by simp))
/-! The order of cells. -/
def ltP(p q:Pt):Bool:=decide (p.z<q.z)||(decide (p.z=q.z)&&(decide (p.y<q.y)||(decide (p.y=q.y)&&decide (p.x<q.x))))
theorem ltP_iff{p q:Pt}:ltP p q=true↔p.z<q.z∨(p.z=q.z∧(p.y<q.y∨(p.y=q.y∧p.x<q.x))):=by simp[ltP]
theorem ltP_not{p q:Pt}:ltP p q=false ↔ ¬(p.z<q.z∨(p.z=q.z∧(p.y<q.y∨(p.y=q.y∧p.x<q.x)))):=by rw[←ltP_iff,Bool.not_eq_true]
def ordP(p q:Pt):Int:=orL [ordZ p.z q.z,ordZ p.y q.y,ordZ p.x q.x]
theorem ordP_cases(p q:Pt):(ltP p q=true∧ordP p q = -1)∨(p=q∧ordP p q=0)∨(ltP q p=true∧ordP p q=1):=by
 obtain⟨a,b,c⟩:=p;obtain⟨d,e,f⟩:=q;rw[ltP_iff,ltP_iff];unfold ordP orL;rcases Int.lt_trichotomy c f with h|h|h
 ·left;rw[ordZ_lt h];exact⟨Or.inl h,rfl⟩
 ·rw[ordZ_eq h,if_pos rfl];unfold orL;rcases Int.lt_trichotomy b e with h2|h2|h2
  ·left;rw[ordZ_lt h2];exact⟨Or.inr ⟨h,Or.inl h2⟩,rfl⟩
  ·rw[ordZ_eq h2,if_pos rfl];unfold orL;rcases Int.lt_trichotomy a d with h3|h3|h3
   ·left;rw[ordZ_lt h3];exact⟨Or.inr ⟨h,Or.inr ⟨h2,h3⟩⟩,rfl⟩
   ·right;left;rw[ordZ_eq h3];subst h h2 h3;exact⟨rfl,rfl⟩
   ·right;right;rw[ordZ_gt h3];exact⟨Or.inr ⟨h.symm,Or.inr ⟨h2.symm,h3⟩⟩,rfl⟩
  ·right;right;rw[ordZ_gt h2];exact⟨Or.inr ⟨h.symm,Or.inl h2⟩,rfl⟩
 ·right;right;rw[ordZ_gt h];exact⟨Or.inl h,rfl⟩
theorem ltP_irrefl(p:Pt):ltP p p=false:=by rw[ltP_not];omega
theorem ltP_trans{p q r:Pt}(h:ltP p q=true)(k:ltP q r=true):ltP p r=true:=by rw[ltP_iff] at *;omega
theorem ltP_anti{p q:Pt}(h:ltP p q=true):ltP q p=false:=by rw[ltP_iff] at h;rw[ltP_not];omega
theorem ordP_neg(p q:Pt):ordP p q<0↔ltP p q=true:=by
 rcases ordP_cases p q with⟨h,e⟩|⟨rfl,e⟩|⟨h,e⟩
 ·rw[e];simp[h]
 ·rw[e,ltP_irrefl];simp
 ·rw[e,ltP_anti h];simp
theorem order_c(a b c d e f:Int)(w:World) :
  Calls Tryz.prog 120 #[.agg #[.int .i64 a,.int .i64 b,.int .i64 c],.agg #[.int .i64 d,.int .i64 e,.int .i64 f]] w fun v w'=>v = .returned (.int .i64 (ordP ⟨a,b,c⟩ ⟨d,e,f⟩))∧Ext w w':=by
 obtain⟨W1,hW1,E1,B1,hz1⟩:=mk_ w #[.int .i64 a,.int .i64 b,.int .i64 c] 124;obtain⟨W2,hW2,E2,B2,hz2⟩:=mk_ W1 #[.int .i64 d,.int .i64 e,.int .i64 f] 124;have B1':=B1.ext E2;rw[hz1] at B2;have b1:=B1'.cell;have b2:=B2.cell;have E:=E1.trans E2;go_enter Tryz.func120,Tryz.ntmps120
 go_upto_region 1 with(fail)
 clear hW1 hW2 hz1 hz2 B1 E1 E2;refine wp_region_tail 15 (by kernel_rfl) (by kernel_rfl) ?_;simp only[List.take_succ_cons,List.take_zero,List.drop_succ_cons,List.drop_zero]
 repeat (go_big_quiet_step (((go_at_call 126;exact quiet_grow_same (cmpZ_c _ _ _)))))
 refine wpQuiet_nil ?_;intro W3 hW3;have E3:Ext W2 W3:=by
  obtain⟨x,rfl⟩:=hW3;exact(Ext.refl _).grow x
 clear hW3;obtain⟨hcW3,hfW3,hzW3⟩:=ext_facts E3;go_wp2_with fail;refine(or3_c _ _ _ _ _).mono ?_;rintro v w4 ⟨rfl,rfl⟩;go_wp2_with fail;go_ret;exact⟨rfl,(E.trans E3).alloc _⟩
theorem rBefore_c(a b c d e f:Int)(w:World) :
  Calls Tryz.prog 132 #[.agg #[.int .i64 a,.int .i64 b,.int .i64 c],.agg #[.int .i64 d,.int .i64 e,.int .i64 f]] w fun v w'=>v = .returned (.bool (ltP ⟨a,b,c⟩ ⟨d,e,f⟩))∧Ext w w':=by
 obtain⟨W1,hW1,E1,B1,hz1⟩:=mk_ w #[.int .i64 a,.int .i64 b,.int .i64 c] 124;obtain⟨W2,hW2,E2,B2,hz2⟩:=mk_ W1 #[.int .i64 d,.int .i64 e,.int .i64 f] 124;have B1':=B1.ext E2;rw[hz1] at B2;have b1:=B1'.cell;have b2:=B2.cell;have E:=E1.trans E2;by_cases h1:c<f
 ·have Hv:=h_ (show ltP ⟨a,b,c⟩ ⟨d,e,f⟩=true from ltP_iff.2 (Or.inl h1));go_enter Tryz.func132,Tryz.ntmps132;go_wp2_with fail;go_ret;exact⟨by rw[Hv.out];rfl,E⟩
 by_cases h2:c=f;rotate_left
 ·have Hv:=h_ (show ltP ⟨a,b,c⟩ ⟨d,e,f⟩=false from ltP_not.2 (by show ¬(c<f∨(c=f∧_));omega));go_enter Tryz.func132,Tryz.ntmps132;go_wp2_with fail;go_ret;exact⟨by rw[Hv.out];rfl,E⟩
 subst h2;by_cases h3:b<e
 ·have Hv:=h_ (show ltP ⟨a,b,c⟩ ⟨d,e,c⟩=true from ltP_iff.2 (Or.inr ⟨rfl,Or.inl h3⟩));go_enter Tryz.func132,Tryz.ntmps132;go_wp2_with fail;go_ret;exact⟨by rw[Hv.out];rfl,E⟩
 by_cases h4:b=e;rotate_left
 ·have Hv:=h_ (show ltP ⟨a,b,c⟩ ⟨d,e,c⟩=false from ltP_not.2 (by show ¬(c<c∨(c=c∧(b<e∨(b=e∧_))));omega));go_enter Tryz.func132,Tryz.ntmps132;go_wp2_with fail;go_ret;exact⟨by rw[Hv.out];rfl,E⟩
 subst h4;by_cases h5:a<d
 ·have Hv:=h_ (show ltP ⟨a,b,c⟩ ⟨d,b,c⟩=true from ltP_iff.2 (Or.inr ⟨rfl,Or.inr ⟨rfl,h5⟩⟩));go_enter Tryz.func132,Tryz.ntmps132;go_wp2_with fail;go_ret;exact⟨by rw[Hv.out];rfl,E⟩
 ·have Hv:=h_ (show ltP ⟨a,b,c⟩ ⟨d,b,c⟩=false from ltP_not.2 (by show ¬(c<c∨(c=c∧(b<b∨(b=b∧a<d))));omega));go_enter Tryz.func132,Tryz.ntmps132;go_wp2_with fail;go_ret;exact⟨by rw[Hv.out];rfl,E⟩
def Pt.cs(p:Pt):List Value:= [.int .i64 p.x,.int .i64 p.y,.int .i64 p.z]
def Cells(w:World)(A:Option Addr)(cap:Nat)(l:List Pt):Prop:=SliceIs w A l.length cap 3 (l.map Pt.cs)
theorem Cells.ext{w w':World}{A:Option Addr}{cap:Nat}{l:List Pt}(h:Cells w A cap l)(e:Ext w w'):Cells w' A cap l:=SliceIs.ext h e
theorem Cells.len{w:World}{A:Option Addr}{cap:Nat}{l:List Pt}(h:Cells w A cap l):l.length≤maxLen:=Nat.le_trans h.le h.small
theorem Cells.at_{w:World}{A:Option Addr}{cap:Nat}{l:List Pt}(h:Cells w A cap l){k:Nat}(hk:k<l.length) :
  ∃b off p,A=some ⟨b,off,none⟩∧l[k]? = some p∧b<w.heap.size∧w.cell? ⟨b,off+k*3,none⟩=some (.int .i64 p.x)∧w.cell? ⟨b,off+k*3+1,none⟩=some (.int .i64 p.y) ∧
   w.cell? ⟨b,off+k*3+2,none⟩=some (.int .i64 p.z):=by
 obtain⟨b,off,hA,hb,hc⟩:=SliceIs.cells h (by omega);have hget:l[k]? = some l[k]:=List.getElem?_eq_getElem hk;have hr:(l.map Pt.cs)[k]? = some l[k].cs:=by rw[List.getElem?_map,hget];rfl
 exact⟨b,off,l[k],hA,hget,hb,hc k _ hr 0 _ rfl,hc k _ hr 1 _ rfl,hc k _ hr 2 _ rfl⟩
def addP(p q:Pt):Pt:=⟨p.x+q.x,p.y+q.y,p.z+q.z⟩
def subP(p q:Pt):Pt:=⟨p.x-q.x,p.y-q.y,p.z-q.z⟩
theorem plus_c(a b c d e f:Int)(w:World)(hp:Pt.ok ⟨a,b,c⟩)(hq:Pt.ok ⟨d,e,f⟩) :
  Calls Tryz.prog 117 #[.agg #[.int .i64 a,.int .i64 b,.int .i64 c],.agg #[.int .i64 d,.int .i64 e,.int .i64 f]] w fun v w'=>v = .returned (.agg #[.int .i64 (a+d),.int .i64 (b+e),.int .i64 (c+f)])∧Ext w w':=by
 obtain⟨h1,h2,h3⟩:=hp;obtain⟨k1,k2,k3⟩:=hq;unfold CB at *
 simp only at h1 h2 h3 k1 k2 k3;go_enter Tryz.func117,Tryz.ntmps117
 go_wp2
 refine bodyPost_ret (v:= .agg #[.int .i64 (a+d),.int .i64 (b+e),.int .i64 (c+f)]) ?_ rfl ⟨rfl,by apply_rules [Ext.refl,Ext.alloc]⟩;simp[results,Tryz.results117,go_sem]
theorem rPlus_c(a b c d e f:Int)(w:World)(hp:Pt.ok ⟨a,b,c⟩)(hq:Pt.ok ⟨d,e,f⟩) :
  Calls Tryz.prog 96 #[.agg #[.int .i64 a,.int .i64 b,.int .i64 c],.agg #[.int .i64 d,.int .i64 e,.int .i64 f]] w fun v w'=>v = .returned (.agg #[.int .i64 (a+d),.int .i64 (b+e),.int .i64 (c+f)])∧Ext w w':=by
 obtain⟨h1,h2,h3⟩:=hp;obtain⟨k1,k2,k3⟩:=hq;unfold CB at *
 simp only at h1 h2 h3 k1 k2 k3;go_enter Tryz.func96,Tryz.ntmps96
 go_wp2
 refine bodyPost_ret (v:= .agg #[.int .i64 (a+d),.int .i64 (b+e),.int .i64 (c+f)]) ?_ rfl ⟨rfl,by apply_rules [Ext.refl,Ext.alloc]⟩;simp[results,Tryz.results96,go_sem]
def hasP(l:List Pt)(p:Pt):Bool:=l.any fun q=>q.eqB p
theorem hasP_iff{l:List Pt}{p:Pt}:hasP l p=true↔p∈l:=by
 unfold hasP;rw[List.any_eq_true];exact⟨fun⟨q,h,e⟩=>Pt.eqB_iff.1 e▸h,fun h=>⟨p,h,Pt.eqB_iff.2 rfl⟩⟩
theorem hasP_drop{l:List Pt}{p q:Pt}{k:Nat}(h:l[k]? = some q):hasP (l.drop k) p=(q.eqB p||hasP (l.drop (k+1)) p):=by
 obtain⟨hk,hn⟩:=List.getElem?_eq_some_iff.1 h;rw[List.drop_eq_getElem_cons hk,hn];rfl
theorem Pt.eqB_comm(p q:Pt):p.eqB q=q.eqB p:=by rw[Bool.eq_iff_iff,Pt.eqB_iff,Pt.eqB_iff];exact eq_comm
theorem rHas_c(A:Option Addr)(cap:Nat)(l:List Pt)(a b c:Int)(w:World)(hs:Cells w A cap l) :
  Calls Tryz.prog 145 #[.slice A l.length cap,.agg #[.int .i64 a,.int .i64 b,.int .i64 c]] w fun e w'=>e = .returned (.bool (hasP l ⟨a,b,c⟩))∧Ext w w':=by
 have hl:l.length≤9223372036854775807:=by have:=hs.len;unfold maxLen at this;omega
 obtain⟨W1,hW1,E1,B1,hz1⟩:=mk_ w #[.int .i64 a,.int .i64 b,.int .i64 c] 124;have heq:=pt_eql;go_enter Tryz.func145,Tryz.ntmps145;go_wp2_with fail;clear hW1 hz1;go_loopw [5] (fun i wr=> ∃k:Nat,k≤l.length∧i = .int .i64 k∧Hid (hasP l ⟨a,b,c⟩=hasP (l.drop k) ⟨a,b,c⟩)∧Ext w wr∧Blk wr w.heap.size 124 #[.int .i64 a,.int .i64 b,.int .i64 c]) (fun i _=>l.length-(intOf i).toNat)
 case atStart=>exact⟨0,by omega,rfl,h_ rfl,E1,B1⟩
 case round =>
  obtain⟨k,hk,rfl,Hj,E,B⟩:=hrel;clear B1 E1;have b1:=B.cell;by_cases hlt:k<l.length
  ·obtain⟨g,off,q,rfl,hq,hg,c0,c1,c2⟩:=hs.at_ hlt;have e0:=E.cell c0;have e1:=E.cell c1;have e2:=E.cell c2;clear c0 c1 c2;have Hd:=h_ (hasP_drop (p:=⟨a,b,c⟩) hq);clear hq;have i1:(0:Int)≤k:=by omega
   have i2:(k:Int)<l.length:=by omega
   go_upto_region 4 with(fail)
   refine w_g ?_
   repeat (go_big_quiet_step (fail))
   refine wpQuiet_nil ?_;intro W3 hW3;have E3:Ext wr W3:=by
    obtain⟨x,rfl⟩:=hW3;exact(Ext.refl _).grow x
   clear hW3;obtain⟨hcW3,hfW3,hzW3⟩:=ext_facts E3;replace E:=E.trans E3;replace B:=B.ext E3;clear hcW3 hfW3 hzW3 E3 b1 e0 e1 e2;obtain⟨r,hr⟩:=nm (Pt.eqB ⟨q.x,q.y,q.z⟩ ⟨a,b,c⟩);rw[hr];have Hr:=h_ hr;clear hr;cases r
   ·go_wp2_with fail;go_roundw
    case rel=>exact⟨k+1,by omega,by go_num,h_ (by rw[Hj.out,Hd.out,show q.eqB ⟨a,b,c⟩=false from Hr.out];rfl),E,B⟩
    case measure=>simp[intOf];omega
   ·go_wp2_with fail;go_ret;exact⟨by rw[Hj.out,Hd.out,show q.eqB ⟨a,b,c⟩=true from Hr.out];rfl,E⟩
  ·obtain rfl:l.length=k:=by omega
   go_wp2_with fail;go_ret;exact⟨by rw[Hj.out,List.drop_length];rfl,E⟩
def IdxIs(b:Bool)(w:World)(e:Ending)(w':World):Prop:= ∃v:Int,e = .returned (.int .i64 v)∧decide (0≤v)=b∧Ext w w'
theorem idx_c(A:Option Addr)(cap:Nat)(l:List Pt)(a b c:Int)(w:World)(hs:Cells w A cap l) :
  Calls Tryz.prog 192 #[.slice A l.length cap,.agg #[.int .i64 a,.int .i64 b,.int .i64 c]] w (IdxIs (hasP l ⟨a,b,c⟩) w):=by
 have hl:l.length≤9223372036854775807:=by have:=hs.len;unfold maxLen at this;omega
 obtain⟨W1,hW1,E1,B1,hz1⟩:=mk_ w #[.int .i64 a,.int .i64 b,.int .i64 c] 124;have heq:=pt_eql;go_enter Tryz.func192,Tryz.ntmps192;go_wp2_with fail;clear hW1 hz1;go_loopw [8] (fun i wr=> ∃k:Nat,k≤l.length∧i = .int .i64 k∧Hid (hasP l ⟨a,b,c⟩=hasP (l.drop k) ⟨a,b,c⟩)∧Ext w wr∧Blk wr w.heap.size 124 #[.int .i64 a,.int .i64 b,.int .i64 c]) (fun i _=>l.length-(intOf i).toNat)
 case atStart=>exact⟨0,by omega,rfl,h_ rfl,E1,B1⟩
 case round =>
  obtain⟨k,hk,rfl,Hj,E,B⟩:=hrel;clear B1 E1;have b1:=B.cell;by_cases hlt:k<l.length
  ·obtain⟨g,off,q,rfl,hq,hg,c0,c1,c2⟩:=hs.at_ hlt;have e0:=E.cell c0;have e1:=E.cell c1;have e2:=E.cell c2;clear c0 c1 c2;have Hd:=h_ (hasP_drop (p:=⟨a,b,c⟩) hq);clear hq;have i1:(0:Int)≤k:=by omega
   have i2:(k:Int)<l.length:=by omega
   go_upto_region 4 with(fail)
   refine w_g ?_
   repeat (go_big_quiet_step (fail))
   refine wpQuiet_nil ?_;intro W3 hW3;have E3:Ext wr W3:=by
    obtain⟨x,rfl⟩:=hW3;exact(Ext.refl _).grow x
   clear hW3;obtain⟨hcW3,hfW3,hzW3⟩:=ext_facts E3;replace E:=E.trans E3;replace B:=B.ext E3;clear hcW3 hfW3 hzW3 E3 b1 e0 e1 e2;obtain⟨r,hr⟩:=nm (Pt.eqB ⟨a,b,c⟩ ⟨q.x,q.y,q.z⟩);rw[hr];have Hr:=h_ hr;clear hr;cases r
   ·go_wp2_with fail;go_roundw
    case rel=>exact⟨k+1,by omega,by go_num,h_ (by rw[Hj.out,Hd.out,Pt.eqB_comm,show Pt.eqB ⟨a,b,c⟩ q=false from Hr.out];rfl),E,B⟩
    case measure=>simp[intOf];omega
   ·go_wp2_with fail;go_ret;exact⟨k,rfl,by rw[Hj.out,Hd.out,Pt.eqB_comm,show Pt.eqB ⟨a,b,c⟩ q=true from Hr.out];simp,E⟩
  ·obtain rfl:l.length=k:=by omega
   go_wp2_with fail;go_ret;exact⟨-1,rfl,by rw[Hj.out,List.drop_length];rfl,E⟩
theorem contains_c(A:Option Addr)(cap:Nat)(l:List Pt)(a b c:Int)(w:World)(hs:Cells w A cap l) :
  Calls Tryz.prog 156 #[.slice A l.length cap,.agg #[.int .i64 a,.int .i64 b,.int .i64 c]] w fun e w'=>e = .returned (.bool (hasP l ⟨a,b,c⟩))∧Ext w w':=by
 obtain⟨W1,hW1,E1,B1,hz1⟩:=mk_ w #[.int .i64 a,.int .i64 b,.int .i64 c] 124;have b1:=B1.cell;go_enter Tryz.func156,Tryz.ntmps156;go_wp2_with fail;refine(idx_c A cap l a b c _ (hs.ext E1)).mono ?_;rintro e w2 ⟨v,rfl,hv,E2⟩;have Hv:=h_ hv;clear hv;go_wp2_with fail;go_ret;exact⟨by rw[←Hv.out];rfl,E1.trans E2⟩
structure Knb where
 at_:Pt
 dir:Int
 sort:Int
def Knb.cs(x:Knb):List Value:= [.int .i64 x.at_.x,.int .i64 x.at_.y,.int .i64 x.at_.z,.int .u8 x.dir,.int .u8 x.sort]
def Knb.byte(x:Knb):Prop:=(0≤x.dir∧x.dir≤255)∧0≤x.sort∧x.sort≤255
def Knobs(w:World)(A:Option Addr)(cap:Nat)(l:List Knb):Prop:=SliceIs w A l.length cap 5 (l.map Knb.cs) ∧ ∀x∈l,x.byte
theorem Knobs.ext{w w':World}{A:Option Addr}{cap:Nat}{l:List Knb}(h:Knobs w A cap l)(e:Ext w w'):Knobs w' A cap l:=⟨SliceIs.ext h.1 e,h.2⟩
theorem Knobs.len{w:World}{A:Option Addr}{cap:Nat}{l:List Knb}(h:Knobs w A cap l):l.length≤maxLen:=Nat.le_trans h.1.le h.1.small
theorem Knobs.at_{w:World}{A:Option Addr}{cap:Nat}{l:List Knb}(h:Knobs w A cap l){k:Nat}(hk:k<l.length) :
  ∃b off p,A=some ⟨b,off,none⟩∧l[k]? = some p∧p.byte∧b<w.heap.size∧w.cell? ⟨b,off+k*5,none⟩=some (.int .i64 p.at_.x)∧w.cell? ⟨b,off+k*5+1,none⟩=some (.int .i64 p.at_.y) ∧
   w.cell? ⟨b,off+k*5+2,none⟩=some (.int .i64 p.at_.z)∧w.cell? ⟨b,off+k*5+3,none⟩=some (.int .u8 p.dir)∧w.cell? ⟨b,off+k*5+4,none⟩=some (.int .u8 p.sort):=by
 obtain⟨b,off,hA,hb,hc⟩:=SliceIs.cells h.1 (by omega);have hget:l[k]? = some l[k]:=List.getElem?_eq_getElem hk;have hr:(l.map Knb.cs)[k]? = some l[k].cs:=by rw[List.getElem?_map,hget];rfl
 exact⟨b,off,l[k],hA,hget,h.2 _ (List.getElem_mem hk),hb,hc k _ hr 0 _ rfl,hc k _ hr 1 _ rfl,hc k _ hr 2 _ rfl,hc k _ hr 3 _ rfl,hc k _ hr 4 _ rfl⟩
structure Knd where
 cells:List Pt
 knobs:List Knb
 weight:Int
structure KAt where
 A:Option Addr
 ca:Nat
 B:Option Addr
 cb:Nat
def Knd.cs(k:Knd)(p:KAt):List Value:= [.slice p.A k.cells.length p.ca,.slice p.B k.knobs.length p.cb,.int .i64 k.weight]
structure KindAt(w:World)(p:KAt)(k:Knd):Prop where
 c:Cells w p.A p.ca k.cells
 n:Knobs w p.B p.cb k.knobs
theorem KindAt.ext{w w':World}{p:KAt}{k:Knd}(h:KindAt w p k)(e:Ext w w'):KindAt w' p k:=⟨h.c.ext e,h.n.ext e⟩
structure Kinds(w:World)(A:Option Addr)(cap:Nat)(qs:List (Knd×KAt)):Prop where
 s:SliceIs w A qs.length cap 3 (qs.map fun q=>q.1.cs q.2)
 k: ∀q∈qs,KindAt w q.2 q.1
theorem Kinds.ext{w w':World}{A:Option Addr}{cap:Nat}{qs:List (Knd×KAt)}(h:Kinds w A cap qs)(e:Ext w w'):Kinds w' A cap qs:=⟨h.s.ext e,fun q hq=>(h.k q hq).ext e⟩
theorem Kinds.len{w:World}{A:Option Addr}{cap:Nat}{qs:List (Knd×KAt)}(h:Kinds w A cap qs):qs.length≤maxLen:=Nat.le_trans h.s.le h.s.small
theorem Kinds.at_{w:World}{A:Option Addr}{cap:Nat}{qs:List (Knd×KAt)}(h:Kinds w A cap qs){i:Nat}(hi:i<qs.length) :
  ∃b off k p,A=some ⟨b,off,none⟩∧qs[i]? = some (k,p)∧KindAt w p k∧b<w.heap.size∧w.cell? ⟨b,off+i*3,none⟩=some (.slice p.A k.cells.length p.ca)∧w.cell? ⟨b,off+i*3+1,none⟩=some (.slice p.B k.knobs.length p.cb) ∧
   w.cell? ⟨b,off+i*3+2,none⟩=some (.int .i64 k.weight):=by
 obtain⟨b,off,hA,hb,hc⟩:=SliceIs.cells h.s (by omega);have hget:qs[i]? = some qs[i]:=List.getElem?_eq_getElem hi;have hr:(qs.map fun q=>q.1.cs q.2)[i]? = some (qs[i].1.cs qs[i].2):=by rw[List.getElem?_map,hget];rfl
 exact⟨b,off,qs[i].1,qs[i].2,hA,hget,h.k _ (List.getElem_mem hi),hb,hc i _ hr 0 _ rfl,hc i _ hr 1 _ rfl,hc i _ hr 2 _ rfl⟩
/-! What holds at each of the first n places. -/
def allR(n:Nat)(f:Nat→Bool):Bool:=(List.range n).all f
theorem allR_bad{n k:Nat}{f:Nat→Bool}(hk:k<n)(h:f k=false):allR n f=false:=by
 rw[allR,List.all_eq_false];exact⟨k,List.mem_range.2 hk,by simp[h]⟩
theorem allR_good{n:Nat}{f:Nat→Bool}(h: ∀j,j<n→f j=true):allR n f=true:=by
 rw[allR,List.all_eq_true];exact fun j hj=>h j (List.mem_range.1 hj)
theorem allR_at{n k:Nat}{f:Nat→Bool}(h:allR n f=true)(hk:k<n):f k=true:=by
 rw[allR,List.all_eq_true] at h;exact h k (List.mem_range.2 hk)
/-! Valid kinds. -/
def ptAt(l:List Pt)(k:Nat):Pt:=l.getD k ⟨0,0,0⟩
def knbAt(l:List Knb)(k:Nat):Knb:=l.getD k ⟨⟨0,0,0⟩,0,0⟩
theorem ptAt_eq{l:List Pt}{k:Nat}{p:Pt}(h:l[k]? = some p):ptAt l k=p:=by simp[ptAt,h]
theorem knbAt_eq{l:List Knb}{k:Nat}{p:Knb}(h:l[k]? = some p):knbAt l k=p:=by simp[knbAt,h]
def cellOk(l:List Pt)(i:Nat):Bool:=nearB (ptAt l i) 0 15&&(decide (i=0)||ltP (ptAt l (i-1)) (ptAt l i))
def cellsB(l:List Pt):Bool:=allR l.length (cellOk l)
def Knb.lt(y x:Knb):Bool:=ltP y.at_ x.at_||(y.at_.eqB x.at_&&decide (y.dir<x.dir))
def Knb.one(cs:List Pt)(x:Knb):Bool:=decide (x.dir≤5)&&(inB 1 6 x.sort&&(hasP cs x.at_ && !hasP cs (addP x.at_ (stepS x.dir.toNat))))
def knobOk(cs:List Pt)(l:List Knb)(i:Nat):Bool:=(knbAt l i).one cs&&(decide (i=0)||(knbAt l (i-1)).lt (knbAt l i))
def knobsB(cs:List Pt)(l:List Knb):Bool:=allR l.length (knobOk cs l)
def Knd.sized(k:Knd):Bool:=inB 1 24 k.cells.length&&(decide (k.knobs.length≤48)&&inB 1 100 k.weight)
def Knd.valid(k:Knd):Bool:=k.sized&&(cellsB k.cells&&knobsB k.cells k.knobs)
def kindErr(k:Knd):Int:=if k.valid then 0 else 10
theorem kindErr_good{k:Knd}(h:k.valid=true):kindErr k=0:=if_pos h
theorem kindErr_bad{k:Knd}(h:k.valid=false):kindErr k=10:=by rw[kindErr,h];rfl
theorem valid_bad0{k:Knd}(h:k.sized=false):k.valid=false:=by rw[Knd.valid,h];rfl
theorem valid_bad1{k:Knd}(h:cellsB k.cells=false):k.valid=false:=by rw[Knd.valid,h,Bool.false_and,Bool.and_false]
theorem valid_bad2{k:Knd}(h:knobsB k.cells k.knobs=false):k.valid=false:=by rw[Knd.valid,h,Bool.and_false,Bool.and_false]
theorem valid_good{k:Knd}(h0:k.sized=true)(h1:cellsB k.cells=true)(h2:knobsB k.cells k.knobs=true):k.valid=true:=by rw[Knd.valid,h0,h1,h2];rfl
theorem sized_iff{k:Knd}:k.sized=true↔(1≤k.cells.length∧k.cells.length≤24)∧k.knobs.length≤48∧1≤k.weight∧k.weight≤100:=by
 rw[Knd.sized,Bool.and_eq_true,Bool.and_eq_true,inB_iff,inB_iff,decide_eq_true_eq];omega
theorem knobLt_or(y x:Knb):decide (0≤orL [ordP y.at_ x.at_,ordZ y.dir x.dir]) = !y.lt x:=by
 unfold Knb.lt orL;rcases ordP_cases y.at_ x.at_ with⟨h,e⟩|⟨h,e⟩|⟨h,e⟩
 ·rw[e,h];rfl
 ·rw[e,if_pos rfl,h,ltP_irrefl,Pt.eqB_iff.2 rfl];unfold orL orL;rcases Int.lt_trichotomy y.dir x.dir with h3|h3|h3
  ·rw[ordZ_lt h3];simp[h3]
  ·rw[ordZ_eq h3];simp[h3]
  ·rw[ordZ_gt h3];simp;omega
 ·rw[e,ltP_anti h];have:y.at_.eqB x.at_=false:=by
   cases hq:y.at_.eqB x.at_
   ·rfl
   ·rw[Pt.eqB_iff.1 hq,ltP_irrefl] at h;cases h
  rw[this];rfl
def kindAt(l:List Knd)(i:Nat):Knd:=l.getD i ⟨[],[],0⟩
def kindsErr(l:List Knd):Int:=if 16<l.length then 4 else if allR l.length (fun i=>(kindAt l i).valid) then 0 else 10
end Go.Proofs.YtojolpbpjimfgaaGreatDoor
