/- Texts of the proof: Great3, Sets, SetsC, SameL, Map, Which, TurnD, Composed. -/
import Derived.Test.YtojolpbpjimfgaaGreatDoorZy1
import Derived.Test.YtojolpbpjimfgaaGreatDoorZy2
import Derived.Test.YtojolpbpjimfgaaGreatDoorZy3
import Derived.Test.YtojolpbpjimfgaaGreatDoorZy6
import Derived.Lib.TrailingZeros
import Derived.Maps.Own
import Derived.WideKeyRuns
import Derived.RangeFuncNested
import Derived.RangeFuncBound
import Derived.RangeFuncCalls
import Derived.RangeFuncLeaves
import Derived.Shelf.Abstract
import Derived.Shelf.RegionOpen
import Derived.OwnWalkIn
import Derived.TacticsInMore
import Derived.LoopNIn
import Derived.LoopIn
set_option maxHeartbeats 4000000
set_option maxRecDepth 100000
namespace Go.Proofs.YtojolpbpjimfgaaGreatDoor
open Go.RowKit
def great3B(ks:List Knd)(n m:Nat):Bool:=greatB ks n||decide (60<m)
theorem great3_is{ks:List Knd}{n m:Nat}{b:Bool}(h:great3B ks n m=b):(greatB ks n=true∧b=true)∨(greatB ks n=false∧decide ((60:Int)<m)=b):=by
 unfold great3B at h;cases hg:greatB ks n
 ·right;rw[hg,Bool.false_or] at h;refine⟨rfl,?_⟩;rw[←h];by_cases h6:60<m
  ·rw[decide_eq_true h6,decide_eq_true (by omega)]
  ·rw[decide_eq_false h6,decide_eq_false (by omega)]
 ·left;rw[hg,Bool.true_or] at h;exact⟨rfl,h.symm⟩
theorem great3_c(qs:List (Knd×KAt))(QA:Option Addr)(qc:Nat)(bs:List Brk)(B:Option Addr)(cb:Nat)(tab:Int)(HA:Option Addr)(hc:Nat)(hands:List Int)(w:World)(hk:Kinds w QA qc qs)(hb:Bricks w B cb bs)(hh:IntsZ w HA hc hands) :
  Calls Tryz.prog 6 #[.slice QA qs.length qc,.agg #[.slice B bs.length cb],.agg #[.int .i64 tab,.slice HA hands.length hc]] w fun e w'=>e = .returned (.bool (great3B (qs.map (·.1)) bs.length hands.length))∧Ext w w':=by
 obtain⟨W1,hW1,E1,B1,hz1⟩:=mk_ w #[.slice B bs.length cb] 25;obtain⟨W2,hW2,E2,B2,hz2⟩:=mk_ W1 #[.int .i64 tab,.slice HA hands.length hc] 28;have E:=E1.trans E2;have b1:=(B1.ext E2).cell;have HE:=h_ E;have HB2:=h_ B2;have b2:=B2.cell;have hll:hands.length≤maxLen:=Nat.le_trans hh.le hh.small;have hbl:bs.length≤maxLen:=Nat.le_trans hb.1.le hb.1.small;have G:=great_c qs QA qc B bs.length cb W2 (hk.ext E) hbl;obtain⟨r,hr⟩:=nm (great3B (qs.map (·.1)) bs.length hands.length);have Hr:=h_ hr;rcases great3_is hr with⟨h1,rfl⟩|⟨h1,h2⟩
 ·rw[h1] at G;clear hz1 hz2 B1 B2 E1 E2 E hr hk hb hh hbl;go_enter Tryz.func6,Tryz.ntmps6;go_wp2_with fail;refine G.mono ?_;rintro e W3 ⟨rfl,E3⟩;go_wp2_with fail;refine bodyPost_ret (v:= .bool true) (by simp[results,Tryz.results6,go_sem]) rfl ⟨by rw[Hr.out],HE.out.trans E3⟩
 ·rw[h1] at G;clear hz1 hz2 B1 B2 E1 E2 E hr hk hb hh hbl;go_enter Tryz.func6,Tryz.ntmps6;go_wp2_with fail;clear b1 b2;refine G.mono ?_;rintro e W3 ⟨rfl,E3⟩;have b2:=(HB2.out.ext E3).cell;cases r
  ·have h3:(hands.length:Int)≤60:=by rw[decide_eq_false_iff_not] at h2;omega
   go_wp2_with fail;refine bodyPost_ret (v:= .bool false) (by simp[results,Tryz.results6,go_sem]) rfl ⟨by rw[Hr.out],HE.out.trans E3⟩
  ·have h3:(60:Int)<hands.length:=of_decide_eq_true h2;go_wp2_with fail;refine bodyPost_ret (v:= .bool true) (by simp[results,Tryz.results6,go_sem]) rfl ⟨by rw[Hr.out],HE.out.trans E3⟩
theorem low_bit6{x:Nat}(h0:x≠0)(h:x<2 ^ 64) :
  x.testBit (Lib.ctz 64 x)=true∧Lib.ctz 64 x<64∧(∀j,j<Lib.ctz 64 x→x.testBit j=false) ∧ ∀j,(x&&&(x-1)).testBit j=(x.testBit j&&decide (j≠Lib.ctz 64 x)):=by
 have e:Lib.ctz 64 x=Lib.ctzFrom 64 x:=by simp[Lib.ctz,h0]
 obtain⟨m,hm,hk⟩:=Lib.ctzFrom_spec 64 x (by omega) h;rw[e];generalize Lib.ctzFrom 64 x=k at hm hk;have hpos:0<2 ^ k:=Nat.two_pow_pos k;have hx: ∀j,x.testBit j=(decide (k≤j)&&(2*m+1).testBit (j-k)):=fun j=>by rw[hm,Nat.testBit_two_pow_mul]
 have hy: ∀j,(x-1).testBit j=if j<k then(2 ^ k-1).testBit j else(2*m).testBit (j-k):=fun j=>by
  have h1:x-1=2 ^ k*(2*m)+(2 ^ k-1):=by rw[hm,Nat.mul_add];omega
  rw[h1,Nat.testBit_two_pow_mul_add _ (by omega)]
 have o1:(2*m+1).testBit 0=true:=by simp
 have o2:(2*m).testBit 0=false:=by simp
 have o3: ∀t,(2*m+1).testBit (t+1)=(2*m).testBit (t+1):=fun t=>by
  rw[Nat.testBit_succ,Nat.testBit_succ,show(2*m+1) / 2=m by omega,show 2*m / 2=m by omega]
 refine⟨by rw[hx,Nat.sub_self,o1];simp,hk,fun j hj=>by rw[hx,decide_eq_false (by omega)];rfl,fun j=> ?_⟩;rw[Nat.testBit_and,hx,hy];rcases Nat.lt_trichotomy j k with hj|hj|hj
 ·rw[decide_eq_false (by omega: ¬k≤j)];rfl
 ·subst hj;rw[Nat.sub_self,if_neg (by omega),o2];simp
 ·obtain⟨t,rfl⟩: ∃t,j=k+(t+1):=⟨j-k-1,by omega⟩;rw[if_neg (by omega),show k+(t+1)-k=t+1 by omega,o3,decide_eq_true (by omega:k≤k+(t+1)),decide_eq_true (by omega:k+(t+1)≠k)];simp
def setL(z:Nat):List Nat:=(List.range 64).filter fun n=>z.testBit n
theorem mem_setL{z i:Nat}:i∈setL z↔i<64∧z.testBit i=true:=by
 unfold setL;rw[List.mem_filter,List.mem_range]
theorem range_split{k:Nat}(h:k<64):List.range 64=List.range' 0 k++(k::List.range' (k+1) (63-k)):=by
 rw[List.range_eq_range'];have e1:List.range' 0 64=List.range' 0 k++List.range' (0+k) (64-k):=by
  rw[List.range'_append_1];congr 1;omega
 rw[e1,Nat.zero_add];congr 1;rw[show 64-k=(63-k)+1 by omega,List.range'_succ]
theorem setL_zero:setL 0 = []:=by simp[setL]
theorem setL_step{x:Nat}(h0:x≠0)(h:x<2 ^ 64):setL x=Lib.ctz 64 x::setL (x&&&(x-1)):=by
 obtain⟨h1,h2,h3,h4⟩:=low_bit6 h0 h;generalize Lib.ctz 64 x=k at h1 h2 h3 h4;have f1: ∀y:Nat,(∀j,j<k→y.testBit j=false)→(List.range' 0 k).filter (fun n=>y.testBit n) = []:=fun y hy=>by
  rw[List.filter_eq_nil_iff];intro a ha;rw[List.mem_range'_1] at ha;rw[hy a (by omega)];simp
 unfold setL;rw[range_split h2,List.filter_append,List.filter_append,f1 x h3,f1 (x&&&(x-1)) (fun j hj=>by rw[h4,h3 j hj];rfl),List.nil_append,List.nil_append,List.filter_cons,List.filter_cons,if_pos h1,if_neg (by rw[h4];simp)];congr 1;apply List.filter_congr;intro a ha;rw[List.mem_range'_1] at ha;rw[h4,decide_eq_true (by omega:a≠k),Bool.and_true]
theorem pred_lt6{x:Nat}(h0:x≠0):x&&&(x-1)<x:=by
 have:=Nat.and_le_right (n:=x) (m:=x-1);omega
def putN(z i:Nat):Nat:=z|||2 ^ i
theorem putN_bit(z i j:Nat):(putN z i).testBit j=(z.testBit j||decide (i=j)):=by
 unfold putN;rw[Nat.testBit_or,Nat.testBit_two_pow]
def SetB(n z:Nat):Prop:= ∀j,z.testBit j=true→j<n
theorem SetB.lt{n z:Nat}(h:SetB n z):z<2 ^ n:=by
 refine Nat.lt_pow_two_of_testBit _ fun i hi=> ?_;cases hb:z.testBit i
 ·rfl
 ·have:=h i hb;omega
theorem SetB.zero(n:Nat):SetB n 0:=fun j h=>by simp at h
theorem SetB.put{n z i:Nat}(h:SetB n z)(hi:i<n):SetB n (putN z i):=fun j hj=>by
 rw[putN_bit,Bool.or_eq_true] at hj;rcases hj with hj|hj
 ·exact h j hj
 ·have:=of_decide_eq_true hj;omega
theorem SetB.mono{n m z:Nat}(h:SetB n z)(hm:n≤m):SetB m z:=fun j hj=>Nat.lt_of_lt_of_le (h j hj) hm
theorem SetB.and{n z:Nat}(h:SetB n z)(y:Nat):SetB n (z&&&y):=fun j hj=>by
 rw[Nat.testBit_and,Bool.and_eq_true] at hj;exact h j hj.1
theorem setL_of{n z i:Nat}(hz:SetB n z)(hn:n≤64):i∈setL z↔z.testBit i=true:=by
 rw[mem_setL];exact⟨fun h=>h.2,fun h=>⟨Nat.lt_of_lt_of_le (hz i h) hn,h⟩⟩
def setI(z:Nat):List Int:=(setL z).map fun i:Nat=>(i:Int)
theorem setI_len(z:Nat):(setI z).length=(setL z).length:=List.length_map _
theorem setL_below{n z:Nat}(hz:SetB n z)(hn:n≤64):setL z=(List.range n).filter fun i=>z.testBit i:=by
 unfold setL;have e1:List.range 64=List.range n++List.range' n (64-n):=by
  rw[List.range_eq_range',List.range_eq_range'];have:=List.range'_append_1 (s:=0) (m:=n) (n:=64-n);rw[Nat.zero_add] at this;rw[this];congr 1;omega
 rw[e1,List.filter_append,(List.filter_eq_nil_iff (l:=List.range' n (64-n))).2 fun a ha=> ?_,List.append_nil];rw[List.mem_range'_1] at ha;intro hb;have:=hz a hb;omega
theorem setL_few{n z:Nat}(hz:SetB n z)(hn:n≤64):(setL z).length≤n:=by
 rw[setL_below hz hn];exact Nat.le_trans (List.length_filter_le _ _) (by simp)
theorem setL_len(z:Nat):(setL z).length≤64:=by
 unfold setL;exact Nat.le_trans (List.length_filter_le _ _) (by simp)
theorem setI_get{z k i:Nat}(h:(setL z)[k]? = some i):(setI z)[k]? = some (i:Int):=by
 unfold setI;rw[List.getElem?_map,h];rfl
theorem setL_asc(z:Nat):(setL z).Pairwise (· < ·):=List.Pairwise.filter _ List.pairwise_lt_range
theorem hasZ_setI{n z:Nat}(hz:SetB n z)(hn:n≤64)(i:Nat):hasZ (setI z) (i:Int)=z.testBit i:=by
 rw[Bool.eq_iff_iff,hasZ_iff,←setL_of hz hn];unfold setI;rw[List.mem_map];constructor
 ·rintro⟨j,h,e⟩;have:j=i:=by omega
  exact this▸h
 ·exact fun h=>⟨i,h,rfl⟩
def numOf(l:List Int):Nat:=l.foldl (fun z x=>putN z x.toNat) 0
def eqC(a b:List Pt):Bool:=decide (a.length=b.length)&&allR a.length fun i=>(ptAt a i).eqB (ptAt b i)
/-! Knobs. -/
def Knb.eqB(a b:Knb):Bool:=a.at_.eqB b.at_&&(a.dir==b.dir&&a.sort==b.sort)
theorem Knb.eqB_iff{a b:Knb}:a.eqB b=true↔a=b:=by
 obtain⟨p,d,s⟩:=a;obtain⟨q,e,t⟩:=b;unfold Knb.eqB;simp only[Bool.and_eq_true,beq_iff_eq,Pt.eqB_iff,Knb.mk.injEq]
theorem Knb.eqB_comm(p q:Knb):p.eqB q=q.eqB p:=by rw[Bool.eq_iff_iff,Knb.eqB_iff,Knb.eqB_iff];exact eq_comm
def hasK(l:List Knb)(p:Knb):Bool:=l.any fun q=>q.eqB p
def KnobsR(w:World)(A:Option Addr)(cap:Nat)(l:List Knb):Prop:=SliceIs w A l.length cap 5 (l.map Knb.cs)
theorem KnobsR.ext{w w':World}{A:Option Addr}{cap:Nat}{l:List Knb}(h:KnobsR w A cap l)(e:Ext w w'):KnobsR w' A cap l:=SliceIs.ext h e
theorem KnobsR.len{w:World}{A:Option Addr}{cap:Nat}{l:List Knb}(h:KnobsR w A cap l):l.length≤maxLen:=Nat.le_trans h.le h.small
theorem KnobsR.at_{w:World}{A:Option Addr}{cap:Nat}{l:List Knb}(h:KnobsR w A cap l){k:Nat}(hk:k<l.length) :
  ∃b off p,A=some ⟨b,off,none⟩∧l[k]? = some p∧b<w.heap.size∧w.cell? ⟨b,off+k*5,none⟩=some (.int .i64 p.at_.x)∧w.cell? ⟨b,off+k*5+1,none⟩=some (.int .i64 p.at_.y) ∧
   w.cell? ⟨b,off+k*5+2,none⟩=some (.int .i64 p.at_.z)∧w.cell? ⟨b,off+k*5+3,none⟩=some (.int .u8 p.dir)∧w.cell? ⟨b,off+k*5+4,none⟩=some (.int .u8 p.sort):=by
 obtain⟨b,off,hA,hb,hc⟩:=SliceIs.cells h (by omega);have hget:l[k]? = some l[k]:=List.getElem?_eq_getElem hk;have hr:(l.map Knb.cs)[k]? = some l[k].cs:=by rw[List.getElem?_map,hget];rfl
 exact⟨b,off,l[k],hA,hget,hb,hc k _ hr 0 _ rfl,hc k _ hr 1 _ rfl,hc k _ hr 2 _ rfl,hc k _ hr 3 _ rfl,hc k _ hr 4 _ rfl⟩
/-! SameKnobs. -/
def subK(a b:List Knb):Bool:=allR a.length fun i=>hasK b (knbAt a i)
def sameK(a b:List Knb):Bool:=decide (a.length=b.length)&&subK a b
/-! ### lists of pairs -/
section
variable {K V:Type} [DecidableEq K]
def lookAt:List (K×V)→K→Nat→Option (Nat×V)
 | [],_,_=>none
 | p::m,x,i=>if x=p.1 then some (i,p.2) else lookAt m x (i+1)
def getK:List (K×V)→K→Option V
 | [],_=>none
 | p::m,x=>if x=p.1 then some p.2 else getK m x
def putK:List (K×V)→K→V→List (K×V)
 | [],x,v=> [(x,v)]
 | p::m,x,v=>if x=p.1 then(x,v)::m else p::putK m x v
theorem getK_putK(m:List (K×V))(x y:K)(v:V):getK (putK m x v) y=if y=x then some v else getK m y:=by
 induction m with
 | nil=>rfl
 | cons p m ih =>
  unfold putK;by_cases h:x=p.1
  ·rw[if_pos h];unfold getK;simp only;by_cases hy:y=x
   ·rw[if_pos hy,if_pos hy]
   ·rw[if_neg hy,if_neg hy,if_neg (by rw[←h];exact hy)]
  ·rw[if_neg h];unfold getK;rw[ih];by_cases hy:y=p.1
   ·rw[if_pos hy,if_pos hy,if_neg (fun e=>h (by rw[←e,hy]))]
   ·rw[if_neg hy,if_neg hy]
theorem lookAt_getK(m:List (K×V))(x:K)(i:Nat):(lookAt m x i).map (·.2)=getK m x:=by
 induction m generalizing i with
 | nil=>rfl
 | cons p m ih =>
  unfold lookAt getK
  split
  ·rfl
  ·exact ih _
theorem lookAt_none{m:List (K×V)}{x:K}{i:Nat}(h:lookAt m x i=none)(v:V):putK m x v=m ++ [(x,v)]:=by
 induction m generalizing i with
 | nil=>rfl
 | cons p m ih =>
  unfold lookAt at h;unfold putK
  split at h
  ·cases h
  ·rename_i hx;rw[if_neg hx,ih h];rfl
theorem lookAt_some{m:List (K×V)}{x:K}{i j:Nat}{u:V}(h:lookAt m x i=some (j,u))(v:V): ∃k,j=i+k∧m[k]? = some (x,u)∧putK m x v=m.set k (x,v):=by
 induction m generalizing i with
 | nil=>cases h
 | cons p m ih =>
  unfold lookAt at h;unfold putK
  split at h
  ·rename_i hx;cases h;refine⟨0,rfl,?_,?_⟩
   ·rw[hx];rfl
   ·rw[if_pos hx];rfl
  ·rename_i hx;obtain⟨k,rfl,h1,h2⟩:=ih h;refine⟨k+1,by omega,h1,?_⟩;rw[if_neg hx,h2];rfl
theorem putK_keys(m:List (K×V))(x:K)(v:V)(h:(m.map (·.1)).Nodup):((putK m x v).map (·.1)).Nodup:=by
 cases hl:lookAt m x 0 with
 | none =>
  rw[lookAt_none hl];have hx: ∀(m:List (K×V)) (i:Nat),lookAt m x i=none→x ∉ m.map (·.1):=by
   intro m
   induction m with
   | nil=>intro _ _;simp
   | cons p m ih =>
    intro i hi;unfold lookAt at hi
    split at hi
    ·cases hi
    ·rename_i hne;simp only[List.map_cons,List.mem_cons,not_or];exact⟨hne,ih _ hi⟩
  rw[List.map_append,List.nodup_append];refine⟨h,by simp,fun a ha b hb=> ?_⟩;simp only[List.map_cons,List.map_nil,List.mem_singleton] at hb;rintro rfl;subst hb;exact hx m 0 hl ha
 | some r =>
  obtain⟨j,u⟩:=r;obtain⟨k,_,h1,h2⟩:=lookAt_some hl v;rw[h2];have:(m.set k (x,v)).map (·.1)=m.map (·.1):=by
   apply List.ext_getElem?;intro i;simp only[List.getElem?_map,List.getElem?_set]
   split
   ·subst_vars
    rw[h1]
    split <;> simp_all
   ·rfl
  rw[this];exact h
end
/-! ### in memory -/
structure KeyEnc(P:Program)(k:TypeId){K:Type}[DecidableEq K](enc:K→Value):Prop where
 wide:(match P.underlying k with|some (.array _ _)|some (.struct _)=>true|_=>false)=true
 eq: ∀w x y,(Op.equal k (enc x) (enc y)).run P w = .ok (decide (x=y)) w
 check: ∀w em x,(Instr.checkKey em 10000 k (enc x)).run P w = .ok () w
 same: ∀x,Instr.sameBits 10000 (enc x) (enc x)=true
section
variable {P:Program} {k:TypeId} {K V:Type} {enc:K→Value} {ev:V→Value}
def MapOf(enc:K→Value)(ev:V→Value)(w:World)(b:Nat)(m:List (K×V)):Prop :=
 ∃es clock,w.heap[b]? = some (.map es clock)∧es.toList.map (fun e=>(e.key,e.val))=m.map (fun p=>(enc p.1,ev p.2))∧(∀e∈es.toList,e.born<clock)∧(es.toList.map (·.born)).Nodup
theorem MapOf.lt{w:World}{b:Nat}{m:List (K×V)}(h:MapOf enc ev w b m):b<w.heap.size:=by
 obtain⟨es,clock,hb,_⟩:=h;exact(Array.getElem?_eq_some_iff.1 hb).1
theorem MapOf.ext{w w':World}{b:Nat}{m:List (K×V)}(h:MapOf enc ev w b m)(E:Ext w w'):MapOf enc ev w' b m:=by
 have hlt:=h.lt;obtain⟨es,clock,hb,r⟩:=h;exact⟨es,clock,(Below.block E b hlt).trans hb,r⟩
theorem MapOf.grown{w w':World}{b:Nat}{m:List (K×V)}{row:Option Nat}(h:MapOf enc ev w b m)(g:w.grownBy w' row)(hr:some b≠row):MapOf enc ev w' b m:=by
 have hlt:=h.lt;obtain⟨es,clock,hb,r⟩:=h;exact⟨es,clock,(g.block b hlt hr).trans hb,r⟩
theorem MapOf.made(w:World):MapOf enc ev (w.alloc (.map #[] 0)) w.heap.size ([]:List (K×V)) :=
 ⟨#[],0,(MapKept.heap_alloc w _).1,rfl,by simp,by simp⟩
theorem mapbox_(enc:K→Value)(ev:V→Value)(w:World): ∃W,w.alloc (.map #[] 0)=W∧Ext w W∧MapOf enc ev W w.heap.size []∧W.heap.size=w.heap.size+1 :=
 ⟨_,rfl,(Ext.refl w).alloc _,MapOf.made w,by simp⟩
variable [DecidableEq K]
theorem find_run(E:KeyEnc P k enc)(w:World)(x:K): ∀(es:List MapEntry) (m:List (K×V)) (i:Nat),es.map (fun e=>(e.key,e.val))=m.map (fun p=>(enc p.1,ev p.2)) →
  (Instr.findAsking k (enc x) es i).run P w = .ok ((lookAt m x i).map fun r=>(r.1,ev r.2)) w
 | [],[],i,_=>by simp[Instr.findAsking,lookAt]
 | [],p::m,_,h=>by simp at h
 | e::es,[],_,h=>by simp at h
 | e::es,p::m,i,h=>by
  simp only[List.map_cons,List.cons.injEq,Prod.mk.injEq] at h;obtain⟨⟨h1,h2⟩,h3⟩:=h;have ih:=find_run E w x es m (i+1) h3;unfold lookAt;by_cases hx:x=p.1
  ·simp[Instr.findAsking,h1,E.eq,hx,h2]
  ·simp[Instr.findAsking,h1,E.eq,hx,ih]
theorem lookup_run(E:KeyEnc P k enc){t e:TypeId}(ht:P.underlying t=some (.map k e)){w:World}{z:Value}(hz:(zeroValue e).run P w = .ok z w){b:Nat}{m:List (K×V)}(h:MapOf enc ev w b m)(x:K)(ok:Bool) :
  (Instr.lookup t (.map (some b)) (enc x) ok).run P w = .ok (match getK m x with
   | some v=>if ok then .tuple #[ev v,.bool true] else ev v
   | none=>if ok then .tuple #[z,.bool false] else z) w:=by
 obtain⟨es,clock,hb,hm,_⟩:=h;have hf:=find_run E w x es.toList m 0 hm;rw[←run_findKey_eq w E.wide] at hf;rw[←lookAt_getK m x 0];cases hl:lookAt m x 0 with
 | none =>
  rw[hl] at hf;simp[Instr.lookup,run_underlying ht,MapKept.run_getObj_map hb,E.check,hf,hz,Result.andThen]
 | some r =>
  rw[hl] at hf;simp[Instr.lookup,run_underlying ht,MapKept.run_getObj_map hb,E.check,hf,Result.andThen]
theorem update_run(E:KeyEnc P k enc){t e:TypeId}(ht:P.underlying t=some (.map k e)){w:World}{b:Nat}{m:List (K×V)}(h:MapOf enc ev w b m)(x:K)(v:V) :
  ∃w',(Instr.mapUpdate t (.map (some b)) (enc x) (ev v)).run P w = .ok () w'∧MapOf enc ev w' b (putK m x v)∧w.grownBy w' (some b)∧w'.heap.size=w.heap.size:=by
 obtain⟨es,clock,hb,hm,hs1,hs2⟩:=h;have hf:=find_run E w x es.toList m 0 hm;rw[←run_findKey_eq w E.wide] at hf;have grown: ∀o,w.grownBy (ChangeMaps.setBlock w b o) (some b):=fun o=>⟨rfl,rfl,rfl,by simp[ChangeMaps.setBlock],fun i _ hi=>ChangeMaps.heap_setBlock_other hb _ (fun e=>hi (by rw[e]))⟩;have hsz: ∀o,(ChangeMaps.setBlock w b o).heap.size=w.heap.size:=fun o=>by simp[ChangeMaps.setBlock]
 cases hl:lookAt m x 0 with
 | none =>
  rw[hl] at hf;refine⟨ChangeMaps.setBlock w b (.map (es.push { key:=enc x,val:=ev v,born:=clock }) (clock+1)),?_,⟨_,_,ChangeMaps.heap_setBlock_same hb _,?_,?_,?_⟩,grown _,hsz _⟩
  ·simp[Instr.mapUpdate,run_underlying ht,MapKept.run_getObj_map hb,E.check,hf,MapKept.run_setObj_map _ hb,Result.andThen,ChangeMaps.setBlock]
  ·rw[lookAt_none hl];simp[hm]
  ·intro y hy;simp only[Array.toList_push,List.mem_append,List.mem_singleton] at hy;rcases hy with hy|rfl
   ·exact Nat.lt_succ_of_lt (hs1 y hy)
   ·exact Nat.lt_succ_self _
  ·simp only[Array.toList_push,List.map_append,List.map_cons,List.map_nil];refine List.nodup_append.2 ⟨hs2,by simp,?_⟩;intro a ha b hb;simp only[List.mem_singleton] at hb;subst hb;obtain⟨y,hy,rfl⟩:=List.mem_map.1 ha;exact Nat.ne_of_lt (hs1 y hy)
 | some r =>
  obtain⟨j,u⟩:=r;rw[hl] at hf;obtain⟨j',hj',h1,h2⟩:=lookAt_some hl v;obtain rfl:j=j':=by omega
  have hlen:es.toList.length=m.length:=by
   have:=congrArg List.length hm
   simpa using this
  have hjl:j<es.toList.length:=by
   rw[hlen];exact(List.getElem?_eq_some_iff.1 h1).1
  have hjm:(es.toList.map (fun e=>(e.key,e.val)))[j]? = some (enc x,ev u):=by
   rw[hm,List.getElem?_map,h1];rfl
  obtain⟨e0,hej⟩: ∃e0,es.toList[j]? = some e0:=⟨_,List.getElem?_eq_getElem hjl⟩;have hmem:e0∈es.toList:=List.mem_of_getElem? hej;have hkey:e0.key=enc x:=by
   rw[List.getElem?_map,hej] at hjm;simp only[Option.map_some,Option.some.injEq,Prod.mk.injEq] at hjm;exact hjm.1
  have hej':es[j]? = some e0:=by rw[←hej];simp
  have hlist:(es.modify j (fun e'=>{ e' with key:=enc x,val:=ev v })).toList=es.toList.set j { e0 with key:=enc x,val:=ev v }:=by
   rw[Array.toList_modify,ChangeMaps.modify_eq_set _ _ _ _ hej]
  refine⟨ChangeMaps.setBlock w b (.map (es.modify j (fun e'=>{ e' with key:=enc x,val:=ev v })) clock),?_,⟨_,_,ChangeMaps.heap_setBlock_same hb _,?_,?_,?_⟩,grown _,hsz _⟩
  ·simp[Instr.mapUpdate,run_underlying ht,MapKept.run_getObj_map hb,E.check,hf,hej',hkey,Instr.keyThatStays,E.same,MapKept.run_setObj_map _ hb,Result.andThen,ChangeMaps.setBlock]
  ·rw[hlist,h2,List.map_set,List.map_set,hm]
  ·intro y hy;rw[hlist] at hy;rcases List.mem_or_eq_of_mem_set hy with hy|rfl
   ·exact hs1 y hy
   ·exact hs1 e0 hmem
  ·rw[hlist,List.map_set];have:(es.toList.map (·.born)).set j e0.born=es.toList.map (·.born):=by
    apply List.ext_getElem?;intro i;rw[List.getElem?_set]
    split
    ·rename_i hji;subst hji;rw[if_pos (by simpa using hjl),List.getElem?_map,hej];rfl
    ·rfl
   rw[this];exact hs2
theorem wpList_put(E:KeyEnc P k enc){w:World}{ops:Array Oper}{rest:List Oper}{o:Oper}{a:Act}{Q:Exit→Act→World→Prop}
  (hg:o.guard=none) (mo xo vo:Operand) (t:TypeId) (hop:o.op=Op.mapUpdate t mo xo vo) (e:TypeId) (ht:P.underlying t=some (.map k e)) (b:Nat) (m:List (K×V)) (x:K) (v:V)
  (hm:a.eval mo = .map (some b)) (hown:MapOf enc ev w b m) (hx:a.eval xo=enc x) (hv:a.eval vo=ev v)
  (hK: ∀w',MapOf enc ev w' b (putK m x v)→w.grownBy w' (some b)→w'.heap.size=w.heap.size→wpList P ops Q rest (a.put o.dst undef) w'):wpList P ops Q (o::rest) a w:=by
 refine wpList_plain hg fun K' hK'=> ?_;obtain⟨w',hrun,r1,r2,r3⟩:=update_run E ht hown x v;unfold Oper.wp;simp[execOp,hop,hm,hx,hv,hrun,Result.andThen];exact hK' _ _ (hK w' r1 r2 r3)
end
end Go.Proofs.YtojolpbpjimfgaaGreatDoor
namespace Go.Proofs.YtojolpbpjimfgaaGreatDoor
open Go.RowKit Go.Shelf
attribute [local go_sem] Oper.semAt_some
theorem ext_keeps{A B:World}(h:Ext A B):KeepsOthers A B:=⟨h.size,fun k _ hk _=>(h.block k (Array.getElem?_eq_some_iff.1 hk).1).trans hk⟩
def p123:Pt:=⟨1,2,3⟩
def at123(n:Nat):Value:= .agg #[.int .i64 (turnS p123 n).x,.int .i64 (turnS p123 n).y,.int .i64 (turnS p123 n).z]
abbrev encW(x:Fin 24):Array Value:= #[.int .i64 (x.val:Int),at123 x.val]
def upto(k:Nat):List (Fin 24):=(List.finRange 24).take k
end Go.Proofs.YtojolpbpjimfgaaGreatDoor
namespace Go.Proofs.YtojolpbpjimfgaaGreatDoor
open Go.RowKit
def turnOk(p:Pt)(n:Int):Prop:=nearB p (-2000) 2000=true∧0≤n∧n<24
def dirT(d n:Nat):Nat:=((List.range 6).find? fun i=>(stepS i).eqB (turnS (stepS d) n)).getD 0
theorem dirT_all: ∀d,d<6 → ∀n,n<24→(dirT d n<6∧Pt.eqB (stepS (dirT d n)) (turnS (stepS d) n)=true):=by decide +kernel
theorem dirT_lt{d n:Nat}(hd:d<6)(hn:n<24):dirT d n<6:=(dirT_all d hd n hn).1
theorem dirT_eq{d n:Nat}(hd:d<6)(hn:n<24):turnS (stepS d) n=stepS (dirT d n):=(Pt.eqB_iff.1 (dirT_all d hd n hn).2).symm
theorem pointed_c(d n:Nat)(hd:d<6)(hn:n<24)(w:World) :
  Calls Tryz.prog 137 #[.int .i64 d,.int .i64 n] w fun e w'=>e = .returned (.int .i64 (dirT d n))∧Ext w w':=by
 have hlt:=dirT_lt hd hn;have He:=h_ (dirT_eq hd hn);go_enter Tryz.func137,Tryz.ntmps137;go_wp2_with fail;refine(rstep_c d hd _).mono ?_;rintro e w1 ⟨rfl,E1⟩;go_wp2_with fail;refine(turned_c (stepS d).x (stepS d).y (stepS d).z n _ hn (stepS_ok d)).mono ?_;rintro e w2 ⟨rfl,E2⟩;rw[show turnS ⟨(stepS d).x,(stepS d).y,(stepS d).z⟩ n=stepS (dirT d n) from He.out];obtain⟨g,hg⟩:=nm (dirT d n);have Hg:=h_ hg;rw[hg] at hlt ⊢;clear hg;obtain⟨W,hW,E,ba,hz⟩:=boxes1 w2 #[.int .i64 (stepS g).x,.int .i64 (stepS g).y,.int .i64 (stepS g).z] 124;have B:Blk W w2.heap.size 124 #[.int .i64 (stepS g).x,.int .i64 (stepS g).y,.int .i64 (stepS g).z]:=by rw[←hW];exact Blk.new _ _ _
 go_wp2_with fail;go_loopw [6] (fun i wr=> ∃k:Nat,k≤g∧i = .int .i64 k∧Ext W wr) (fun i _=>6-(intOf i).toNat)
 case atStart=>exact⟨0,by omega,rfl,Ext.refl _⟩
 case round =>
  obtain⟨k,hk,rfl,E3⟩:=hrel;have c:=(B.ext E3).cell;have hq: ∀w,(binOp .eql 124 (.agg #[.int .i64 (stepS k).x,.int .i64 (stepS k).y,.int .i64 (stepS k).z]) (.agg #[.int .i64 (stepS g).x,.int .i64 (stepS g).y,.int .i64 (stepS g).z])).run Tryz.prog w = .ok (.bool (decide (k=g))) w:=fun w=>by
   rw[pt_eql];have:Pt.eqB (stepS k) (stepS g)=decide (k=g):=by
    by_cases h:k=g
    ·subst h;simp[Pt.eqB]
    ·simp only[h,decide_false];rw[Bool.eq_false_iff];intro h';exact h (stepS_inj (by omega) hlt (Pt.eqB_iff.1 h'))
   exact congrArg (fun b=>Result.ok (Value.bool b) w) this
  by_cases hkd:k=g
  ·have hkd':decide (k=g)=true:=by simp[hkd]
   simp only[hkd'] at hq;clear hkd';have Hkd:=h_ hkd;clear hkd
   go_wp2
   refine w_g ?_
   repeat (go_big_quiet_step ((go_at_call 138;exact quiet_ext (rstep_c k (by omega) _))))
   refine wpQuiet_nil ?_;intro W2 hW2;have E4:Ext wr W2:=by
    obtain⟨x,rfl⟩:=hW2;exact(Ext.refl _).grow x
   clear hW2
   go_wp2
   go_ret;exact⟨by rw[Hg.out,Hkd.out];rfl,((((E1.trans E2).trans E).trans E3).trans E4)⟩
  ·have hkd':decide (k=g)=false:=by simp[hkd]
   simp only[hkd'] at hq;clear hkd'
   go_wp2
   refine w_g ?_
   repeat (go_big_quiet_step ((go_at_call 138;exact quiet_ext (rstep_c k (by omega) _))))
   refine wpQuiet_nil ?_;intro W2 hW2;have E4:Ext wr W2:=by
    obtain⟨x,rfl⟩:=hW2;exact(Ext.refl _).grow x
   clear hW2
   go_wp2
   go_roundw
   case rel=>exact⟨k+1,by omega,by go_num,E3.trans E4⟩
   case measure=>simp[intOf];omega
def compB(a b n:Nat):Bool:=Pt.eqB (turnS ⟨1,0,0⟩ n) (turnS (turnS ⟨1,0,0⟩ a) b)&&Pt.eqB (turnS ⟨0,1,0⟩ n) (turnS (turnS ⟨0,1,0⟩ a) b)
def compT(a b:Nat):Nat:=((List.range 24).find? (compB a b)).getD 0
end Go.Proofs.YtojolpbpjimfgaaGreatDoor
