/- Texts of the proof: Pop6, ChkS, Tz6, BoxIter, SetC. -/
import Derived.Test.YtojolpbpjimfgaaGreatDoorZy1
import Derived.Test.YtojolpbpjimfgaaGreatDoorZy3
import Derived.Test.YtojolpbpjimfgaaGreatDoorZy7
import Derived.Test.YtojolpbpjimfgaaGreatDoorZy25
import Derived.KernelRfl
import Derived.Shelf.Spec.TrailingZeros
import Derived.RangeFuncNested
import Derived.RangeFuncBound
import Derived.RangeFuncCalls
import Derived.RangeFuncLeaves
import Derived.Shelf.Abstract
import Derived.Shelf.RegionOpen
import Derived.OwnWalkIn
import Derived.TacticsInMore
import Derived.LoopNIn
import Derived.LoopIn
import Derived.Laws.Bits64b
import Derived.Laws.ShiftsVarLaws
set_option maxHeartbeats 2000000
set_option maxRecDepth 100000
namespace Go.Proofs.YtojolpbpjimfgaaGreatDoor
open Go.RowKit
def popRep(v:Nat):Nat→Nat
 | 0=>0
 | k+1=>v+256*popRep v k
theorem pop_and(x y:Nat):x&&&y=(x % 256&&&y % 256)+256*(x / 256&&&y / 256):=by
 have h1:(x&&&y) % 2 ^ 8=x % 2 ^ 8&&&y % 2 ^ 8:=Nat.and_mod_two_pow;have h2:(x&&&y) / 2 ^ 8=x / 2 ^ 8&&&y / 2 ^ 8:=Nat.and_div_two_pow;have e:(2:Nat) ^ 8=256:=rfl;rw[e] at h1 h2;rw[←h1,←h2];omega
def popsA(a:Nat):Nat:=(a / 2&&&85)+(a&&&85)
def popsB(a:Nat):Nat:=(a / 4&&&51)+(a&&&51)
def popsC(a:Nat):Nat:=a / 16+a&&&15
def popSA(k x:Nat):Nat:=(x / 2&&&popRep 85 k)+(x&&&popRep 85 k)
def popSB(k x:Nat):Nat:=(x / 4&&&popRep 51 k)+(x&&&popRep 51 k)
def popSC(k x:Nat):Nat:=x / 16+x&&&popRep 15 k
theorem pop_all2{n m:Nat}{p:Nat→Nat→Bool}(h:(List.range n).all (fun a=>(List.range m).all fun b=>p a b)=true){a b:Nat}(ha:a<n)(hb:b<m):p a b=true :=
 List.all_eq_true.1 (List.all_eq_true.1 h a (List.mem_range.2 ha)) b (List.mem_range.2 hb)
def popByte(a:Nat):Nat:=(List.range 8).countP fun i=>a.testBit i
theorem pop_allA:(List.range 256).all (fun a=>(List.range 2).all fun b=>(a / 2+128*b&&&85)==(a / 2&&&85))=true:=by kernel_rfl
theorem pop_allB:(List.range 256).all (fun a=>(List.range 4).all fun b=>(a / 4+64*b&&&51)==(a / 4&&&51))=true:=by kernel_rfl
theorem pop_allC:(List.range 256).all (fun a=>(List.range 5).all fun b=> !(decide (a % 16≤4)&&decide (a / 16≤4))||((a / 16+a+16*b&&&15)==(a / 16+a&&&15)))=true:=by kernel_rfl
theorem pop_allP:(List.range 256).all (fun a=>(List.range 1).all fun _=>decide (popsB (popsA a) % 16≤4)&&decide (popsB (popsA a) / 16≤4)&&(popsC (popsB (popsA a))==popByte a))=true:=by kernel_rfl
theorem popRep_mod{v:Nat}(hv:v<256)(k:Nat):popRep v (k+1) % 256=v∧popRep v (k+1) / 256=popRep v k:=by
 have e:popRep v (k+1)=v+256*popRep v k:=rfl;omega
theorem popSA_succ(k x:Nat):popSA (k+1) x=popsA (x % 256)+256*popSA k (x / 256):=by
 obtain⟨r1,r2⟩:=popRep_mod (v:=85) (by omega) k;have h:=pop_all2 pop_allA (a:=x % 256) (b:=x / 256 % 2) (by omega) (by omega);rw[beq_iff_eq] at h;unfold popSA popsA;rw[pop_and (x / 2),pop_and x,r1,r2,show x / 2 % 256=x % 256 / 2+128*(x / 256 % 2) by omega,h,show x / 2 / 256=x / 256 / 2 by omega];omega
theorem popSB_succ(k x:Nat):popSB (k+1) x=popsB (x % 256)+256*popSB k (x / 256):=by
 obtain⟨r1,r2⟩:=popRep_mod (v:=51) (by omega) k;have h:=pop_all2 pop_allB (a:=x % 256) (b:=x / 256 % 4) (by omega) (by omega);rw[beq_iff_eq] at h;unfold popSB popsB;rw[pop_and (x / 4),pop_and x,r1,r2,show x / 4 % 256=x % 256 / 4+64*(x / 256 % 4) by omega,h,show x / 4 / 256=x / 256 / 4 by omega];omega
theorem popSC_succ(k x:Nat)(h1:x % 256 % 16≤4)(h2:x % 256 / 16≤4)(h3:x / 256 % 16≤4):popSC (k+1) x=popsC (x % 256)+256*popSC k (x / 256):=by
 obtain⟨r1,r2⟩:=popRep_mod (v:=15) (by omega) k;have h:=pop_all2 pop_allC (a:=x % 256) (b:=x / 256 % 16) (by omega) (by omega);rw[decide_eq_true h1,decide_eq_true h2,Bool.and_self,Bool.not_true,Bool.false_or,beq_iff_eq] at h;unfold popSC popsC;rw[pop_and,r1,r2,show(x / 16+x) % 256=x % 256 / 16+x % 256+16*(x / 256 % 16) by omega,h,show(x / 16+x) / 256=x / 256 / 16+x / 256 by omega]
theorem popsA_lt(a:Nat):popsA a<256:=by
 unfold popsA;have h1:a / 2&&&85≤85:=Nat.and_le_right;have h2:a&&&85≤85:=Nat.and_le_right;omega
theorem popsB_lt(a:Nat):popsB a<256:=by
 unfold popsB;have h1:a / 4&&&51≤51:=Nat.and_le_right;have h2:a&&&51≤51:=Nat.and_le_right;omega
theorem pop_bytes{a r y:Nat}(e:y=a+256*r)(h:a<256):y % 256=a∧y / 256=r:=by omega
def pop_cntB(k x:Nat):Nat:=(List.range (8*k)).countP fun i=>x.testBit i
def popTB(k x:Nat):Nat:=popSC k (popSB k (popSA k x))
theorem popSBA(k x:Nat):popSB (k+1) (popSA (k+1) x)=popsB (popsA (x % 256))+256*popSB k (popSA k (x / 256)):=by
 obtain⟨h1,h2⟩:=pop_bytes (popSA_succ k x) (popsA_lt _);rw[popSB_succ,h1,h2]
theorem popSBA_few(k x:Nat):popSB k (popSA k x) % 16≤4:=by
 cases k with
 | zero=>simp[popSB,popSA,popRep]
 | succ k =>
  have h:=pop_all2 pop_allP (a:=x % 256) (b:=0) (by omega) (by omega);rw[Bool.and_eq_true,Bool.and_eq_true] at h;have:=of_decide_eq_true h.1.1;rw[popSBA];omega
theorem popTB_succ(k x:Nat):popTB (k+1) x=(popByte (x % 256))+256*popTB k (x / 256):=by
 have h:=pop_all2 pop_allP (a:=x % 256) (b:=0) (by omega) (by omega);rw[Bool.and_eq_true,Bool.and_eq_true,beq_iff_eq] at h;obtain⟨h1,h2⟩:=pop_bytes (popSBA k x) (popsB_lt _);have q1:=of_decide_eq_true h.1.1;have q2:=of_decide_eq_true h.1.2;unfold popTB;rw[popSC_succ k _ (by rw[h1];exact q1) (by rw[h1];exact q2) (by rw[h2];exact popSBA_few _ _),h1,h2,h.2]
theorem pop_cntB_succ(k x:Nat):pop_cntB (k+1) x=(popByte (x % 256))+pop_cntB k (x / 256):=by
 unfold pop_cntB popByte;rw[show 8*(k+1)=8+8*k by omega,List.range_add,List.countP_append,List.countP_map];congr 1
 ·apply List.countP_congr;intro a ha;rw[List.mem_range] at ha;have e:(256:Nat)=2 ^ 8:=rfl;rw[e,Nat.testBit_mod_two_pow,decide_eq_true ha,Bool.true_and]
 ·apply List.countP_congr;intro a ha;have e:(256:Nat)=2 ^ 8:=rfl;rw[e,Nat.testBit_div_two_pow];simp[Function.comp,Nat.add_comm]
theorem popByte_le(x:Nat):popByte x≤8:=by
 have:=List.countP_le_length (p:=fun i=>x.testBit i) (l:=List.range 8)
 simpa [popByte] using this
theorem pop_dv1{y a z:Nat}(e:y=a+256*z)(h:a≤8):y / 256=z:=by omega
theorem pop_dv2{y a z b t:Nat}(e:y=a+256*z)(f:z=b+256*t)(h:a≤16)(k:b≤16):y / 65536=t:=by omega
theorem pop_dv4{y a z b t c s d r:Nat}(e:y=a+256*z)(f:z=b+256*t)(e2:t=c+256*s)(f2:s=d+256*r)(h:a≤32)(k:b≤32)(h2:c≤32)(k2:d≤32):y / 4294967296=r:=by
 have h1:y / 65536=t:=by omega
 have h3:t / 65536=r:=by omega
 rw[show 4294967296=65536*65536 from rfl,←Nat.div_div_eq_div_mul,h1,h3]
theorem pop_ad1{y a z x b t:Nat}(e:y=a+256*z)(f:x=b+256*t):y+x=(a+b)+256*(z+t):=by omega
theorem pop_lt8{y a z n m:Nat}(e:y=a+256*z)(h:a≤8)(hz:z<n)(hm:m=256*n):y<m:=by omega
theorem pop_le1{y a z:Nat}(e:y=a+256*z):z≤y:=by omega
theorem pop_md1{w a b z:Nat}(h:a=b)(k:b<128)(e:w=a+256*z):w % 128=b:=by omega
theorem pop_fr4(y:Nat):4*y=y+y+(y+y):=by omega
theorem pop_sm8(a b c d e f g h:Nat):a+b+(c+d)+(e+f+(g+h))=a+b+c+d+e+f+g+h:=by omega
theorem pop_bd8{a b c d e f g h:Nat}(h0:a≤8)(h1:b≤8)(h2:c≤8)(h3:d≤8)(h4:e≤8)(h5:f≤8)(h6:g≤8)(h7:h≤8):a+b+c+d+e+f+g+h<128:=by omega
theorem pop_b16{a b:Nat}(h0:a≤8)(h1:b≤8):a+b≤16:=by omega
theorem pop_b32{a b c d:Nat}(h0:a≤8)(h1:b≤8)(h2:c≤8)(h3:d≤8):a+b+(c+d)≤32:=by omega
theorem pop_aux{a0 a1 a2 a3 a4 a5 a6 a7:Nat}(c0:a0≤8)(c1:a1≤8)(c2:a2≤8)(c3:a3≤8)(c4:a4≤8)(c5:a5≤8)(c6:a6≤8)(c7:a7≤8)
  {y0 y1 y2 y3 y4 y5 y6:Nat} (e0:y0=a0+256*y1) (e1:y1=a1+256*y2) (e2:y2=a2+256*y3) (e3:y3=a3+256*y4) (e4:y4=a4+256*y5) (e5:y5=a5+256*y6) (e6:y6=a6+256*a7) :
  ∃u v:Nat,y0+y0 / 256=u∧u+u / 65536=v∧(v+v / 4294967296) % 128=a0+a1+a2+a3+a4+a5+a6+a7∧y0<648518346341351424∧u≤2*y0∧v≤4*y0:=by
 have e7:a7=a7+256*0:=rfl;have f0:=pop_ad1 e0 e1;have f1:=pop_ad1 e1 e2;have f2:=pop_ad1 e2 e3;have f3:=pop_ad1 e3 e4;have f4:=pop_ad1 e4 e5;have f5:=pop_ad1 e5 e6;have f6:=pop_ad1 e6 e7;have g0:=pop_ad1 f0 f2;have g1:=pop_ad1 f1 f3;have g2:=pop_ad1 f2 f4;have g3:=pop_ad1 f3 f5;have g4:=pop_ad1 f4 f6;have b6:y6<9*256:=pop_lt8 e6 c6 (Nat.lt_succ_of_le c7) rfl;have b5:y5<9*256*256:=pop_lt8 e5 c5 b6 rfl;have b4:y4<9*256*256*256:=pop_lt8 e4 c4 b5 rfl;have b3:y3<9*256*256*256*256:=pop_lt8 e3 c3 b4 rfl;have b2:y2<9*256*256*256*256*256:=pop_lt8 e2 c2 b3 rfl;have b1:y1<9*256*256*256*256*256*256:=pop_lt8 e1 c1 b2 rfl;have b0:y0<9*256*256*256*256*256*256*256:=pop_lt8 e0 c0 b1 rfl;have q1:=pop_dv1 e0 c0;have q2:=pop_dv2 f0 f1 (pop_b16 c0 c1) (pop_b16 c1 c2);have q4:=pop_dv4 g0 g1 g2 g3 (pop_b32 c0 c1 c2 c3) (pop_b32 c1 c2 c3 c4) (pop_b32 c2 c3 c4 c5) (pop_b32 c3 c4 c5 c6);have h1:=pop_le1 e0;have h2:=Nat.le_trans (pop_le1 e1) h1;have h3:=Nat.le_trans (pop_le1 e2) h2;refine⟨y0+y1,y0+y1+(y2+y3),by rw[q1],by rw[q2],?_,b0,?_,?_⟩
 ·rw[q4];exact pop_md1 (pop_sm8 _ _ _ _ _ _ _ _) (pop_bd8 c0 c1 c2 c3 c4 c5 c6 c7) (pop_ad1 g0 g4)
 ·rw[Nat.two_mul];exact Nat.add_le_add_left h1 _
 ·rw[show 4*y0=y0+y0+(y0+y0) from(pop_fr4 _)];exact Nat.add_le_add (Nat.add_le_add_left h1 _) (Nat.add_le_add h2 h3)
theorem popTB8(x:Nat):popTB 8 x=popByte (x % 256)+256*(popByte (x / 256 % 256)+256*(popByte (x / 256 / 256 % 256)+256*(popByte (x / 256 / 256 / 256 % 256)+256*(popByte (x / 256 / 256 / 256 / 256 % 256)+256*(popByte (x / 256 / 256 / 256 / 256 / 256 % 256)+256*(popByte (x / 256 / 256 / 256 / 256 / 256 / 256 % 256)+256*(popByte (x / 256 / 256 / 256 / 256 / 256 / 256 / 256 % 256)))))))):=by
 have h0: ∀y,popTB 0 y=0:=fun y=>by simp[popTB,popSC,popRep]
 rw[popTB_succ 7,popTB_succ 6,popTB_succ 5,popTB_succ 4,popTB_succ 3,popTB_succ 2,popTB_succ 1,popTB_succ 0,h0,Nat.mul_zero,Nat.add_zero]
theorem pop_cnt8(x:Nat):pop_cntB 8 x=popByte (x % 256)+(popByte (x / 256 % 256)+(popByte (x / 256 / 256 % 256)+(popByte (x / 256 / 256 / 256 % 256)+(popByte (x / 256 / 256 / 256 / 256 % 256)+(popByte (x / 256 / 256 / 256 / 256 / 256 % 256)+(popByte (x / 256 / 256 / 256 / 256 / 256 / 256 % 256)+popByte (x / 256 / 256 / 256 / 256 / 256 / 256 / 256 % 256))))))):=by
 have h0: ∀y,pop_cntB 0 y=0:=fun y=>by simp[pop_cntB]
 rw[pop_cntB_succ 7,pop_cntB_succ 6,pop_cntB_succ 5,pop_cntB_succ 4,pop_cntB_succ 3,pop_cntB_succ 2,pop_cntB_succ 1,pop_cntB_succ 0,h0,Nat.add_zero]
theorem pop_is(x:Nat): ∃u v:Nat,popTB 8 x+popTB 8 x / 256=u∧u+u / 65536=v∧(v+v / 4294967296) % 128=(setL x).length∧popTB 8 x<648518346341351424∧u≤2*popTB 8 x∧v≤4*popTB 8 x:=by
 have hs:(setL x).length=pop_cntB 8 x:=by
  unfold setL pop_cntB;rw[List.countP_eq_length_filter]
 obtain⟨u,v,h1,h2,h3,h4⟩:=pop_aux (popByte_le (x % 256)) (popByte_le (x / 256 % 256)) (popByte_le (x / 256 / 256 % 256)) (popByte_le (x / 256 / 256 / 256 % 256)) (popByte_le (x / 256 / 256 / 256 / 256 % 256)) (popByte_le (x / 256 / 256 / 256 / 256 / 256 % 256)) (popByte_le (x / 256 / 256 / 256 / 256 / 256 / 256 % 256)) (popByte_le (x / 256 / 256 / 256 / 256 / 256 / 256 / 256 % 256)) (popTB8 x) rfl rfl rfl rfl rfl rfl;rw[hs,pop_cnt8];exact⟨u,v,h1,h2,by rw[h3];simp only[Nat.add_assoc],h4⟩
structure PutV where
 b:Int
 d:Int
def PutV.cs(p:PutV):List Value:= [.int .i64 p.b,.int .u8 p.d]
def PutV.byte(p:PutV):Prop:=0≤p.d∧p.d<256
structure StpV where
 l:List PutV
 v:Int
structure SAt where
 A:Option Addr
 c:Nat
def StpV.cs(s:StpV)(a:SAt):List Value:= [.slice a.A s.l.length a.c,.int .u8 s.v]
def StpV.byte(s:StpV):Prop:=0≤s.v∧s.v<256
def PutsZ(w:World)(A:Option Addr)(cap:Nat)(l:List PutV):Prop:=SliceIs w A l.length cap 2 (l.map PutV.cs) ∧ ∀p∈l,p.byte
def StepsZ(w:World)(A:Option Addr)(cap:Nat)(q:List (StpV×SAt)):Prop:=SliceIs w A q.length cap 2 (q.map fun x=>x.1.cs x.2) ∧ ∀x∈q,PutsZ w x.2.A x.2.c x.1.l∧x.1.byte
theorem PutsZ.ext{w w':World}{A:Option Addr}{cap:Nat}{l:List PutV}(h:PutsZ w A cap l)(E:Ext w w'):PutsZ w' A cap l:=⟨h.1.ext E,h.2⟩
theorem StepsZ.ext{w w':World}{A:Option Addr}{cap:Nat}{q:List (StpV×SAt)}(h:StepsZ w A cap q)(E:Ext w w'):StepsZ w' A cap q:=⟨h.1.ext E,fun x hx=>⟨(h.2 x hx).1.ext E,(h.2 x hx).2⟩⟩
theorem PutsZ.len{w:World}{A:Option Addr}{cap:Nat}{l:List PutV}(h:PutsZ w A cap l):l.length≤maxLen:=Nat.le_trans h.1.le h.1.small
theorem StepsZ.len{w:World}{A:Option Addr}{cap:Nat}{q:List (StpV×SAt)}(h:StepsZ w A cap q):q.length≤maxLen:=Nat.le_trans h.1.le h.1.small
theorem PutsZ.addr{w:World}{A:Option Addr}{cap:Nat}{l:List PutV}(h:PutsZ w A cap l)(h0:0<l.length): ∃g off,A=some ⟨g,off,none⟩:=by
 obtain⟨b,off,hA,-,-⟩:=h.1.cells h0;exact⟨b,off,hA⟩
theorem StepsZ.addr{w:World}{A:Option Addr}{cap:Nat}{q:List (StpV×SAt)}(h:StepsZ w A cap q)(h0:0<q.length): ∃g off,A=some ⟨g,off,none⟩:=by
 obtain⟨b,off,hA,-,-⟩:=h.1.cells h0;exact⟨b,off,hA⟩
theorem PutsZ.cell{w:World}{A:Option Addr}{cap:Nat}{l:List PutV}(h:PutsZ w A cap l){k:Nat}{p:PutV}(hp:l[k]? = some p){g off:Nat}(hA:A=some ⟨g,off,none⟩) :
  w.cell? ⟨g,off+k*2,none⟩=some (.int .i64 p.b)∧w.cell? ⟨g,off+k*2+1,none⟩=some (.int .u8 p.d):=by
 have hk:k<l.length:=(List.getElem?_eq_some_iff.1 hp).1;obtain⟨b,o,hA',-,hc⟩:=h.1.cells (by omega);rw[hA'] at hA;cases hA;have hr:(l.map PutV.cs)[k]? = some p.cs:=by rw[List.getElem?_map,hp];rfl
 exact⟨hc k _ hr 0 _ rfl,hc k _ hr 1 _ rfl⟩
theorem StepsZ.cell{w:World}{A:Option Addr}{cap:Nat}{q:List (StpV×SAt)}(h:StepsZ w A cap q){k:Nat}{x:StpV×SAt}(hx:q[k]? = some x){g off:Nat}(hA:A=some ⟨g,off,none⟩) :
  w.cell? ⟨g,off+k*2,none⟩=some (.slice x.2.A x.1.l.length x.2.c)∧w.cell? ⟨g,off+k*2+1,none⟩=some (.int .u8 x.1.v):=by
 have hk:k<q.length:=(List.getElem?_eq_some_iff.1 hx).1;obtain⟨b,o,hA',-,hc⟩:=h.1.cells (by omega);rw[hA'] at hA;cases hA;have hr:(q.map fun x:StpV×SAt=>x.1.cs x.2)[k]? = some (x.1.cs x.2):=by rw[List.getElem?_map,hx];rfl
 exact⟨hc k _ hr 0 _ rfl,hc k _ hr 1 _ rfl⟩
theorem StepsZ.puts{w:World}{A:Option Addr}{cap:Nat}{q:List (StpV×SAt)}(h:StepsZ w A cap q){k:Nat}{x:StpV×SAt}(hx:q[k]? = some x):PutsZ w x.2.A x.2.c x.1.l∧x.1.byte:=h.2 x (List.mem_of_getElem? hx)
theorem PutsZ.byte{w:World}{A:Option Addr}{cap:Nat}{l:List PutV}(h:PutsZ w A cap l){k:Nat}{p:PutV}(hp:l[k]? = some p):p.byte:=h.2 p (List.mem_of_getElem? hp)
theorem drop_at{α:Type}{l:List α}{k:Nat}{p:α}(hp:l[k]? = some p):l.drop k=p::l.drop (k+1):=by
 obtain⟨hk,e⟩:=List.getElem?_eq_some_iff.1 hp;rw[List.drop_eq_getElem_cons hk,e]
theorem take_at{α:Type}{l:List α}{k:Nat}{p:α}(hp:l[k]? = some p):l.take (k+1)=l.take k ++ [p]:=by
 rw[List.take_add_one,hp];rfl
def putsZ(z:Nat)(l:List PutV):Nat:=l.foldl (fun z p=>putN z p.b.toNat) z
theorem putsZ_snoc(z:Nat)(l:List PutV)(p:PutV):putsZ z (l ++ [p])=putN (putsZ z l) p.b.toNat:=by simp[putsZ]
theorem putsZ_bit(z:Nat)(l:List PutV)(j:Nat):(putsZ z l).testBit j=true↔z.testBit j=true ∨ ∃p∈l,p.b.toNat=j:=by
 induction l generalizing z with
 | nil=>simp[putsZ]
 | cons p l ih =>
  show(putsZ (putN z p.b.toNat) l).testBit j=true↔_
  rw[ih,putN_bit,Bool.or_eq_true,decide_eq_true_eq];simp only[List.mem_cons,exists_eq_or_imp];exact or_assoc
def putOk(n z:Nat)(p:PutV):Bool:= !(decide (p.b<0)||decide ((n:Int)≤p.b)||z.testBit p.b.toNat||decide (5<p.d))
def putsOk(n:Nat):Nat→List PutV→Bool
 | _,[]=>true
 | z,p::l=>putOk n z p&&putsOk n (putN z p.b.toNat) l
def headOk(most:Int)(s:StpV):Bool:= !(decide ((s.l.length:Int)<1)||decide (most<s.l.length)||decide (5<s.v))
def stepsOk(n:Nat)(most:Int):Nat→List StpV→Bool
 | _,[]=>true
 | z,s::t=>headOk most s&&putsOk n z s.l&&stepsOk n most (putsZ z s.l) t
def cntP(t:List StpV):Nat:=(t.map fun s=>s.l.length).sum
def formB(n:Nat)(most:Int)(t:List StpV):Bool:=stepsOk n most 0 t&&decide (cntP t=n)
theorem putsOk_at{n z:Nat}{l:List PutV}{k:Nat}{p:PutV}(hp:l[k]? = some p):putsOk n z (l.drop k)=(putOk n z p&&putsOk n (putN z p.b.toNat) (l.drop (k+1))):=by
 rw[drop_at hp];rfl
theorem stepsOk_at{n z:Nat}{most:Int}{t:List StpV}{k:Nat}{s:StpV}(hs:t[k]? = some s):stepsOk n most z (t.drop k)=(headOk most s&&putsOk n z s.l&&stepsOk n most (putsZ z s.l) (t.drop (k+1))):=by
 rw[drop_at hs];rfl
theorem putOk_iff{n z:Nat}{p:PutV}:putOk n z p=true↔(0≤p.b∧p.b<n)∧z.testBit p.b.toNat=false∧p.d≤5:=by
 unfold putOk;rw[Bool.not_eq_true',Bool.or_eq_false_iff,Bool.or_eq_false_iff,Bool.or_eq_false_iff,decide_eq_false_iff_not,decide_eq_false_iff_not,decide_eq_false_iff_not];constructor
 ·rintro⟨⟨⟨h1,h2⟩,h3⟩,h4⟩;exact⟨⟨by omega,by omega⟩,h3,by omega⟩
 ·rintro⟨⟨h1,h2⟩,h3,h4⟩;exact⟨⟨⟨by omega,by omega⟩,h3⟩,by omega⟩
def putsB(l:List PutV):List Nat:=l.map fun p=>p.b.toNat
theorem putsOk_all{n:Nat}: ∀{z:Nat} {l:List PutV},putsOk n z l=true→SetB n z→SetB n (putsZ z l)∧(∀p∈l,0≤p.b∧p.b<n∧p.d≤5∧z.testBit p.b.toNat=false)∧(putsB l).Nodup
 | z,[],_,hz=>⟨hz,by simp,by simp[putsB]⟩
 | z,p::l,h,hz=>by
  unfold putsOk at h;rw[Bool.and_eq_true] at h;obtain⟨h1,h2⟩:=h;obtain⟨⟨a1,a2⟩,a3,a4⟩:=putOk_iff.1 h1;obtain⟨b1,b2,b3⟩:=putsOk_all h2 (hz.put (i:=p.b.toNat) (by omega));refine⟨b1,fun x hx=> ?_,?_⟩
  ·rcases List.mem_cons.1 hx with rfl|hx
   ·exact⟨a1,a2,a4,a3⟩
   ·obtain⟨c1,c2,c3,c4⟩:=b2 x hx;rw[putN_bit,Bool.or_eq_false_iff] at c4;exact⟨c1,c2,c3,c4.1⟩
  ·unfold putsB at b3 ⊢;rw[List.map_cons,List.nodup_cons];refine⟨fun hm=> ?_,b3⟩;obtain⟨x,hx,e⟩:=List.mem_map.1 hm;obtain⟨-,-,-,c4⟩:=b2 x hx;rw[putN_bit,Bool.or_eq_false_iff,decide_eq_false_iff_not] at c4;exact c4.2 e.symm
noncomputable def seeC(ks:List Knd)(bs:List Brk)(z:Nat)(l:List PutV)(d:Nat):Nat:=(l.filter fun p=>seeB ks bs z p.b.toNat d).length
def viewF(f:Nat→Nat):Nat→Nat×Int
 | 0=>(0,-1)
 | d+1=>if(viewF f d).2<f d then(d,f d) else viewF f d
noncomputable def viewQ(ks:List Knd)(bs:List Brk)(z:Nat)(l:List PutV):Nat:=(viewF (seeC ks bs z l) 6).1
theorem viewF_lt(f:Nat→Nat): ∀d,(viewF f d).1≤d
 | 0=>Nat.le_refl _
 | d+1=>by
  unfold viewF;have:=viewF_lt f d
  split
  ·exact Nat.le_succ d
  ·omega
theorem viewF_most(f:Nat→Nat){n:Nat}(h: ∀d,f d≤n): ∀d,-1≤(viewF f d).2∧(viewF f d).2≤n
 | 0=>⟨Int.le_refl _,by show(-1:Int)≤n;omega⟩
 | d+1=>by
  unfold viewF;have:=viewF_most f h d;have:=h d
  split
  ·exact⟨by show(-1:Int)≤f d;omega,by show(f d:Int)≤n;omega⟩
  ·assumption
theorem seeC_le(ks:List Knd)(bs:List Brk)(z:Nat)(l:List PutV)(d:Nat):seeC ks bs z l d≤l.length:=List.length_filter_le _ _
theorem seeC_set{ks:List Knd}{bs:List Brk}{z s y:Nat}{l:List PutV}{d n:Nat}(hn:n≤64)(hl: ∀p∈l,0≤p.b∧p.b<n)(hd:(putsB l).Nodup)(hz: ∀p∈l,z.testBit p.b.toNat=true)
  (hs: ∀j,s.testBit j=true↔z.testBit j=true∧seeB ks bs z j d=true) (hy: ∀j,y.testBit j=true ↔ ∃p∈l,p.b.toNat=j):(setL (s&&&y)).length=seeC ks bs z l d:=by
 have e:seeC ks bs z l d=((putsB l).filter fun b=>seeB ks bs z b d).length:=by
  unfold seeC putsB;rw[List.filter_map,List.length_map];rfl
 rw[e];refine List.Perm.length_eq ((List.perm_ext_iff_of_nodup (List.Pairwise.filter _ List.nodup_range) (List.Pairwise.filter _ hd)).2 fun j=> ?_);show j∈setL (s&&&y)↔_
 rw[mem_setL,Nat.testBit_and,Bool.and_eq_true,hs,hy,List.mem_filter];unfold putsB;rw[List.mem_map];constructor
 ·rintro⟨-,⟨-,h2⟩,p,hp,e⟩;exact⟨⟨p,hp,e⟩,h2⟩
 ·rintro⟨⟨p,hp,rfl⟩,h2⟩;have:=hl p hp;exact⟨by omega,⟨hz p hp,h2⟩,p,hp,rfl⟩
noncomputable def putE(m:MB)(z:Nat)(p:PutV):Int:=if freeB m.ks m.bs m.tab z p.b.toNat p.d.toNat=true then(if holdB m.ks m.bs m.tab m.hands (putN z p.b.toNat)=true then 0 else 62) else 61
noncomputable def putsE(m:MB):Nat→List PutV→Int
 | _,[]=>0
 | z,p::l=>if putE m z p=0 then putsE m (putN z p.b.toNat) l else putE m z p
noncomputable def stepE(m:MB)(z:Nat)(s:StpV):Int:=if putsE m z s.l=0 then(if s.v=viewQ m.ks m.bs (putsZ z s.l) s.l then 0 else 63) else putsE m z s.l
noncomputable def stepsE(m:MB):Nat→List StpV→Int
 | _,[]=>0
 | z,s::t=>if stepE m z s=0 then stepsE m (putsZ z s.l) t else stepE m z s
theorem putsE_at{m:MB}{z:Nat}{l:List PutV}{k:Nat}{p:PutV}(hp:l[k]? = some p):putsE m z (l.drop k)=if putE m z p=0 then putsE m (putN z p.b.toNat) (l.drop (k+1)) else putE m z p:=by
 rw[drop_at hp];rfl
theorem stepsE_at{m:MB}{z:Nat}{t:List StpV}{k:Nat}{s:StpV}(hs:t[k]? = some s):stepsE m z (t.drop k)=if stepE m z s=0 then stepsE m (putsZ z s.l) (t.drop (k+1)) else stepE m z s:=by
 rw[drop_at hs];rfl
noncomputable def chkE(m:MB)(most:Int)(t:List StpV):Int:=if restErr m.ks m.bs m.tab m.hands=0 then(if 1≤most∧most≤8 then(if formB m.bs.length most t=true then stepsE m 0 t else 60) else 2) else restErr m.ks m.bs m.tab m.hands
def Tz6Tab(w:World):Prop:=TabAt 0 Lib.deBruijn64tab w
theorem tz6_core(x k idx:Nat)(w:World)(hx0:((x:Int)==0)=false)
  (key:IntKind.u64.wrap (bits BinOp.and IntKind.u64 (x:Int) (IntKind.u64.wrap (-(x:Int)))*285870213051353865) / 288230376151711744=(idx:Int))
  (hi:idx<64) (hk:k<64) (hcell:w.cell? ⟨0,idx,none⟩=some (.int .u8 k)) :
  Calls Tryz.prog 87 #[.int .u64 x] w fun e w'=>e = .returned (.int .i64 k)∧w'=w:=by
 go_enter Tryz.func87,Tryz.ntmps87;go_wp2_with (simp only[key]);go_ret;exact⟨rfl,rfl⟩
theorem tz6_c(x:Nat)(h0:x≠0)(hx:x<18446744073709551616)(w:World)(hT:Tz6Tab w) :
  Calls Tryz.prog 87 #[.int .u64 x] w fun e w'=>e = .returned (.int .i64 (Lib.ctz 64 x))∧w'=w:=by
 obtain⟨hlow,hk⟩:=Lib.lowest_bit 64 x h0 hx;obtain⟨hi,htab⟩:=Lib.deBruijn64_at _ hk;have hcell:=hT _ hi;rw[htab] at hcell;exact tz6_core x _ _ w (by simp;omega) (tz64_key x _ hx h0 hlow) hi hk hcell
theorem Tz6Tab.ext{w w':World}(h:Tz6Tab w)(e:Ext w w'):Tz6Tab w':=fun j hj=>e.cell (h j hj)
structure Lets{α:Type}(b:Nat)(G:World→Prop)(J:List α→World→Prop):Prop where
 ext: ∀s A B,J s A→Ext A B→J s B
 box: ∀s A v,J s A→J s (A.setCell ⟨b,0,none⟩ v)
 good: ∀s A,J s A→G A
def BoxSeq{α:Type}(n:Nat)(P:Program)(gf:Nat)(lb:Array Value)(encs:α→Array Value)(ys:List α)(b:Nat)(t:TypeId)(v0:Value)(G:World→Prop):Prop :=
 ∀(l:Nat) (J:List α→World→Prop) (W:World),Lets b G J →
  (∀pre x A v,J pre A→Blk A b t #[v]→pre ++ [x] <+: ys→YieldAt Fence.wide (n-1) P l (encs x) A fun e A'=>e = .returned (.bool true)∧J (pre ++ [x]) A'∧Blk A' b t #[v]) →
  J [] W→Blk W b t #[v0] →
  CallsIn Fence.wide n P gf (#[.func (.yield l) #[] #[]]++lb) W fun e W'=>(∃v,e = .returned v)∧J ys W'
def boxPost(B:Nat)(I:World→Prop)(b:Nat)(t:TypeId)(v:Value)(W:World):Exit→Act→World→Prop
 | .normal,_,W'=>KeepsFrom B W W'∧I W'∧Blk W' b t #[v]
 | _,_,_=>False
theorem wpIn_rangeFunc_box{α:Type}{P:Program}{n:Nat}{g:Operand}{ps:Array Tmp}{assign body:Code}{Q:Exit→Act→World→Prop}{a:Act}{w:World}
  (h1:1≤n) {gf:Nat} {lb:Array Value} (hg:a.eval g = .func (.func gf) #[] lb) (eg: ∀args w,(callFunc gf args).run P w = .ok (.enter gf args) w)
  {encs:α→Array Value} {ys:List α} {b:Nat} {t:TypeId} {v0:Value} {G:World→Prop} (hseq:BoxSeq (n-1) P gf lb encs ys b t v0 G) (hB:Blk w b t #[v0]) (hps: ∀x,(encs x).size=ps.size)
  (I:List α→World→Prop) (hI:Lets b G I) (hIp: ∀s A l o o',I s A→w.heap.size≤l→A.heap[l]? = some o→o.isCells=false→I s (A.putObj l o'))
  (h0:I [] w) (a₁:α→Act)
  (hassign: ∀(l:Nat) (x:α) (W:World) (K:Act→World→Prop),K (a₁ x) W →
   assign.wpIn (Fence.wide.inRound l) (n-1-1) P (Exit.then K (fun _ _ _=>False)) { tmps:=(ps.zip (encs x)).foldl (fun t (p,v)=>t.setIfInBounds p v) a.tmps,defers:= [] } W)
  (hbody: ∀(l:Nat) (pre:List α) (x:α) (W:World) (v:Value),w.heap.size≤l→I pre W→Blk W b t #[v]→pre ++ [x] <+: ys →
   body.wpIn (Fence.wide.inRound l) (n-1-1) P (boxPost w.heap.size (I (pre ++ [x])) b t v W) (a₁ x) W)
  (hdone: ∀(D:Nat) (W:World),w.heap.size≤D→I ys W→W.heap[D]? = some (.deferred (some []))→Q .normal { a with defers:={ target:= .collected D,args:= #[] }::a.defers } W) :
  (Code.rangeFunc g ps assign body).wpIn Fence.wide n P Q a w:=by
 have hblt:=hB.lt;refine wpIn_rangeFunc ?_;intro fn hfn;obtain⟨rec,hrec⟩: ∃rec:LoopState→Option Code→Loop,rec=fun st pe=>{ state:=st,pending:=pe,fn,tmps:=a.tmps,params:=ps,assign,body,defers:=w.heap.size }:=⟨_,rfl⟩;obtain⟨W1,hW1⟩:=nm ((w.alloc (.deferred (some []))).alloc (.loop (rec .ready none)));have hL1:W1.heap[w.heap.size+1]? = some (.loop (rec .ready none)):=by
  rw[←hW1];have:=World.alloc_heap_new (w.alloc (.deferred (some []))) (.loop (rec .ready none));rwa [World.size_alloc] at this
 have hK1:W1.heap[w.heap.size]? = some (.deferred (some [])):=by
  rw[←hW1];exact(Below.heap_alloc _ _ _ (by simp)).trans (World.alloc_heap_new w _)
 have E1:Ext w W1:=by rw[←hW1];exact((Ext.refl w).alloc _).alloc _
 have hI1:I [] W1:=hI.ext _ _ _ h0 E1;refine⟨w.heap.size+1,[{ target:= .collected w.heap.size,args:= #[] }],W1,{ target:= .fn (.func gf) lb,args:= #[.func (.yield (w.heap.size+1)) #[] #[]] },W1,gf,
  #[.func (.yield (w.heap.size+1)) #[] #[]]++lb,W1,?_,?_,?_,?_,fun _=>h1,?_⟩
 ·rw[←hW1,hrec];exact run_enterLoop_outer _ _ _ _ _
 ·simp only[resolve,hg];simp[go_sem]
 ·intro f' hf';exact trivial
 ·simp[invoke,go_sem,eg]
 ·refine(hseq (w.heap.size+1)
   (fun pre W=>I pre W∧W.heap[w.heap.size+1]? = some (.loop (rec .ready none))∧W.heap[w.heap.size]? = some (.deferred (some [])))
   W1 ⟨fun s A B hs E=>⟨hI.ext _ _ _ hs.1 E,(Below.block E _ (Array.getElem?_eq_some_iff.1 hs.2.1).1).trans hs.2.1,(Below.block E _ (Array.getElem?_eq_some_iff.1 hs.2.2).1).trans hs.2.2⟩,
    fun s A v hs=>⟨hI.box _ _ _ hs.1,(Below.heap_setCell A _ v _ (by show w.heap.size+1≠b;omega)).trans hs.2.1,(Below.heap_setCell A _ v _ (by show w.heap.size≠b;omega)).trans hs.2.2⟩,
    fun s A hs=>hI.good _ _ hs.1⟩
   ?_ ⟨hI1,hL1,hK1⟩ (hB.ext E1)).mono ?_
  ·rintro pre x W v ⟨hi,hl,hk⟩ hb hpre;have hlt:w.heap.size+1<W.heap.size:=(Array.getElem?_eq_some_iff.1 hl).1;have hy:=run_yield (P:=P) (args:=encs x) hl (by rw[hrec];exact hps x);rw[hrec] at hy;refine⟨fn,_,assign,body,hy,roundIn_of_wpIn hfn (hassign _ x W _ ⟨_,run_beginRound hl (by rw[hrec]),?_⟩)⟩;have hl2:(W.putObj (w.heap.size+1) (.loop { rec .ready none with state:= .busy })).heap[w.heap.size+1]? = some (.loop { rec .ready none with state:= .busy }):=World.putObj_heap_same hlt;have hk2:(W.putObj (w.heap.size+1) (.loop { rec .ready none with state:= .busy })).heap[w.heap.size]? = some (.deferred (some [])):=(World.putObj_heap_other (by omega)).trans hk;have hb2:Blk (W.putObj (w.heap.size+1) (.loop { rec .ready none with state:= .busy })) b t #[v]:=(World.putObj_heap_other (by omega)).trans hb;refine wpIn_mono (hbody _ pre x _ v (by omega) (hIp _ _ _ _ _ hi (by omega) hl rfl) hb2 hpre) ?_;rintro e a3 W3 hp;cases e <;> first|exact hp.elim|skip
   obtain⟨hk3,hi3,hb3⟩:=hp;have hl3:=hk3.same _ _ (by omega) hl2 rfl;have hr:=run_endRound (P:=P) none hl3;refine⟨_,_,hr,rfl,⟨hIp _ _ _ _ _ hi3 (by omega) hl3 rfl,?_,(World.putObj_heap_other (by omega)).trans (hk3.same _ _ (Nat.le_refl _) hk2 rfl)⟩,(World.putObj_heap_other (by omega)).trans hb3⟩;rw[World.putObj_heap_same (Array.getElem?_eq_some_iff.1 hl3).1,hrec];rfl
  ·rintro e W2 ⟨⟨v,rfl⟩,hi,hl,hk⟩;exact⟨none,_,by have:=run_endLoop (P:=P) hl (by rw[hrec];simp);rw[hrec] at this;exact this,hdone _ _ (Nat.le_refl _) (hIp _ _ _ _ _ hi (by omega) hl rfl) ((World.putObj_heap_other (by omega)).trans hk)⟩
end Go.Proofs.YtojolpbpjimfgaaGreatDoor
namespace Go.Proofs.YtojolpbpjimfgaaGreatDoor
open Go.RowKit Go.Shelf
attribute [local go_sem] Oper.semAt_some
theorem bit_val{z i:Nat}(hz:z<18446744073709551616):bits .and .u64 ((z:Int) / 2 ^ i) 1=if z.testBit i then 1 else 0:=by
 have h1:z / 2 ^ i<18446744073709551616:=Nat.lt_of_le_of_lt (Nat.div_le_self _ _) hz;have e:((z:Int) / 2 ^ i)=((z / 2 ^ i:Nat):Int):=by
  rw[Int.natCast_ediv,Int.natCast_pow];rfl
 rw[e,show(1:Int)=((1:Nat):Int) from rfl,bits_and_u64_nat _ 1 h1 (by decide),Nat.and_one_is_mod,Nat.testBit_eq_decide_div_mod_eq];have:=Nat.mod_two_eq_zero_or_one (z / 2 ^ i);rcases this with h|h <;> simp[h]
theorem or_val{z i:Nat}(hz:z<2 ^ 64)(hi:i<64):bits .or .u64 (z:Int) (IntKind.u64.wrap ((2:Int) ^ i))=((putN z i:Nat):Int):=by
 have h2:2 ^ i<2 ^ 64:=Nat.pow_lt_pow_right (by decide) hi;have e:IntKind.u64.wrap ((2:Int) ^ i)=((2 ^ i:Nat):Int):=by
  rw[IntKind.wrap_u64,show((2:Int) ^ i)=((2 ^ i:Nat):Int) from(Int.natCast_pow 2 i).symm];obtain⟨p,hp⟩:=nm (2 ^ i);rw[hp] at h2 ⊢;omega
 rw[e,bits_or_u64_nat z (2 ^ i) hz h2];rfl
theorem has6_c(z i:Nat)(hz:z<2 ^ 64)(hi:i<64)(w:World) :
  Calls Tryz.prog 33 #[.int .u64 z,.int .i64 i] w fun e w'=>e = .returned (.bool (z.testBit i))∧Ext w w':=by
 have hv:=bit_val (i:=i) hz;have hm:min i 64=i:=by omega
 cases hb:z.testBit i
 ·rw[hb,if_neg (by decide)] at hv;clear hb;go_enter Tryz.func33,Tryz.ntmps33;go_wp2_with fail;go_ret;exact⟨rfl,Ext.refl w⟩
 ·rw[hb,if_pos rfl] at hv;clear hb;go_enter Tryz.func33,Tryz.ntmps33;go_wp2_with fail;go_ret;exact⟨rfl,Ext.refl w⟩
theorem with6_c(z i:Nat)(hz:z<2 ^ 64)(hi:i<64)(w:World) :
  Calls Tryz.prog 52 #[.int .u64 z,.int .i64 i] w fun e w'=>e = .returned (.int .u64 (putN z i:Nat))∧Ext w w':=by
 have hm:min i 64=i:=by omega
 have Hv:=h_ (or_val hz hi);clear hz;go_enter Tryz.func52,Tryz.ntmps52;go_wp2_with fail;refine bodyPost_ret (v:= .int .u64 (putN z i:Nat)) (by simp[results,Tryz.results52,go_sem,Hv.out]) rfl ⟨rfl,Ext.refl w⟩
theorem all6_c(z:Nat)(w:World) :
  Calls Tryz.prog 58 #[.int .u64 z] w fun e w' =>
   e = .returned (.func (.func 86) #[] #[.pointer (some ⟨w.heap.size,0,none⟩)])∧Ext w w'∧Blk w' w.heap.size 64 #[.int .u64 z]∧w'.heap.size=w.heap.size+1:=by
 obtain⟨W1,hW1,E1,B1,hz1⟩:=mk_ w #[.int .u64 z] 64;have Hz:=h_ hz1;clear hz1;go_enter Tryz.func58,Tryz.ntmps58;go_wp2_with fail;go_ret;exact⟨rfl,E1,B1,Hz.out⟩
abbrev encB6(x:Nat):Array Value:= #[.int .i64 (x:Int)]
def box6(b:Nat)(w:World):Nat:=(intOf ((w.cell? ⟨b,0,none⟩).getD undef)).toNat
theorem box6_eq{b:Nat}{w:World}{t:TypeId}{r:Nat}(h:Blk w b t #[.int .u64 (r:Int)]):box6 b w=r:=by
 unfold box6;rw[h.cell];simp[intOf]
theorem all61_c(m:Nat)(hm:m<2 ^ 64)(n b:Nat)(hn:1≤n) :
  BoxSeq n Tryz.prog 86 #[.pointer (some ⟨b,0,none⟩)] encB6 (setL m) b 64 (.int .u64 (m:Int)) Tz6Tab:=by
 rintro l J W hJ hY h0 hB;have hY':=fun pre (r:Nat) A (hj:J pre A) (hb:Blk A b 64 #[.int .u64 (r:Int)]) (hp:pre ++ [Lib.ctz 64 r] <+: setL m)=>hY pre (Lib.ctz 64 r) A _ hj hb hp;clear hY;refine callsIn_of_wp Tryz.func86 rfl trivial ?_ rfl;simp only[Tryz.ntmps86,List.size_toArray,List.length_cons,List.length_nil,Nat.reduceAdd,Nat.reduceSub,Array.replicate_succ,Array.replicate_zero,List.push_toArray,List.append_toArray,List.nil_append,List.cons_append]
 gi_wp2
 gi_loopw [3] (fun _ wr=> ∃(pre:List Nat) (r:Nat),r<18446744073709551616∧Hid (setL m=pre++setL r)∧J pre wr∧Blk wr b 64 #[.int .u64 (r:Int)]) (fun _ wr=>box6 b wr)
 case atStart=>exact⟨[],m,hm,h_ rfl,h0,hB⟩
 case round =>
  clear h0 hB hm;obtain⟨pre,r,hr,Hr,hj,hb⟩:=hrel;have bc:=hb.cell;have bf:=hb.frozen;by_cases hz:r=0
  ·subst hz
   gi_wp2
   go_end0
   have:=Hr.out;rw[setL_zero,List.append_nil] at this;exact⟨⟨_,rfl⟩,by rw[this];exact hj⟩
  ·have e1:((r:Int) != 0)=true:=by simp;omega
   have Hz:=h_ hz;have hY1:=hY' pre r wr hj hb (by rw[Hr.out,setL_step hz hr];exact⟨setL (r&&&(r-1)),by simp⟩);clear hY' hz;gi_wp2_with (refine⟨trivial,?_⟩;gi_at_call 87;refine(callsIn_wide.2 (tz6_c r Hz.out hr _ (hJ.good _ _ hj))).mono ?_;rintro e w1 ⟨rfl,hw1⟩;subst w1;obtain⟨fn,tmps,assign,body,hy,hR⟩:=hY1;dsimp only[encB6] at hy);refine hR.mono ?_;rintro e W3 ⟨rfl,hj3,hb3⟩;have hlt:=pred_lt6 Hz.out;obtain⟨q,hq⟩:=nm (r&&&(r-1));have hband:bits .and .u64 (r:Int) ((r:Int)-1)=(q:Int):=by
    have:=bits_and_u64_nat r (r-1) (by omega) (by omega);rw[hq] at this;rw[←this];congr 1;have:=Hz.out;omega
   have hr1:1≤(r:Int):=by have:=Hz.out;omega
   have Hr':Hid (setL m=(pre ++ [Lib.ctz 64 r])++setL q):=h_ (by rw[Hr.out,setL_step Hz.out hr,hq];simp);have hq1:q<r:=by rw[←hq];exact hlt
   clear hlt hq bc bf;have bc:=hb3.cell;have bf:=hb3.frozen;have hb4:=hb3.set_ 0 (.int .u64 (q:Int));have hj4:=hJ.box _ _ (.int .u64 (q:Int)) hj3
   gi_wp2
   go_roundw
   case rel=>exact⟨_,q,by omega,Hr',hj4,hb4⟩
   case measure =>
    rw[box6_eq hb4,box6_eq hb];omega
end Go.Proofs.YtojolpbpjimfgaaGreatDoor
