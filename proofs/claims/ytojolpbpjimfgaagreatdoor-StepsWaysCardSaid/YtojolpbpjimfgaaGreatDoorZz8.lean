/- Texts of the proof: SetC, SetsC, Chosen6, SameL, Map, Which, TurnD, Composed. -/
import Derived.Test.YtojolpbpjimfgaaGreatDoorZz2
import Derived.Test.YtojolpbpjimfgaaGreatDoorZz3
import Derived.Test.YtojolpbpjimfgaaGreatDoorZz7
import Derived.Laws.Bits64b
import Derived.Laws.ShiftsVarLaws
import Derived.Maps.Own
import Derived.WideKeyRuns
import Derived.RangeFuncNested
import Derived.RangeFuncBound
import Derived.RangeFuncCalls
import Derived.RangeFuncLeaves
import Derived.Shelf.Abstract
import Derived.Shelf.RegionOpen
import Derived.OwnWalkIn
import Derived.TacticsInMore
import Derived.LoopNIn
import Derived.LoopIn
namespace Go.Proofs.YtojolpbpjimfgaaGreatDoor
open Go.RowKit Go.Shelf
attribute [local go_sem] Oper.semAt_some
theorem bit_val{z i:Nat}(hz:z<18446744073709551616):bits .and .u64 ((z:Int) / 2 ^ i) 1=if z.testBit i then 1 else 0:=by
 have h1:z / 2 ^ i<18446744073709551616:=Nat.lt_of_le_of_lt (Nat.div_le_self _ _) hz
 have e:((z:Int) / 2 ^ i)=((z / 2 ^ i:Nat):Int):=by
  rw[Int.natCast_ediv,Int.natCast_pow]
  rfl
 rw[e,show(1:Int)=((1:Nat):Int) from rfl,bits_and_u64_nat _ 1 h1 (by decide),Nat.and_one_is_mod,Nat.testBit_eq_decide_div_mod_eq]
 have:=Nat.mod_two_eq_zero_or_one (z / 2 ^ i)
 rcases this with h|h <;> simp[h]
theorem or_val{z i:Nat}(hz:z<2 ^ 64)(hi:i<64):bits .or .u64 (z:Int) (IntKind.u64.wrap ((2:Int) ^ i))=((putN z i:Nat):Int):=by
 have h2:2 ^ i<2 ^ 64:=Nat.pow_lt_pow_right (by decide) hi
 have e:IntKind.u64.wrap ((2:Int) ^ i)=((2 ^ i:Nat):Int):=by
  rw[IntKind.wrap_u64,show((2:Int) ^ i)=((2 ^ i:Nat):Int) from(Int.natCast_pow 2 i).symm]
  obtain⟨p,hp⟩:=nm (2 ^ i)
  rw[hp] at h2 ⊢
  omega
 rw[e,bits_or_u64_nat z (2 ^ i) hz h2]
 rfl
set_option maxHeartbeats 1000000 in
theorem has6_c(z i:Nat)(hz:z<2 ^ 64)(hi:i<64)(w:World) :
  Calls Tryz.prog 33 #[.int .u64 z,.int .i64 i] w fun e w'=>e = .returned (.bool (z.testBit i))∧Ext w w':=by
 have hv:=bit_val (i:=i) hz
 have hm:min i 64=i:=by omega
 cases hb:z.testBit i
 ·rw[hb,if_neg (by decide)] at hv
  clear hb
  go_enter Tryz.func33,Tryz.ntmps33
  go_wp2_with fail
  go_ret
  exact⟨rfl,Ext.refl w⟩
 ·rw[hb,if_pos rfl] at hv
  clear hb
  go_enter Tryz.func33,Tryz.ntmps33
  go_wp2_with fail
  go_ret
  exact⟨rfl,Ext.refl w⟩
set_option maxHeartbeats 1000000 in
theorem with6_c(z i:Nat)(hz:z<2 ^ 64)(hi:i<64)(w:World) :
  Calls Tryz.prog 52 #[.int .u64 z,.int .i64 i] w fun e w'=>e = .returned (.int .u64 (putN z i:Nat))∧Ext w w':=by
 have hm:min i 64=i:=by omega
 have Hv:=h_ (or_val hz hi)
 clear hz
 go_enter Tryz.func52,Tryz.ntmps52
 go_wp2_with fail
 refine bodyPost_ret (v:= .int .u64 (putN z i:Nat)) (by simp[results,Tryz.results52,go_sem,Hv.out]) rfl ⟨rfl,Ext.refl w⟩
set_option maxHeartbeats 1000000 in
theorem all6_c(z:Nat)(w:World) :
  Calls Tryz.prog 58 #[.int .u64 z] w fun e w' =>
   e = .returned (.func (.func 86) #[] #[.pointer (some ⟨w.heap.size,0,none⟩)])∧Ext w w'∧Blk w' w.heap.size 64 #[.int .u64 z]∧w'.heap.size=w.heap.size+1:=by
 obtain⟨W1,hW1,E1,B1,hz1⟩:=mk_ w #[.int .u64 z] 64
 have Hz:=h_ hz1
 clear hz1
 go_enter Tryz.func58,Tryz.ntmps58
 go_wp2_with fail
 go_ret
 exact⟨rfl,E1,B1,Hz.out⟩
abbrev encB6(x:Nat):Array Value:= #[.int .i64 (x:Int)]
def box6(b:Nat)(w:World):Nat:=(intOf ((w.cell? ⟨b,0,none⟩).getD undef)).toNat
theorem box6_eq{b:Nat}{w:World}{t:TypeId}{r:Nat}(h:Blk w b t #[.int .u64 (r:Int)]):box6 b w=r:=by
 unfold box6
 rw[h.cell]
 simp[intOf]
set_option maxRecDepth 100000 in
set_option maxHeartbeats 2000000 in
theorem all61_c(m:Nat)(hm:m<2 ^ 64)(n b:Nat)(hn:1≤n) :
  BoxSeq n Tryz.prog 86 #[.pointer (some ⟨b,0,none⟩)] encB6 (setL m) b 64 (.int .u64 (m:Int)) Tz6Tab:=by
 rintro l J W hJ hY h0 hB
 have hY':=fun pre (r:Nat) A (hj:J pre A) (hb:Blk A b 64 #[.int .u64 (r:Int)]) (hp:pre ++ [Lib.ctz 64 r] <+: setL m)=>hY pre (Lib.ctz 64 r) A _ hj hb hp
 clear hY
 refine callsIn_of_wp Tryz.func86 rfl trivial ?_ rfl
 simp only[Tryz.ntmps86,List.size_toArray,List.length_cons,List.length_nil,Nat.reduceAdd,Nat.reduceSub,Array.replicate_succ,Array.replicate_zero,List.push_toArray,List.append_toArray,List.nil_append,List.cons_append]
 gi_wp2
 gi_loopw [3] (fun _ wr=> ∃(pre:List Nat) (r:Nat),r<18446744073709551616∧Hid (setL m=pre++setL r)∧J pre wr∧Blk wr b 64 #[.int .u64 (r:Int)]) (fun _ wr=>box6 b wr)
 case atStart=>exact⟨[],m,hm,h_ rfl,h0,hB⟩
 case round =>
  clear h0 hB hm
  obtain⟨pre,r,hr,Hr,hj,hb⟩:=hrel
  have bc:=hb.cell
  have bf:=hb.frozen
  by_cases hz:r=0
  ·subst hz
   gi_wp2
   go_end0
   have:=Hr.out
   rw[setL_zero,List.append_nil] at this
   exact⟨⟨_,rfl⟩,by rw[this];exact hj⟩
  ·have e1:((r:Int) != 0)=true:=by simp;omega
   have Hz:=h_ hz
   have hY1:=hY' pre r wr hj hb (by rw[Hr.out,setL_step hz hr];exact⟨setL (r&&&(r-1)),by simp⟩)
   clear hY' hz
   gi_wp2_with (refine⟨trivial,?_⟩;gi_at_call 87;refine(callsIn_wide.2 (tz6_c r Hz.out hr _ (hJ.good _ _ hj))).mono ?_;rintro e w1 ⟨rfl,hw1⟩;subst w1;obtain⟨fn,tmps,assign,body,hy,hR⟩:=hY1;dsimp only[encB6] at hy)
   refine hR.mono ?_
   rintro e W3 ⟨rfl,hj3,hb3⟩
   have hlt:=pred_lt6 Hz.out
   obtain⟨q,hq⟩:=nm (r&&&(r-1))
   have hband:bits .and .u64 (r:Int) ((r:Int)-1)=(q:Int):=by
    have:=bits_and_u64_nat r (r-1) (by omega) (by omega)
    rw[hq] at this
    rw[←this]
    congr 1
    have:=Hz.out
    omega
   have hr1:1≤(r:Int):=by have:=Hz.out;omega
   have Hr':Hid (setL m=(pre ++ [Lib.ctz 64 r])++setL q):=h_ (by rw[Hr.out,setL_step Hz.out hr,hq];simp)
   have hq1:q<r:=by rw[←hq];exact hlt
   clear hlt hq bc bf
   have bc:=hb3.cell
   have bf:=hb3.frozen
   have hb4:=hb3.set_ 0 (.int .u64 (q:Int))
   have hj4:=hJ.box _ _ (.int .u64 (q:Int)) hj3
   gi_wp2
   go_roundw
   case rel=>exact⟨_,q,by omega,Hr',hj4,hb4⟩
   case measure =>
    rw[box6_eq hb4,box6_eq hb]
    omega
end Go.Proofs.YtojolpbpjimfgaaGreatDoor
namespace Go.Proofs.YtojolpbpjimfgaaGreatDoor
open Go.RowKit
theorem hasZ_setI{n z:Nat}(hz:SetB n z)(hn:n≤64)(i:Nat):hasZ (setI z) (i:Int)=z.testBit i:=by
 rw[Bool.eq_iff_iff,hasZ_iff,←setL_of hz hn]
 unfold setI
 rw[List.mem_map]
 constructor
 ·rintro⟨j,h,e⟩
  have:j=i:=by omega
  exact this▸h
 ·exact fun h=>⟨i,h,rfl⟩
def numOf(l:List Int):Nat:=l.foldl (fun z x=>putN z x.toNat) 0
theorem numOf_snoc(l:List Int)(x:Int):numOf (l ++ [x])=putN (numOf l) x.toNat:=by simp[numOf]
theorem chosen_at6{l:List Int}{n:Int}(h:chosenB l n=true){k:Nat}(hk:k<l.length):0≤intAt l k∧intAt l k<n∧(0<k→intAt l (k-1)<intAt l k):=by
 have h1:=allR_at h hk
 unfold chOk at h1
 rw[Bool.and_eq_true,inB_iff,Bool.or_eq_true] at h1
 refine⟨h1.1.1,by omega,fun h0=> ?_⟩
 rcases h1.2 with h2|h2
 ·have:=of_decide_eq_true h2
  omega
 ·exact of_decide_eq_true h2
theorem take_num{l:List Int}{n:Nat}(hn:n≤64)(h:chosenB l n=true): ∀k,k≤l.length→setI (numOf (l.take k))=l.take k∧SetB n (numOf (l.take k)) ∧ ∀j,(numOf (l.take k)).testBit j=true→0<k∧(j:Int)≤intAt l (k-1)
 | 0,_=>by
  rw[List.take_zero]
  exact⟨by simp[numOf,setI,setL_zero],SetB.zero n,fun j hj=>by simp[numOf] at hj⟩
 | k+1,hk=>by
  obtain⟨h1,h2,h3⟩:=take_num hn h k (by omega)
  obtain⟨a1,a2,a3⟩:=chosen_at6 h (k:=k) (by omega)
  have hq:l[k]? = some l[k]:=List.getElem?_eq_getElem (by omega)
  have hv:=intAt_eq hq
  obtain⟨m,hm⟩:=Int.eq_ofNat_of_zero_le a1
  have ht:l.take (k+1)=l.take k ++ [intAt l k]:=by rw[List.take_add_one,hq,hv];rfl
  have hlt: ∀j,(numOf (l.take k)).testBit j=true→j<m:=fun j hj=>by
   obtain⟨b1,b2⟩:=h3 j hj
   have:=a3 b1
   omega
  rw[ht,numOf_snoc,hm,Int.toNat_natCast]
  refine⟨?_,h2.put (by omega),fun j hj=>⟨by omega,?_⟩⟩
  ·unfold setI at h1 ⊢
   rw[setL_put (by omega) hlt,List.map_append,h1]
   rfl
  ·rw[putN_bit,Bool.or_eq_true] at hj
   rw[Nat.add_sub_cancel,hm]
   rcases hj with hj|hj
   ·have:=hlt j hj
    omega
   ·have:=of_decide_eq_true hj
    omega
theorem chosen_set{l:List Int}{n:Nat}(hn:n≤64)(h:chosenB l n=true):setI (numOf l)=l∧SetB n (numOf l):=by
 have:=take_num hn h l.length (Nat.le_refl _)
 rw[List.take_length] at this
 exact⟨this.1,this.2.1⟩
theorem num_step{l:List Int}{n k:Nat}{q:Int}(hq:l[k]? = some q)(h0:0≤q∧q<n)(hs:SetB n (numOf (l.take k))): ∃v:Nat,q=v∧v<n∧numOf (l.take (k+1))=putN (numOf (l.take k)) v∧SetB n (numOf (l.take (k+1))):=by
 obtain⟨v,rfl⟩:=Int.eq_ofNat_of_zero_le h0.1
 have e:l.take (k+1)=l.take k ++ [(v:Int)]:=by rw[List.take_add_one,hq];rfl
 have hv:v<n:=by omega
 refine⟨v,rfl,hv,by rw[e,numOf_snoc,Int.toNat_natCast],?_⟩
 rw[e,numOf_snoc,Int.toNat_natCast]
 exact hs.put hv
def ChPost(l:List Int)(n:Nat)(w:World)(e:Ending)(w':World):Prop:=e = .returned (.tuple #[.int .u64 ((if chosenB l n then numOf l else 0:Nat):Int),.bool (chosenB l n)])∧Ext w w'
set_option maxRecDepth 100000 in
set_option maxHeartbeats 8000000 in
theorem chosen6_c(A:Option Addr)(ca:Nat)(l:List Int)(n:Nat)(w:World)(hs:IntsZ w A ca l)(hn:n≤60) :
  Calls Tryz.prog 27 #[.slice A l.length ca,.int .i64 n] w (ChPost l n w):=by
 have hl:l.length≤9223372036854775807:=by have:=hs.len;unfold maxLen at this;omega
 go_enter Tryz.func27,Tryz.ntmps27
 go_wp2_with fail
 go_loopw [6,11] (fun sv i wr=> ∃k:Nat,k≤l.length∧i = .int .i64 k∧sv = .int .u64 (numOf (l.take k):Nat)∧Hid (SetB n (numOf (l.take k)))∧Hid (∀j,j<k→chOk l n j=true)∧Ext w wr) (fun _ i _=>l.length-(intOf i).toNat)
 case atStart=>exact⟨0,by omega,rfl,rfl,h_ (SetB.zero n),h_ (fun j hj=>by omega),Ext.refl w⟩
 case round =>
  obtain⟨k,hk,rfl,rfl,HS,Hj,E⟩:=hrel
  by_cases hlt:k<l.length
  ·obtain⟨g,off,q,rfl,hq,hg,c0⟩:=hs.at_ hlt
   have e0:=E.cell c0
   have hle:=hs.le
   have Hq:=h_ hq
   clear c0 hq
   have i1:(0:Int)≤k:=by omega
   have i2:(k:Int)<l.length:=by omega
   have i3:(k:Int)<ca:=by omega
   by_cases h0:0≤q∧q<n
   rotate_left
   ·have Hf:=h_ (chOk_out Hq.out h0)
    by_cases h1:q<0
    ·have h2:decide (q<0)=true:=by simp;omega
     clear h0
     have Hv:=h_ (show chosenB l n=false from chosen_bad hlt Hf.out)
     go_wp2_with fail
     go_ret2
     exact⟨by rw[Hv.out];rfl,E⟩
    ·have h2:decide (q<0)=false:=by simp;omega
     have h3:(n:Int)≤q:=by omega
     have h4:decide ((n:Int)≤q)=true:=by simp;omega
     clear h0
     have Hv:=h_ (show chosenB l n=false from chosen_bad hlt Hf.out)
     go_wp2_with fail
     go_ret2
     exact⟨by rw[Hv.out];rfl,E⟩
   ·obtain⟨ha,hb⟩:=h0
    have h2:decide (q<0)=false:=by simp;omega
    have h3: ¬(n:Int)≤q:=by omega
    have h4:decide ((n:Int)≤q)=false:=by simp;omega
    have h5: ¬q<0:=by omega
    by_cases hk0:k=0
    ·have Hf:=h_ (show chOk l n k=true by have:=Hq.out;subst hk0;exact chOk_zero this ⟨ha,hb⟩)
     have q3: ¬(0:Int)<(k:Int):=by omega
     have q4:decide (0<k)=false:=by simp;omega
     clear hk0
     obtain⟨v,rfl,hvn,hnx,hsn⟩:=num_step Hq.out ⟨ha,hb⟩ HS.out
     have WC:=fun W=>with6_c (numOf (l.take k)) v ((HS.out.mono (show n≤64 by omega)).lt) (by omega) W
     rw[←hnx] at WC
     have Hsn:=h_ hsn
     clear hsn hnx
     go_wp2_with fail
     refine(WC _).mono ?_
     rintro e W1 ⟨rfl,E1⟩
     go_wp2_with fail
     go_roundw
     case rel=>exact⟨k+1,by omega,by go_num,rfl,Hsn,h_ (fun j hj=>by rcases Nat.lt_or_ge j k with h|h;exact Hj.out j h;rw[show j=k by omega];exact Hf.out),E.trans E1⟩
     case measure=>simp[intOf];omega
    ·obtain⟨g',off',r,hA',hr,hg',c1⟩:=hs.at_ (k:=k-1) (by omega)
     cases hA'
     have e1:=E.cell c1
     have Hf0:=h_ (chOk_next Hq.out hk0 hr ⟨ha,hb⟩)
     clear c1 hr
     have q3:(0:Int)<(k:Int):=by omega
     have q4:decide (0<k)=true:=by simp;omega
     have q5:decide ((0:Int)<(k:Int))=true:=by simp;omega
     have ht:((k:Int)-1).toNat=k-1:=by omega
     have hk1:(1:Int)≤k:=by omega
     have q6:(k:Int)-1<l.length:=by omega
     have q7:(0:Int)≤(k:Int)-1:=by omega
     by_cases hrq:r<q
     ·have g1: ¬q≤r:=by omega
      have g2:decide (q≤r)=false:=by simp;omega
      have Hf:=h_ (show chOk l n k=true by rw[Hf0.out];simp;omega)
      clear hk0 hrq
      obtain⟨v,rfl,hvn,hnx,hsn⟩:=num_step Hq.out ⟨ha,hb⟩ HS.out
      have WC:=fun W=>with6_c (numOf (l.take k)) v ((HS.out.mono (show n≤64 by omega)).lt) (by omega) W
      rw[←hnx] at WC
      have Hsn:=h_ hsn
      clear hsn hnx
      go_wp2_with fail
      refine(WC _).mono ?_
      rintro e W1 ⟨rfl,E1⟩
      go_wp2_with fail
      go_roundw
      case rel=>exact⟨k+1,by omega,by go_num,rfl,Hsn,h_ (fun j hj=>by rcases Nat.lt_or_ge j k with h|h;exact Hj.out j h;rw[show j=k by omega];exact Hf.out),E.trans E1⟩
      case measure=>simp[intOf];omega
     ·have g1:q≤r:=by omega
      have g2:decide (q≤r)=true:=by simp;omega
      have Hf:=h_ (show chOk l n k=false by rw[Hf0.out];simp;omega)
      clear hk0 hrq
      have Hv:=h_ (show chosenB l n=false from chosen_bad hlt Hf.out)
      go_wp2_with fail
      go_ret2
      exact⟨by rw[Hv.out];rfl,E⟩
  ·obtain rfl:k=l.length:=by omega
   have Hv:=h_ (show chosenB l n=true from chosen_good Hj.out)
   rw[List.take_length]
   go_wp2_with fail
   go_ret2
   exact⟨by rw[Hv.out];rfl,E⟩
def eqC(a b:List Pt):Bool:=decide (a.length=b.length)&&allR a.length fun i=>(ptAt a i).eqB (ptAt b i)
/-! Knobs. -/
def Knb.eqB(a b:Knb):Bool:=a.at_.eqB b.at_&&(a.dir==b.dir&&a.sort==b.sort)
theorem Knb.eqB_iff{a b:Knb}:a.eqB b=true↔a=b:=by
 obtain⟨p,d,s⟩:=a
 obtain⟨q,e,t⟩:=b
 unfold Knb.eqB
 simp only[Bool.and_eq_true,beq_iff_eq,Pt.eqB_iff,Knb.mk.injEq]
theorem Knb.eqB_comm(p q:Knb):p.eqB q=q.eqB p:=by rw[Bool.eq_iff_iff,Knb.eqB_iff,Knb.eqB_iff];exact eq_comm
def hasK(l:List Knb)(p:Knb):Bool:=l.any fun q=>q.eqB p
def KnobsR(w:World)(A:Option Addr)(cap:Nat)(l:List Knb):Prop:=SliceIs w A l.length cap 5 (l.map Knb.cs)
theorem KnobsR.ext{w w':World}{A:Option Addr}{cap:Nat}{l:List Knb}(h:KnobsR w A cap l)(e:Ext w w'):KnobsR w' A cap l:=SliceIs.ext h e
theorem KnobsR.len{w:World}{A:Option Addr}{cap:Nat}{l:List Knb}(h:KnobsR w A cap l):l.length≤maxLen:=Nat.le_trans h.le h.small
theorem KnobsR.at_{w:World}{A:Option Addr}{cap:Nat}{l:List Knb}(h:KnobsR w A cap l){k:Nat}(hk:k<l.length) :
  ∃b off p,A=some ⟨b,off,none⟩∧l[k]? = some p∧b<w.heap.size∧w.cell? ⟨b,off+k*5,none⟩=some (.int .i64 p.at_.x)∧w.cell? ⟨b,off+k*5+1,none⟩=some (.int .i64 p.at_.y) ∧
   w.cell? ⟨b,off+k*5+2,none⟩=some (.int .i64 p.at_.z)∧w.cell? ⟨b,off+k*5+3,none⟩=some (.int .u8 p.dir)∧w.cell? ⟨b,off+k*5+4,none⟩=some (.int .u8 p.sort):=by
 obtain⟨b,off,hA,hb,hc⟩:=SliceIs.cells h (by omega)
 have hget:l[k]? = some l[k]:=List.getElem?_eq_getElem hk
 have hr:(l.map Knb.cs)[k]? = some l[k].cs:=by rw[List.getElem?_map,hget];rfl
 exact⟨b,off,l[k],hA,hget,hb,hc k _ hr 0 _ rfl,hc k _ hr 1 _ rfl,hc k _ hr 2 _ rfl,hc k _ hr 3 _ rfl,hc k _ hr 4 _ rfl⟩
/-! SameKnobs. -/
def subK(a b:List Knb):Bool:=allR a.length fun i=>hasK b (knbAt a i)
def sameK(a b:List Knb):Bool:=decide (a.length=b.length)&&subK a b
/-! ### lists of pairs -/
section
variable {K V:Type} [DecidableEq K]
def lookAt:List (K×V)→K→Nat→Option (Nat×V)
 | [],_,_=>none
 | p::m,x,i=>if x=p.1 then some (i,p.2) else lookAt m x (i+1)
def getK:List (K×V)→K→Option V
 | [],_=>none
 | p::m,x=>if x=p.1 then some p.2 else getK m x
def putK:List (K×V)→K→V→List (K×V)
 | [],x,v=> [(x,v)]
 | p::m,x,v=>if x=p.1 then(x,v)::m else p::putK m x v
theorem getK_putK(m:List (K×V))(x y:K)(v:V):getK (putK m x v) y=if y=x then some v else getK m y:=by
 induction m with
 | nil=>rfl
 | cons p m ih =>
  unfold putK
  by_cases h:x=p.1
  ·rw[if_pos h]
   unfold getK
   simp only
   by_cases hy:y=x
   ·rw[if_pos hy,if_pos hy]
   ·rw[if_neg hy,if_neg hy,if_neg (by rw[←h];exact hy)]
  ·rw[if_neg h]
   unfold getK
   rw[ih]
   by_cases hy:y=p.1
   ·rw[if_pos hy,if_pos hy,if_neg (fun e=>h (by rw[←e,hy]))]
   ·rw[if_neg hy,if_neg hy]
theorem lookAt_getK(m:List (K×V))(x:K)(i:Nat):(lookAt m x i).map (·.2)=getK m x:=by
 induction m generalizing i with
 | nil=>rfl
 | cons p m ih =>
  unfold lookAt getK
  split
  ·rfl
  ·exact ih _
theorem lookAt_none{m:List (K×V)}{x:K}{i:Nat}(h:lookAt m x i=none)(v:V):putK m x v=m ++ [(x,v)]:=by
 induction m generalizing i with
 | nil=>rfl
 | cons p m ih =>
  unfold lookAt at h
  unfold putK
  split at h
  ·cases h
  ·rename_i hx
   rw[if_neg hx,ih h]
   rfl
theorem lookAt_some{m:List (K×V)}{x:K}{i j:Nat}{u:V}(h:lookAt m x i=some (j,u))(v:V): ∃k,j=i+k∧m[k]? = some (x,u)∧putK m x v=m.set k (x,v):=by
 induction m generalizing i with
 | nil=>cases h
 | cons p m ih =>
  unfold lookAt at h
  unfold putK
  split at h
  ·rename_i hx
   cases h
   refine⟨0,rfl,?_,?_⟩
   ·rw[hx]
    rfl
   ·rw[if_pos hx]
    rfl
  ·rename_i hx
   obtain⟨k,rfl,h1,h2⟩:=ih h
   refine⟨k+1,by omega,h1,?_⟩
   rw[if_neg hx,h2]
   rfl
theorem putK_keys(m:List (K×V))(x:K)(v:V)(h:(m.map (·.1)).Nodup):((putK m x v).map (·.1)).Nodup:=by
 cases hl:lookAt m x 0 with
 | none =>
  rw[lookAt_none hl]
  have hx: ∀(m:List (K×V)) (i:Nat),lookAt m x i=none→x ∉ m.map (·.1):=by
   intro m
   induction m with
   | nil=>intro _ _;simp
   | cons p m ih =>
    intro i hi
    unfold lookAt at hi
    split at hi
    ·cases hi
    ·rename_i hne
     simp only[List.map_cons,List.mem_cons,not_or]
     exact⟨hne,ih _ hi⟩
  rw[List.map_append,List.nodup_append]
  refine⟨h,by simp,fun a ha b hb=> ?_⟩
  simp only[List.map_cons,List.map_nil,List.mem_singleton] at hb
  rintro rfl
  subst hb
  exact hx m 0 hl ha
 | some r =>
  obtain⟨j,u⟩:=r
  obtain⟨k,_,h1,h2⟩:=lookAt_some hl v
  rw[h2]
  have:(m.set k (x,v)).map (·.1)=m.map (·.1):=by
   apply List.ext_getElem?
   intro i
   simp only[List.getElem?_map,List.getElem?_set]
   split
   ·subst_vars
    rw[h1]
    split <;> simp_all
   ·rfl
  rw[this]
  exact h
end
/-! ### in memory -/
structure KeyEnc(P:Program)(k:TypeId){K:Type}[DecidableEq K](enc:K→Value):Prop where
 wide:(match P.underlying k with|some (.array _ _)|some (.struct _)=>true|_=>false)=true
 eq: ∀w x y,(Op.equal k (enc x) (enc y)).run P w = .ok (decide (x=y)) w
 check: ∀w em x,(Instr.checkKey em 10000 k (enc x)).run P w = .ok () w
 same: ∀x,Instr.sameBits 10000 (enc x) (enc x)=true
section
variable {P:Program} {k:TypeId} {K V:Type} {enc:K→Value} {ev:V→Value}
def MapOf(enc:K→Value)(ev:V→Value)(w:World)(b:Nat)(m:List (K×V)):Prop :=
 ∃es clock,w.heap[b]? = some (.map es clock)∧es.toList.map (fun e=>(e.key,e.val))=m.map (fun p=>(enc p.1,ev p.2))∧(∀e∈es.toList,e.born<clock)∧(es.toList.map (·.born)).Nodup
theorem MapOf.lt{w:World}{b:Nat}{m:List (K×V)}(h:MapOf enc ev w b m):b<w.heap.size:=by
 obtain⟨es,clock,hb,_⟩:=h
 exact(Array.getElem?_eq_some_iff.1 hb).1
theorem MapOf.ext{w w':World}{b:Nat}{m:List (K×V)}(h:MapOf enc ev w b m)(E:Ext w w'):MapOf enc ev w' b m:=by
 have hlt:=h.lt
 obtain⟨es,clock,hb,r⟩:=h
 exact⟨es,clock,(Below.block E b hlt).trans hb,r⟩
theorem MapOf.grown{w w':World}{b:Nat}{m:List (K×V)}{row:Option Nat}(h:MapOf enc ev w b m)(g:w.grownBy w' row)(hr:some b≠row):MapOf enc ev w' b m:=by
 have hlt:=h.lt
 obtain⟨es,clock,hb,r⟩:=h
 exact⟨es,clock,(g.block b hlt hr).trans hb,r⟩
theorem MapOf.made(w:World):MapOf enc ev (w.alloc (.map #[] 0)) w.heap.size ([]:List (K×V)) :=
 ⟨#[],0,(MapKept.heap_alloc w _).1,rfl,by simp,by simp⟩
theorem mapbox_(enc:K→Value)(ev:V→Value)(w:World): ∃W,w.alloc (.map #[] 0)=W∧Ext w W∧MapOf enc ev W w.heap.size []∧W.heap.size=w.heap.size+1 :=
 ⟨_,rfl,(Ext.refl w).alloc _,MapOf.made w,by simp⟩
variable [DecidableEq K]
theorem find_run(E:KeyEnc P k enc)(w:World)(x:K): ∀(es:List MapEntry) (m:List (K×V)) (i:Nat),es.map (fun e=>(e.key,e.val))=m.map (fun p=>(enc p.1,ev p.2)) →
  (Instr.findAsking k (enc x) es i).run P w = .ok ((lookAt m x i).map fun r=>(r.1,ev r.2)) w
 | [],[],i,_=>by simp[Instr.findAsking,lookAt]
 | [],p::m,_,h=>by simp at h
 | e::es,[],_,h=>by simp at h
 | e::es,p::m,i,h=>by
  simp only[List.map_cons,List.cons.injEq,Prod.mk.injEq] at h
  obtain⟨⟨h1,h2⟩,h3⟩:=h
  have ih:=find_run E w x es m (i+1) h3
  unfold lookAt
  by_cases hx:x=p.1
  ·simp[Instr.findAsking,h1,E.eq,hx,h2]
  ·simp[Instr.findAsking,h1,E.eq,hx,ih]
theorem lookup_run(E:KeyEnc P k enc){t e:TypeId}(ht:P.underlying t=some (.map k e)){w:World}{z:Value}(hz:(zeroValue e).run P w = .ok z w){b:Nat}{m:List (K×V)}(h:MapOf enc ev w b m)(x:K)(ok:Bool) :
  (Instr.lookup t (.map (some b)) (enc x) ok).run P w = .ok (match getK m x with
   | some v=>if ok then .tuple #[ev v,.bool true] else ev v
   | none=>if ok then .tuple #[z,.bool false] else z) w:=by
 obtain⟨es,clock,hb,hm,_⟩:=h
 have hf:=find_run E w x es.toList m 0 hm
 rw[←run_findKey_eq w E.wide] at hf
 rw[←lookAt_getK m x 0]
 cases hl:lookAt m x 0 with
 | none =>
  rw[hl] at hf
  simp[Instr.lookup,run_underlying ht,MapKept.run_getObj_map hb,E.check,hf,hz,Result.andThen]
 | some r =>
  rw[hl] at hf
  simp[Instr.lookup,run_underlying ht,MapKept.run_getObj_map hb,E.check,hf,Result.andThen]
theorem update_run(E:KeyEnc P k enc){t e:TypeId}(ht:P.underlying t=some (.map k e)){w:World}{b:Nat}{m:List (K×V)}(h:MapOf enc ev w b m)(x:K)(v:V) :
  ∃w',(Instr.mapUpdate t (.map (some b)) (enc x) (ev v)).run P w = .ok () w'∧MapOf enc ev w' b (putK m x v)∧w.grownBy w' (some b)∧w'.heap.size=w.heap.size:=by
 obtain⟨es,clock,hb,hm,hs1,hs2⟩:=h
 have hf:=find_run E w x es.toList m 0 hm
 rw[←run_findKey_eq w E.wide] at hf
 have grown: ∀o,w.grownBy (ChangeMaps.setBlock w b o) (some b):=fun o=>⟨rfl,rfl,rfl,by simp[ChangeMaps.setBlock],fun i _ hi=>ChangeMaps.heap_setBlock_other hb _ (fun e=>hi (by rw[e]))⟩
 have hsz: ∀o,(ChangeMaps.setBlock w b o).heap.size=w.heap.size:=fun o=>by simp[ChangeMaps.setBlock]
 cases hl:lookAt m x 0 with
 | none =>
  rw[hl] at hf
  refine⟨ChangeMaps.setBlock w b (.map (es.push { key:=enc x,val:=ev v,born:=clock }) (clock+1)),?_,⟨_,_,ChangeMaps.heap_setBlock_same hb _,?_,?_,?_⟩,grown _,hsz _⟩
  ·simp[Instr.mapUpdate,run_underlying ht,MapKept.run_getObj_map hb,E.check,hf,MapKept.run_setObj_map _ hb,Result.andThen,ChangeMaps.setBlock]
  ·rw[lookAt_none hl]
   simp[hm]
  ·intro y hy
   simp only[Array.toList_push,List.mem_append,List.mem_singleton] at hy
   rcases hy with hy|rfl
   ·exact Nat.lt_succ_of_lt (hs1 y hy)
   ·exact Nat.lt_succ_self _
  ·simp only[Array.toList_push,List.map_append,List.map_cons,List.map_nil]
   refine List.nodup_append.2 ⟨hs2,by simp,?_⟩
   intro a ha b hb
   simp only[List.mem_singleton] at hb
   subst hb
   obtain⟨y,hy,rfl⟩:=List.mem_map.1 ha
   exact Nat.ne_of_lt (hs1 y hy)
 | some r =>
  obtain⟨j,u⟩:=r
  rw[hl] at hf
  obtain⟨j',hj',h1,h2⟩:=lookAt_some hl v
  obtain rfl:j=j':=by omega
  have hlen:es.toList.length=m.length:=by
   have:=congrArg List.length hm
   simpa using this
  have hjl:j<es.toList.length:=by
   rw[hlen]
   exact(List.getElem?_eq_some_iff.1 h1).1
  have hjm:(es.toList.map (fun e=>(e.key,e.val)))[j]? = some (enc x,ev u):=by
   rw[hm,List.getElem?_map,h1]
   rfl
  obtain⟨e0,hej⟩: ∃e0,es.toList[j]? = some e0:=⟨_,List.getElem?_eq_getElem hjl⟩
  have hmem:e0∈es.toList:=List.mem_of_getElem? hej
  have hkey:e0.key=enc x:=by
   rw[List.getElem?_map,hej] at hjm
   simp only[Option.map_some,Option.some.injEq,Prod.mk.injEq] at hjm
   exact hjm.1
  have hej':es[j]? = some e0:=by rw[←hej];simp
  have hlist:(es.modify j (fun e'=>{ e' with key:=enc x,val:=ev v })).toList=es.toList.set j { e0 with key:=enc x,val:=ev v }:=by
   rw[Array.toList_modify,ChangeMaps.modify_eq_set _ _ _ _ hej]
  refine⟨ChangeMaps.setBlock w b (.map (es.modify j (fun e'=>{ e' with key:=enc x,val:=ev v })) clock),?_,⟨_,_,ChangeMaps.heap_setBlock_same hb _,?_,?_,?_⟩,grown _,hsz _⟩
  ·simp[Instr.mapUpdate,run_underlying ht,MapKept.run_getObj_map hb,E.check,hf,hej',hkey,Instr.keyThatStays,E.same,MapKept.run_setObj_map _ hb,Result.andThen,ChangeMaps.setBlock]
  ·rw[hlist,h2,List.map_set,List.map_set,hm]
  ·intro y hy
   rw[hlist] at hy
   rcases List.mem_or_eq_of_mem_set hy with hy|rfl
   ·exact hs1 y hy
   ·exact hs1 e0 hmem
  ·rw[hlist,List.map_set]
   have:(es.toList.map (·.born)).set j e0.born=es.toList.map (·.born):=by
    apply List.ext_getElem?
    intro i
    rw[List.getElem?_set]
    split
    ·rename_i hji
     subst hji
     rw[if_pos (by simpa using hjl),List.getElem?_map,hej]
     rfl
    ·rfl
   rw[this]
   exact hs2
theorem wpList_put(E:KeyEnc P k enc){w:World}{ops:Array Oper}{rest:List Oper}{o:Oper}{a:Act}{Q:Exit→Act→World→Prop}
  (hg:o.guard=none) (mo xo vo:Operand) (t:TypeId) (hop:o.op=Op.mapUpdate t mo xo vo) (e:TypeId) (ht:P.underlying t=some (.map k e)) (b:Nat) (m:List (K×V)) (x:K) (v:V)
  (hm:a.eval mo = .map (some b)) (hown:MapOf enc ev w b m) (hx:a.eval xo=enc x) (hv:a.eval vo=ev v)
  (hK: ∀w',MapOf enc ev w' b (putK m x v)→w.grownBy w' (some b)→w'.heap.size=w.heap.size→wpList P ops Q rest (a.put o.dst undef) w'):wpList P ops Q (o::rest) a w:=by
 refine wpList_plain hg fun K' hK'=> ?_
 obtain⟨w',hrun,r1,r2,r3⟩:=update_run E ht hown x v
 unfold Oper.wp
 simp[execOp,hop,hm,hx,hv,hrun,Result.andThen]
 exact hK' _ _ (hK w' r1 r2 r3)
end
end Go.Proofs.YtojolpbpjimfgaaGreatDoor
namespace Go.Proofs.YtojolpbpjimfgaaGreatDoor
open Go.RowKit Go.Shelf
attribute [local go_sem] Oper.semAt_some
theorem ext_keeps{A B:World}(h:Ext A B):KeepsOthers A B:=⟨h.size,fun k _ hk _=>(h.block k (Array.getElem?_eq_some_iff.1 hk).1).trans hk⟩
def p123:Pt:=⟨1,2,3⟩
def at123(n:Nat):Value:= .agg #[.int .i64 (turnS p123 n).x,.int .i64 (turnS p123 n).y,.int .i64 (turnS p123 n).z]
abbrev encW(x:Fin 24):Array Value:= #[.int .i64 (x.val:Int),at123 x.val]
def upto(k:Nat):List (Fin 24):=(List.finRange 24).take k
end Go.Proofs.YtojolpbpjimfgaaGreatDoor
namespace Go.Proofs.YtojolpbpjimfgaaGreatDoor
open Go.RowKit
def turnOk(p:Pt)(n:Int):Prop:=nearB p (-2000) 2000=true∧0≤n∧n<24
def dirT(d n:Nat):Nat:=((List.range 6).find? fun i=>(stepS i).eqB (turnS (stepS d) n)).getD 0
theorem dirT_all: ∀d,d<6 → ∀n,n<24→(dirT d n<6∧Pt.eqB (stepS (dirT d n)) (turnS (stepS d) n)=true):=by decide +kernel
theorem dirT_lt{d n:Nat}(hd:d<6)(hn:n<24):dirT d n<6:=(dirT_all d hd n hn).1
theorem dirT_eq{d n:Nat}(hd:d<6)(hn:n<24):turnS (stepS d) n=stepS (dirT d n):=(Pt.eqB_iff.1 (dirT_all d hd n hn).2).symm
set_option maxHeartbeats 1600000 in
theorem pointed_c(d n:Nat)(hd:d<6)(hn:n<24)(w:World) :
  Calls Tryz.prog 137 #[.int .i64 d,.int .i64 n] w fun e w'=>e = .returned (.int .i64 (dirT d n))∧Ext w w':=by
 have hlt:=dirT_lt hd hn
 have He:=h_ (dirT_eq hd hn)
 go_enter Tryz.func137,Tryz.ntmps137
 go_wp2_with fail
 refine(rstep_c d hd _).mono ?_
 rintro e w1 ⟨rfl,E1⟩
 go_wp2_with fail
 refine(turned_c (stepS d).x (stepS d).y (stepS d).z n _ hn (stepS_ok d)).mono ?_
 rintro e w2 ⟨rfl,E2⟩
 rw[show turnS ⟨(stepS d).x,(stepS d).y,(stepS d).z⟩ n=stepS (dirT d n) from He.out]
 obtain⟨g,hg⟩:=nm (dirT d n)
 have Hg:=h_ hg
 rw[hg] at hlt ⊢
 clear hg
 obtain⟨W,hW,E,ba,hz⟩:=boxes1 w2 #[.int .i64 (stepS g).x,.int .i64 (stepS g).y,.int .i64 (stepS g).z] 124
 have B:Blk W w2.heap.size 124 #[.int .i64 (stepS g).x,.int .i64 (stepS g).y,.int .i64 (stepS g).z]:=by rw[←hW];exact Blk.new _ _ _
 go_wp2_with fail
 go_loopw [6] (fun i wr=> ∃k:Nat,k≤g∧i = .int .i64 k∧Ext W wr) (fun i _=>6-(intOf i).toNat)
 case atStart=>exact⟨0,by omega,rfl,Ext.refl _⟩
 case round =>
  obtain⟨k,hk,rfl,E3⟩:=hrel
  have c:=(B.ext E3).cell
  have hq: ∀w,(binOp .eql 124 (.agg #[.int .i64 (stepS k).x,.int .i64 (stepS k).y,.int .i64 (stepS k).z]) (.agg #[.int .i64 (stepS g).x,.int .i64 (stepS g).y,.int .i64 (stepS g).z])).run Tryz.prog w = .ok (.bool (decide (k=g))) w:=fun w=>by
   rw[pt_eql]
   have:Pt.eqB (stepS k) (stepS g)=decide (k=g):=by
    by_cases h:k=g
    ·subst h
     simp[Pt.eqB]
    ·simp only[h,decide_false]
     rw[Bool.eq_false_iff]
     intro h'
     exact h (stepS_inj (by omega) hlt (Pt.eqB_iff.1 h'))
   exact congrArg (fun b=>Result.ok (Value.bool b) w) this
  by_cases hkd:k=g
  ·have hkd':decide (k=g)=true:=by simp[hkd]
   simp only[hkd'] at hq
   clear hkd'
   have Hkd:=h_ hkd
   clear hkd
   go_wp2
   refine wp_region_grow (by kernel_rfl) (by kernel_rfl) ?_
   repeat (go_big_quiet_step ((go_at_call 138;exact quiet_ext (rstep_c k (by omega) _))))
   refine wpQuiet_nil ?_
   intro W2 hW2
   have E4:Ext wr W2:=by
    obtain⟨x,rfl⟩:=hW2
    exact(Ext.refl _).grow x
   clear hW2
   go_wp2
   go_ret
   exact⟨by rw[Hg.out,Hkd.out];rfl,((((E1.trans E2).trans E).trans E3).trans E4)⟩
  ·have hkd':decide (k=g)=false:=by simp[hkd]
   simp only[hkd'] at hq
   clear hkd'
   go_wp2
   refine wp_region_grow (by kernel_rfl) (by kernel_rfl) ?_
   repeat (go_big_quiet_step ((go_at_call 138;exact quiet_ext (rstep_c k (by omega) _))))
   refine wpQuiet_nil ?_
   intro W2 hW2
   have E4:Ext wr W2:=by
    obtain⟨x,rfl⟩:=hW2
    exact(Ext.refl _).grow x
   clear hW2
   go_wp2
   go_roundw
   case rel=>exact⟨k+1,by omega,by go_num,E3.trans E4⟩
   case measure=>simp[intOf];omega
def compB(a b n:Nat):Bool:=Pt.eqB (turnS ⟨1,0,0⟩ n) (turnS (turnS ⟨1,0,0⟩ a) b)&&Pt.eqB (turnS ⟨0,1,0⟩ n) (turnS (turnS ⟨0,1,0⟩ a) b)
def compT(a b:Nat):Nat:=((List.range 24).find? (compB a b)).getD 0
end Go.Proofs.YtojolpbpjimfgaaGreatDoor
