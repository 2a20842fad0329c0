/- Texts of the proof: Chosen, Great3, Sets, Tz6, BoxIter. -/
import Derived.Test.YtojolpbpjimfgaaGreatDoorZz1
import Derived.Test.YtojolpbpjimfgaaGreatDoorZz2
import Derived.Test.YtojolpbpjimfgaaGreatDoorZz6
import Derived.Lib.TrailingZeros
import Derived.Shelf.Spec.TrailingZeros
import Derived.RangeFuncNested
import Derived.RangeFuncBound
import Derived.RangeFuncCalls
import Derived.RangeFuncLeaves
import Derived.Shelf.Abstract
import Derived.Shelf.RegionOpen
import Derived.OwnWalkIn
import Derived.TacticsInMore
import Derived.LoopNIn
import Derived.LoopIn
namespace Go.Proofs.YtojolpbpjimfgaaGreatDoor
open Go.RowKit
def chOk(l:List Int)(n:Int)(i:Nat):Bool:=inB 0 (n-1) (intAt l i)&&(decide (i=0)||decide (intAt l (i-1)<intAt l i))
def chosenB(l:List Int)(n:Int):Bool:=allR l.length (chOk l n)
theorem chosen_bad{l:List Int}{n:Int}{k:Nat}(hk:k<l.length)(h:chOk l n k=false):chosenB l n=false:=allR_bad hk h
theorem chosen_good{l:List Int}{n:Int}(h: ∀j,j<l.length→chOk l n j=true):chosenB l n=true:=allR_good h
theorem chOk_out{l:List Int}{n:Int}{k:Nat}{p:Int}(hp:l[k]? = some p)(h: ¬(0≤p∧p<n)):chOk l n k=false:=by
 unfold chOk
 rw[intAt_eq hp,inB_not.2 (by omega),Bool.false_and]
theorem chOk_zero{l:List Int}{n:Int}{p:Int}(hp:l[0]? = some p)(h:0≤p∧p<n):chOk l n 0=true:=by
 unfold chOk
 rw[intAt_eq hp,inB_iff.2 (by omega)]
 rfl
theorem chOk_next{l:List Int}{n:Int}{k:Nat}{p r:Int}(hp:l[k]? = some p)(hk:k≠0)(hr:l[k-1]? = some r)(h:0≤p∧p<n):chOk l n k=decide (r<p):=by
 unfold chOk
 rw[intAt_eq hp,intAt_eq hr,inB_iff.2 (by omega),decide_eq_false hk,Bool.true_and,Bool.false_or]
def hasZ(l:List Int)(n:Int):Bool:=l.any fun x=>x==n
theorem hasZ_iff{l:List Int}{n:Int}:hasZ l n=true↔n∈l:=by
 unfold hasZ
 rw[List.any_eq_true]
 exact⟨fun⟨q,h,e⟩=>(beq_iff_eq.1 e)▸h,fun h=>⟨n,h,beq_self_eq_true n⟩⟩
theorem hasZ_drop{l:List Int}{p q:Int}{k:Nat}(h:l[k]? = some q):hasZ (l.drop k) p=(q==p||hasZ (l.drop (k+1)) p):=by
 obtain⟨hk,hn⟩:=List.getElem?_eq_some_iff.1 h
 rw[List.drop_eq_getElem_cons hk,hn]
 rfl
theorem hasZ_none{l:List Int}{p:Int}{k:Nat}(h:l.length≤k):hasZ (l.drop k) p=false:=by
 rw[List.drop_of_length_le h]
 rfl
theorem within3_c(n lo hi:Int)(w:World):Calls Tryz.prog 67 #[.int .i64 n,.int .i64 lo,.int .i64 hi] w fun e w'=>e = .returned (.bool (inB lo hi n))∧Ext w w':=by
 by_cases h1:lo≤n
 ·by_cases h2:n≤hi
  ·have Hv:=h_ (inB_iff.2 ⟨h1,h2⟩)
   have h3:n≥lo:=h1
   go_enter Tryz.func67,Tryz.ntmps67
   go_wp2_with fail
   go_ret
   exact⟨by rw[Hv.out];rfl,Ext.refl w⟩
  ·have Hv:=h_ (inB_not (lo:=lo) (hi:=hi) (n:=n) |>.2 (fun h=>h2 h.2))
   go_enter Tryz.func67,Tryz.ntmps67
   go_wp2_with fail
   go_ret
   exact⟨by rw[Hv.out];rfl,Ext.refl w⟩
 ·have Hv:=h_ (inB_not (lo:=lo) (hi:=hi) (n:=n) |>.2 (fun h=>h1 h.1))
  go_enter Tryz.func67,Tryz.ntmps67
  go_wp2_with fail
  go_ret
  exact⟨by rw[Hv.out];rfl,Ext.refl w⟩
set_option maxHeartbeats 1600000 in
theorem rIn_c(A:Option Addr)(ca:Nat)(l:List Int)(n:Int)(w:World)(hs:IntsZ w A ca l) :
  Calls Tryz.prog 155 #[.slice A l.length ca,.int .i64 n] w fun e w'=>e = .returned (.bool (hasZ l n))∧Ext w w':=by
 have hl:l.length≤9223372036854775807:=by have:=hs.len;unfold maxLen at this;omega
 go_enter Tryz.func155,Tryz.ntmps155
 go_wp2_with fail
 go_loopw [5] (fun i wr=> ∃k:Nat,k≤l.length∧i = .int .i64 k∧Hid (hasZ l n=hasZ (l.drop k) n)∧Ext w wr) (fun i _=>l.length-(intOf i).toNat)
 case atStart=>exact⟨0,by omega,rfl,h_ rfl,Ext.refl w⟩
 case round =>
  obtain⟨k,hk,rfl,Hj,E⟩:=hrel
  by_cases hlt:k<l.length
  ·obtain⟨g,off,q,rfl,hq,hg,c0⟩:=hs.at_ hlt
   have e0:=E.cell c0
   have hle:=hs.le
   clear c0
   have Hd:=h_ (hasZ_drop (p:=n) hq)
   clear hq
   have i1:(0:Int)≤k:=by omega
   have i2:(k:Int)<l.length:=by omega
   have i3:(k:Int)<ca:=by omega
   obtain⟨r,hr⟩:=nm ((q==n))
   have hr2:(q==n)=r:=hr
   have Hr:=h_ hr
   skip
   cases r
   ·skip
    go_wp2_with fail
    go_roundw
    case rel=>exact⟨k+1,by omega,by go_num,h_ (by rw[Hj.out,Hd.out,Hr.out];rfl),E⟩
    case measure=>simp[intOf];omega
   ·skip
    go_wp2_with fail
    go_ret
    exact⟨by rw[Hj.out,Hd.out,Hr.out];rfl,E⟩
  ·obtain rfl:k=l.length:=by omega
   go_wp2_with fail
   go_ret
   exact⟨by rw[Hj.out,hasZ_none (Nat.le_refl _)];rfl,E⟩
def IdxZ(b:Bool)(w:World)(e:Ending)(w':World):Prop:= ∃v:Int,e = .returned (.int .i64 v)∧decide (0≤v)=b∧Ext w w'
set_option maxHeartbeats 1600000 in
theorem idxZ_c(A:Option Addr)(ca:Nat)(l:List Int)(n:Int)(w:World)(hs:IntsZ w A ca l) :
  Calls Tryz.prog 94 #[.slice A l.length ca,.int .i64 n] w (IdxZ (hasZ l n) w):=by
 have hl:l.length≤9223372036854775807:=by have:=hs.len;unfold maxLen at this;omega
 go_enter Tryz.func94,Tryz.ntmps94
 go_wp2_with fail
 go_loopw [8] (fun i wr=> ∃k:Nat,k≤l.length∧i = .int .i64 k∧Hid (hasZ l n=hasZ (l.drop k) n)∧Ext w wr) (fun i _=>l.length-(intOf i).toNat)
 case atStart=>exact⟨0,by omega,rfl,h_ rfl,Ext.refl w⟩
 case round =>
  obtain⟨k,hk,rfl,Hj,E⟩:=hrel
  by_cases hlt:k<l.length
  ·obtain⟨g,off,q,rfl,hq,hg,c0⟩:=hs.at_ hlt
   have e0:=E.cell c0
   have hle:=hs.le
   clear c0
   have Hd:=h_ (hasZ_drop (p:=n) hq)
   clear hq
   have i1:(0:Int)≤k:=by omega
   have i2:(k:Int)<l.length:=by omega
   have i3:(k:Int)<ca:=by omega
   obtain⟨r,hr⟩:=nm ((q==n))
   have hr2:(n==q)=r:=(Bool.beq_comm.symm.trans hr)
   have Hr:=h_ hr
   skip
   cases r
   ·skip
    go_wp2_with fail
    go_roundw
    case rel=>exact⟨k+1,by omega,by go_num,h_ (by rw[Hj.out,Hd.out,Hr.out];rfl),E⟩
    case measure=>simp[intOf];omega
   ·skip
    go_wp2_with fail
    go_ret
    exact⟨k,rfl,by rw[Hj.out,Hd.out,Hr.out];simp,E⟩
  ·obtain rfl:k=l.length:=by omega
   go_wp2_with fail
   go_ret
   exact⟨-1,rfl,by rw[Hj.out,hasZ_none (Nat.le_refl _)];rfl,E⟩
theorem contZ_c(A:Option Addr)(ca:Nat)(l:List Int)(n:Int)(w:World)(hs:IntsZ w A ca l) :
  Calls Tryz.prog 65 #[.slice A l.length ca,.int .i64 n] w fun e w'=>e = .returned (.bool (hasZ l n))∧Ext w w':=by
 go_enter Tryz.func65,Tryz.ntmps65
 go_wp2_with fail
 refine(idxZ_c A ca l n _ hs).mono ?_
 rintro e w2 ⟨v,rfl,hv,E2⟩
 have Hv:=h_ hv
 clear hv
 go_wp2_with fail
 go_ret
 exact⟨by rw[←Hv.out];rfl,E2⟩
set_option maxHeartbeats 3200000 in
theorem chosen_c(A:Option Addr)(ca:Nat)(l:List Int)(n:Int)(w:World)(hs:IntsZ w A ca l) :
  Calls Tryz.prog 89 #[.slice A l.length ca,.int .i64 n] w fun e w'=>e = .returned (.bool (chosenB l n))∧Ext w w':=by
 have hl:l.length≤9223372036854775807:=by have:=hs.len;unfold maxLen at this;omega
 go_enter Tryz.func89,Tryz.ntmps89
 go_wp2_with fail
 go_loopw [9] (fun i wr=> ∃k:Nat,k≤l.length∧i = .int .i64 k∧Hid (∀j,j<k→chOk l n j=true)∧Ext w wr) (fun i _=>l.length-(intOf i).toNat)
 case atStart=>exact⟨0,by omega,rfl,h_ (fun j hj=>by omega),Ext.refl w⟩
 case round =>
  obtain⟨k,hk,rfl,Hj,E⟩:=hrel
  by_cases hlt:k<l.length
  ·obtain⟨g,off,q,rfl,hq,hg,c0⟩:=hs.at_ hlt
   have e0:=E.cell c0
   have hle:=hs.le
   have Hq:=h_ hq
   clear c0 hq
   have i1:(0:Int)≤k:=by omega
   have i2:(k:Int)<l.length:=by omega
   have i3:(k:Int)<ca:=by omega
   by_cases h0:0≤q∧q<n
   rotate_left
   ·have Hf:=h_ (chOk_out Hq.out h0)
    have hin:inB 0 (n-1) q=false:=inB_not.2 (by omega)
    by_cases h1:q<0
    ·have h2:decide (q<0)=true:=by simp;omega
     clear h0
     skip
     go_wp2_with fail
     go_ret
     exact⟨by rw[chosen_bad hlt Hf.out];rfl,E⟩
    ·have h2:decide (q<0)=false:=by simp;omega
     have h3:n≤q:=by omega
     have h4:decide (n≤q)=true:=by simp;omega
     clear h0
     skip
     go_wp2_with fail
     go_ret
     exact⟨by rw[chosen_bad hlt Hf.out];rfl,E⟩
   ·obtain⟨ha,hb⟩:=h0
    have hin:inB 0 (n-1) q=true:=inB_iff.2 (by omega)
    have h2:decide (q<0)=false:=by simp;omega
    have h3: ¬n≤q:=by omega
    have h4:decide (n≤q)=false:=by simp;omega
    have h5: ¬q<0:=by omega
    by_cases hk0:k=0
    ·have Hf:=h_ (show chOk l n k=true by have:=Hq.out;subst hk0;exact chOk_zero this ⟨ha,hb⟩)
     have q3: ¬(0:Int)<(k:Int):=by omega
     have q4:decide (0<k)=false:=by simp;omega
     clear hk0
     skip
     go_wp2_with fail
     go_roundw
     case rel=>exact⟨k+1,by omega,by go_num,h_ (fun j hj=>by rcases Nat.lt_or_ge j k with h|h;exact Hj.out j h;rw[show j=k by omega];exact Hf.out),E⟩
     case measure=>simp[intOf];omega
    ·obtain⟨g',off',r,hA',hr,hg',c1⟩:=hs.at_ (k:=k-1) (by omega)
     cases hA'
     have e1:=E.cell c1
     have Hf0:=h_ (chOk_next Hq.out hk0 hr ⟨ha,hb⟩)
     clear c1 hr
     have q3:(0:Int)<(k:Int):=by omega
     have q4:decide (0<k)=true:=by simp;omega
     have q5:decide ((0:Int)<(k:Int))=true:=by simp;omega
     have ht:((k:Int)-1).toNat=k-1:=by omega
     have hk1:(1:Int)≤k:=by omega
     have q6:(k:Int)-1<l.length:=by omega
     have q7:(0:Int)≤(k:Int)-1:=by omega
     by_cases hrq:r<q
     ·have g1: ¬q≤r:=by omega
      have g2:decide (q≤r)=false:=by simp;omega
      have Hf:=h_ (show chOk l n k=true by rw[Hf0.out];simp;omega)
      clear hk0 hrq
      skip
      go_wp2_with fail
      go_roundw
      case rel=>exact⟨k+1,by omega,by go_num,h_ (fun j hj=>by rcases Nat.lt_or_ge j k with h|h;exact Hj.out j h;rw[show j=k by omega];exact Hf.out),E⟩
      case measure=>simp[intOf];omega
     ·have g1:q≤r:=by omega
      have g2:decide (q≤r)=true:=by simp;omega
      have Hf:=h_ (show chOk l n k=false by rw[Hf0.out];simp;omega)
      clear hk0 hrq
      skip
      go_wp2_with fail
      go_ret
      exact⟨by rw[chosen_bad hlt Hf.out];rfl,E⟩
  ·obtain rfl:k=l.length:=by omega
   go_wp2_with fail
   go_ret
   exact⟨by rw[chosen_good Hj.out];rfl,E⟩
set_option maxHeartbeats 3200000 in
theorem rChosen_c(A:Option Addr)(ca:Nat)(l:List Int)(n:Int)(w:World)(hs:IntsZ w A ca l)(hn:0≤n)(hn2:n≤1000000) :
  Calls Tryz.prog 31 #[.slice A l.length ca,.int .i64 n] w fun e w'=>e = .returned (.bool (chosenB l n))∧Ext w w':=by
 have hl:l.length≤9223372036854775807:=by have:=hs.len;unfold maxLen at this;omega
 go_enter Tryz.func31,Tryz.ntmps31
 go_wp2_with fail
 go_loopw [5] (fun i wr=> ∃k:Nat,k≤l.length∧i = .int .i64 k∧Hid (∀j,j<k→chOk l n j=true)∧Ext w wr) (fun i _=>l.length-(intOf i).toNat)
 case atStart=>exact⟨0,by omega,rfl,h_ (fun j hj=>by omega),Ext.refl w⟩
 case round =>
  obtain⟨k,hk,rfl,Hj,E⟩:=hrel
  by_cases hlt:k<l.length
  ·obtain⟨g,off,q,rfl,hq,hg,c0⟩:=hs.at_ hlt
   have e0:=E.cell c0
   have hle:=hs.le
   have Hq:=h_ hq
   clear c0 hq
   have i1:(0:Int)≤k:=by omega
   have i2:(k:Int)<l.length:=by omega
   have i3:(k:Int)<ca:=by omega
   by_cases h0:0≤q∧q<n
   rotate_left
   ·have Hf:=h_ (chOk_out Hq.out h0)
    have hin:inB 0 (n-1) q=false:=inB_not.2 (by omega)
    by_cases h1:q<0
    ·have h2:decide (q<0)=true:=by simp;omega
     clear h0
     go_upto_region 4 with(fail)
     refine wp_region_grow (by kernel_rfl) (by kernel_rfl) ?_
     repeat (go_big_quiet_step ((go_at_call 67;exact quiet_ext (within3_c _ _ _ _))))
     refine wpQuiet_nil ?_
     intro W4 hW4
     have E4:Ext wr W4:=by
      obtain⟨x,rfl⟩:=hW4
      exact(Ext.refl _).grow x
     clear hW4
     obtain⟨hcW4,hfW4,hzW4⟩:=ext_facts E4
     go_wp2_with fail
     go_ret
     exact⟨by rw[chosen_bad hlt Hf.out];rfl,(E.trans E4)⟩
    ·have h2:decide (q<0)=false:=by simp;omega
     have h3:n≤q:=by omega
     have h4:decide (n≤q)=true:=by simp;omega
     clear h0
     go_upto_region 4 with(fail)
     refine wp_region_grow (by kernel_rfl) (by kernel_rfl) ?_
     repeat (go_big_quiet_step ((go_at_call 67;exact quiet_ext (within3_c _ _ _ _))))
     refine wpQuiet_nil ?_
     intro W4 hW4
     have E4:Ext wr W4:=by
      obtain⟨x,rfl⟩:=hW4
      exact(Ext.refl _).grow x
     clear hW4
     obtain⟨hcW4,hfW4,hzW4⟩:=ext_facts E4
     go_wp2_with fail
     go_ret
     exact⟨by rw[chosen_bad hlt Hf.out];rfl,(E.trans E4)⟩
   ·obtain⟨ha,hb⟩:=h0
    have hin:inB 0 (n-1) q=true:=inB_iff.2 (by omega)
    have h2:decide (q<0)=false:=by simp;omega
    have h3: ¬n≤q:=by omega
    have h4:decide (n≤q)=false:=by simp;omega
    have h5: ¬q<0:=by omega
    by_cases hk0:k=0
    ·have Hf:=h_ (show chOk l n k=true by have:=Hq.out;subst hk0;exact chOk_zero this ⟨ha,hb⟩)
     have q3: ¬(0:Int)<(k:Int):=by omega
     have q4:decide (0<k)=false:=by simp;omega
     clear hk0
     go_upto_region 4 with(fail)
     refine wp_region_grow (by kernel_rfl) (by kernel_rfl) ?_
     repeat (go_big_quiet_step ((go_at_call 67;exact quiet_ext (within3_c _ _ _ _))))
     refine wpQuiet_nil ?_
     intro W4 hW4
     have E4:Ext wr W4:=by
      obtain⟨x,rfl⟩:=hW4
      exact(Ext.refl _).grow x
     clear hW4
     obtain⟨hcW4,hfW4,hzW4⟩:=ext_facts E4
     go_wp2_with fail
     go_roundw
     case rel=>exact⟨k+1,by omega,by go_num,h_ (fun j hj=>by rcases Nat.lt_or_ge j k with h|h;exact Hj.out j h;rw[show j=k by omega];exact Hf.out),(E.trans E4)⟩
     case measure=>simp[intOf];omega
    ·obtain⟨g',off',r,hA',hr,hg',c1⟩:=hs.at_ (k:=k-1) (by omega)
     cases hA'
     have e1:=E.cell c1
     have Hf0:=h_ (chOk_next Hq.out hk0 hr ⟨ha,hb⟩)
     clear c1 hr
     have q3:(0:Int)<(k:Int):=by omega
     have q4:decide (0<k)=true:=by simp;omega
     have q5:decide ((0:Int)<(k:Int))=true:=by simp;omega
     have ht:((k:Int)-1).toNat=k-1:=by omega
     have hk1:(1:Int)≤k:=by omega
     have q6:(k:Int)-1<l.length:=by omega
     have q7:(0:Int)≤(k:Int)-1:=by omega
     by_cases hrq:r<q
     ·have g1: ¬q≤r:=by omega
      have g2:decide (q≤r)=false:=by simp;omega
      have Hf:=h_ (show chOk l n k=true by rw[Hf0.out];simp;omega)
      clear hk0 hrq
      go_upto_region 4 with(fail)
      refine wp_region_grow (by kernel_rfl) (by kernel_rfl) ?_
      repeat (go_big_quiet_step ((go_at_call 67;exact quiet_ext (within3_c _ _ _ _))))
      refine wpQuiet_nil ?_
      intro W4 hW4
      have E4:Ext wr W4:=by
       obtain⟨x,rfl⟩:=hW4
       exact(Ext.refl _).grow x
      clear hW4
      obtain⟨hcW4,hfW4,hzW4⟩:=ext_facts E4
      go_wp2_with fail
      go_roundw
      case rel=>exact⟨k+1,by omega,by go_num,h_ (fun j hj=>by rcases Nat.lt_or_ge j k with h|h;exact Hj.out j h;rw[show j=k by omega];exact Hf.out),(E.trans E4)⟩
      case measure=>simp[intOf];omega
     ·have g1:q≤r:=by omega
      have g2:decide (q≤r)=true:=by simp;omega
      have Hf:=h_ (show chOk l n k=false by rw[Hf0.out];simp;omega)
      clear hk0 hrq
      go_upto_region 4 with(fail)
      refine wp_region_grow (by kernel_rfl) (by kernel_rfl) ?_
      repeat (go_big_quiet_step ((go_at_call 67;exact quiet_ext (within3_c _ _ _ _))))
      refine wpQuiet_nil ?_
      intro W4 hW4
      have E4:Ext wr W4:=by
       obtain⟨x,rfl⟩:=hW4
       exact(Ext.refl _).grow x
      clear hW4
      obtain⟨hcW4,hfW4,hzW4⟩:=ext_facts E4
      go_wp2_with fail
      go_ret
      exact⟨by rw[chosen_bad hlt Hf.out];rfl,(E.trans E4)⟩
  ·obtain rfl:k=l.length:=by omega
   go_wp2_with fail
   go_ret
   exact⟨by rw[chosen_good Hj.out];rfl,E⟩
def great3B(ks:List Knd)(n m:Nat):Bool:=greatB ks n||decide (60<m)
theorem great3_is{ks:List Knd}{n m:Nat}{b:Bool}(h:great3B ks n m=b):(greatB ks n=true∧b=true)∨(greatB ks n=false∧decide ((60:Int)<m)=b):=by
 unfold great3B at h
 cases hg:greatB ks n
 ·right
  rw[hg,Bool.false_or] at h
  refine⟨rfl,?_⟩
  rw[←h]
  by_cases h6:60<m
  ·rw[decide_eq_true h6,decide_eq_true (by omega)]
  ·rw[decide_eq_false h6,decide_eq_false (by omega)]
 ·left
  rw[hg,Bool.true_or] at h
  exact⟨rfl,h.symm⟩
set_option maxRecDepth 100000 in
set_option maxHeartbeats 4000000 in
theorem great3_c(qs:List (Knd×KAt))(QA:Option Addr)(qc:Nat)(bs:List Brk)(B:Option Addr)(cb:Nat)(tab:Int)(HA:Option Addr)(hc:Nat)(hands:List Int)(w:World)(hk:Kinds w QA qc qs)(hb:Bricks w B cb bs)(hh:IntsZ w HA hc hands) :
  Calls Tryz.prog 6 #[.slice QA qs.length qc,.agg #[.slice B bs.length cb],.agg #[.int .i64 tab,.slice HA hands.length hc]] w fun e w'=>e = .returned (.bool (great3B (qs.map (·.1)) bs.length hands.length))∧Ext w w':=by
 obtain⟨W1,hW1,E1,B1,hz1⟩:=mk_ w #[.slice B bs.length cb] 25
 obtain⟨W2,hW2,E2,B2,hz2⟩:=mk_ W1 #[.int .i64 tab,.slice HA hands.length hc] 28
 have E:=E1.trans E2
 have b1:=(B1.ext E2).cell
 have HE:=h_ E
 have HB2:=h_ B2
 have b2:=B2.cell
 have hll:hands.length≤maxLen:=Nat.le_trans hh.le hh.small
 have hbl:bs.length≤maxLen:=Nat.le_trans hb.1.le hb.1.small
 have G:=great_c qs QA qc B bs.length cb W2 (hk.ext E) hbl
 obtain⟨r,hr⟩:=nm (great3B (qs.map (·.1)) bs.length hands.length)
 have Hr:=h_ hr
 rcases great3_is hr with⟨h1,rfl⟩|⟨h1,h2⟩
 ·rw[h1] at G
  clear hz1 hz2 B1 B2 E1 E2 E hr hk hb hh hbl
  go_enter Tryz.func6,Tryz.ntmps6
  go_wp2_with fail
  refine G.mono ?_
  rintro e W3 ⟨rfl,E3⟩
  go_wp2_with fail
  refine bodyPost_ret (v:= .bool true) (by simp[results,Tryz.results6,go_sem]) rfl ⟨by rw[Hr.out],HE.out.trans E3⟩
 ·rw[h1] at G
  clear hz1 hz2 B1 B2 E1 E2 E hr hk hb hh hbl
  go_enter Tryz.func6,Tryz.ntmps6
  go_wp2_with fail
  clear b1 b2
  refine G.mono ?_
  rintro e W3 ⟨rfl,E3⟩
  have b2:=(HB2.out.ext E3).cell
  cases r
  ·have h3:(hands.length:Int)≤60:=by rw[decide_eq_false_iff_not] at h2;omega
   go_wp2_with fail
   refine bodyPost_ret (v:= .bool false) (by simp[results,Tryz.results6,go_sem]) rfl ⟨by rw[Hr.out],HE.out.trans E3⟩
  ·have h3:(60:Int)<hands.length:=of_decide_eq_true h2
   go_wp2_with fail
   refine bodyPost_ret (v:= .bool true) (by simp[results,Tryz.results6,go_sem]) rfl ⟨by rw[Hr.out],HE.out.trans E3⟩
theorem low_bit6{x:Nat}(h0:x≠0)(h:x<2 ^ 64) :
  x.testBit (Lib.ctz 64 x)=true∧Lib.ctz 64 x<64∧(∀j,j<Lib.ctz 64 x→x.testBit j=false) ∧ ∀j,(x&&&(x-1)).testBit j=(x.testBit j&&decide (j≠Lib.ctz 64 x)):=by
 have e:Lib.ctz 64 x=Lib.ctzFrom 64 x:=by simp[Lib.ctz,h0]
 obtain⟨m,hm,hk⟩:=Lib.ctzFrom_spec 64 x (by omega) h
 rw[e]
 generalize Lib.ctzFrom 64 x=k at hm hk
 have hpos:0<2 ^ k:=Nat.two_pow_pos k
 have hx: ∀j,x.testBit j=(decide (k≤j)&&(2*m+1).testBit (j-k)):=fun j=>by rw[hm,Nat.testBit_two_pow_mul]
 have hy: ∀j,(x-1).testBit j=if j<k then(2 ^ k-1).testBit j else(2*m).testBit (j-k):=fun j=>by
  have h1:x-1=2 ^ k*(2*m)+(2 ^ k-1):=by rw[hm,Nat.mul_add];omega
  rw[h1,Nat.testBit_two_pow_mul_add _ (by omega)]
 have o1:(2*m+1).testBit 0=true:=by simp
 have o2:(2*m).testBit 0=false:=by simp
 have o3: ∀t,(2*m+1).testBit (t+1)=(2*m).testBit (t+1):=fun t=>by
  rw[Nat.testBit_succ,Nat.testBit_succ,show(2*m+1) / 2=m by omega,show 2*m / 2=m by omega]
 refine⟨by rw[hx,Nat.sub_self,o1];simp,hk,fun j hj=>by rw[hx,decide_eq_false (by omega)];rfl,fun j=> ?_⟩
 rw[Nat.testBit_and,hx,hy]
 rcases Nat.lt_trichotomy j k with hj|hj|hj
 ·rw[decide_eq_false (by omega: ¬k≤j)]
  rfl
 ·subst hj
  rw[Nat.sub_self,if_neg (by omega),o2]
  simp
 ·obtain⟨t,rfl⟩: ∃t,j=k+(t+1):=⟨j-k-1,by omega⟩
  rw[if_neg (by omega),show k+(t+1)-k=t+1 by omega,o3,decide_eq_true (by omega:k≤k+(t+1)),decide_eq_true (by omega:k+(t+1)≠k)]
  simp
def setL(z:Nat):List Nat:=(List.range 64).filter fun n=>z.testBit n
theorem mem_setL{z i:Nat}:i∈setL z↔i<64∧z.testBit i=true:=by
 unfold setL
 rw[List.mem_filter,List.mem_range]
theorem range_split{k:Nat}(h:k<64):List.range 64=List.range' 0 k++(k::List.range' (k+1) (63-k)):=by
 rw[List.range_eq_range']
 have e1:List.range' 0 64=List.range' 0 k++List.range' (0+k) (64-k):=by
  rw[List.range'_append_1]
  congr 1
  omega
 rw[e1,Nat.zero_add]
 congr 1
 rw[show 64-k=(63-k)+1 by omega,List.range'_succ]
theorem setL_zero:setL 0 = []:=by simp[setL]
theorem setL_step{x:Nat}(h0:x≠0)(h:x<2 ^ 64):setL x=Lib.ctz 64 x::setL (x&&&(x-1)):=by
 obtain⟨h1,h2,h3,h4⟩:=low_bit6 h0 h
 generalize Lib.ctz 64 x=k at h1 h2 h3 h4
 have f1: ∀y:Nat,(∀j,j<k→y.testBit j=false)→(List.range' 0 k).filter (fun n=>y.testBit n) = []:=fun y hy=>by
  rw[List.filter_eq_nil_iff]
  intro a ha
  rw[List.mem_range'_1] at ha
  rw[hy a (by omega)]
  simp
 unfold setL
 rw[range_split h2,List.filter_append,List.filter_append,f1 x h3,f1 (x&&&(x-1)) (fun j hj=>by rw[h4,h3 j hj];rfl),List.nil_append,List.nil_append,List.filter_cons,List.filter_cons,if_pos h1,if_neg (by rw[h4];simp)]
 congr 1
 apply List.filter_congr
 intro a ha
 rw[List.mem_range'_1] at ha
 rw[h4,decide_eq_true (by omega:a≠k),Bool.and_true]
theorem pred_lt6{x:Nat}(h0:x≠0):x&&&(x-1)<x:=by
 have:=Nat.and_le_right (n:=x) (m:=x-1)
 omega
def putN(z i:Nat):Nat:=z|||2 ^ i
theorem putN_bit(z i j:Nat):(putN z i).testBit j=(z.testBit j||decide (i=j)):=by
 unfold putN
 rw[Nat.testBit_or,Nat.testBit_two_pow]
theorem setL_put{z i:Nat}(hi:i<64)(h: ∀j,z.testBit j=true→j<i):setL (putN z i)=setL z ++ [i]:=by
 have hz: ∀j,i≤j→z.testBit j=false:=fun j hj=>by
  cases hb:z.testBit j
  ·rfl
  ·have:=h j hb
   omega
 have f1: ∀y:Nat,(∀j,i<j→y.testBit j=false)→(List.range' (i+1) (63-i)).filter (fun n=>y.testBit n) = []:=fun y hy=>by
  rw[List.filter_eq_nil_iff]
  intro a ha
  rw[List.mem_range'_1] at ha
  rw[hy a (by omega)]
  simp
 unfold setL
 rw[range_split hi,List.filter_append,List.filter_append,List.filter_cons,List.filter_cons,if_pos (by rw[putN_bit];simp),if_neg (by rw[hz i (Nat.le_refl _)];simp),f1 z fun j hj=>hz j (by omega),f1 (putN z i) fun j hj=>by rw[putN_bit,hz j (by omega),decide_eq_false (by omega)];rfl,List.append_nil]
 congr 1
 apply List.filter_congr
 intro a ha
 rw[List.mem_range'_1] at ha
 rw[putN_bit,decide_eq_false (by omega: ¬i=a),Bool.or_false]
def SetB(n z:Nat):Prop:= ∀j,z.testBit j=true→j<n
theorem SetB.lt{n z:Nat}(h:SetB n z):z<2 ^ n:=by
 refine Nat.lt_pow_two_of_testBit _ fun i hi=> ?_
 cases hb:z.testBit i
 ·rfl
 ·have:=h i hb
  omega
theorem SetB.zero(n:Nat):SetB n 0:=fun j h=>by simp at h
theorem SetB.put{n z i:Nat}(h:SetB n z)(hi:i<n):SetB n (putN z i):=fun j hj=>by
 rw[putN_bit,Bool.or_eq_true] at hj
 rcases hj with hj|hj
 ·exact h j hj
 ·have:=of_decide_eq_true hj
  omega
theorem SetB.mono{n m z:Nat}(h:SetB n z)(hm:n≤m):SetB m z:=fun j hj=>Nat.lt_of_lt_of_le (h j hj) hm
theorem SetB.and{n z:Nat}(h:SetB n z)(y:Nat):SetB n (z&&&y):=fun j hj=>by
 rw[Nat.testBit_and,Bool.and_eq_true] at hj
 exact h j hj.1
theorem setL_of{n z i:Nat}(hz:SetB n z)(hn:n≤64):i∈setL z↔z.testBit i=true:=by
 rw[mem_setL]
 exact⟨fun h=>h.2,fun h=>⟨Nat.lt_of_lt_of_le (hz i h) hn,h⟩⟩
def setI(z:Nat):List Int:=(setL z).map fun i:Nat=>(i:Int)
theorem setI_len(z:Nat):(setI z).length=(setL z).length:=List.length_map _
theorem setL_below{n z:Nat}(hz:SetB n z)(hn:n≤64):setL z=(List.range n).filter fun i=>z.testBit i:=by
 unfold setL
 have e1:List.range 64=List.range n++List.range' n (64-n):=by
  rw[List.range_eq_range',List.range_eq_range']
  have:=List.range'_append_1 (s:=0) (m:=n) (n:=64-n)
  rw[Nat.zero_add] at this
  rw[this]
  congr 1
  omega
 rw[e1,List.filter_append,(List.filter_eq_nil_iff (l:=List.range' n (64-n))).2 fun a ha=> ?_,List.append_nil]
 rw[List.mem_range'_1] at ha
 intro hb
 have:=hz a hb
 omega
theorem setL_few{n z:Nat}(hz:SetB n z)(hn:n≤64):(setL z).length≤n:=by
 rw[setL_below hz hn]
 exact Nat.le_trans (List.length_filter_le _ _) (by simp)
theorem setL_len(z:Nat):(setL z).length≤64:=by
 unfold setL
 exact Nat.le_trans (List.length_filter_le _ _) (by simp)
theorem setI_get{z k i:Nat}(h:(setL z)[k]? = some i):(setI z)[k]? = some (i:Int):=by
 unfold setI
 rw[List.getElem?_map,h]
 rfl
theorem setL_asc(z:Nat):(setL z).Pairwise (· < ·):=List.Pairwise.filter _ List.pairwise_lt_range
def Tz6Tab(w:World):Prop:=TabAt 0 Lib.deBruijn64tab w
set_option maxHeartbeats 1000000 in
theorem tz6_core(x k idx:Nat)(w:World)(hx0:((x:Int)==0)=false)
  (key:IntKind.u64.wrap (bits BinOp.and IntKind.u64 (x:Int) (IntKind.u64.wrap (-(x:Int)))*285870213051353865) / 288230376151711744=(idx:Int))
  (hi:idx<64) (hk:k<64) (hcell:w.cell? ⟨0,idx,none⟩=some (.int .u8 k)) :
  Calls Tryz.prog 87 #[.int .u64 x] w fun e w'=>e = .returned (.int .i64 k)∧w'=w:=by
 go_enter Tryz.func87,Tryz.ntmps87
 go_wp2_with (simp only[key])
 go_ret
 exact⟨rfl,rfl⟩
theorem tz6_c(x:Nat)(h0:x≠0)(hx:x<18446744073709551616)(w:World)(hT:Tz6Tab w) :
  Calls Tryz.prog 87 #[.int .u64 x] w fun e w'=>e = .returned (.int .i64 (Lib.ctz 64 x))∧w'=w:=by
 obtain⟨hlow,hk⟩:=Lib.lowest_bit 64 x h0 hx
 obtain⟨hi,htab⟩:=Lib.deBruijn64_at _ hk
 have hcell:=hT _ hi
 rw[htab] at hcell
 exact tz6_core x _ _ w (by simp;omega) (tz64_key x _ hx h0 hlow) hi hk hcell
theorem Tz6Tab.ext{w w':World}(h:Tz6Tab w)(e:Ext w w'):Tz6Tab w':=fun j hj=>e.cell (h j hj)
structure Lets{α:Type}(b:Nat)(G:World→Prop)(J:List α→World→Prop):Prop where
 ext: ∀s A B,J s A→Ext A B→J s B
 box: ∀s A v,J s A→J s (A.setCell ⟨b,0,none⟩ v)
 good: ∀s A,J s A→G A
def BoxSeq{α:Type}(n:Nat)(P:Program)(gf:Nat)(lb:Array Value)(encs:α→Array Value)(ys:List α)(b:Nat)(t:TypeId)(v0:Value)(G:World→Prop):Prop :=
 ∀(l:Nat) (J:List α→World→Prop) (W:World),Lets b G J →
  (∀pre x A v,J pre A→Blk A b t #[v]→pre ++ [x] <+: ys→YieldAt Fence.wide (n-1) P l (encs x) A fun e A'=>e = .returned (.bool true)∧J (pre ++ [x]) A'∧Blk A' b t #[v]) →
  J [] W→Blk W b t #[v0] →
  CallsIn Fence.wide n P gf (#[.func (.yield l) #[] #[]]++lb) W fun e W'=>(∃v,e = .returned v)∧J ys W'
def boxPost(B:Nat)(I:World→Prop)(b:Nat)(t:TypeId)(v:Value)(W:World):Exit→Act→World→Prop
 | .normal,_,W'=>KeepsFrom B W W'∧I W'∧Blk W' b t #[v]
 | _,_,_=>False
theorem wpIn_rangeFunc_box{α:Type}{P:Program}{n:Nat}{g:Operand}{ps:Array Tmp}{assign body:Code}{Q:Exit→Act→World→Prop}{a:Act}{w:World}
  (h1:1≤n) {gf:Nat} {lb:Array Value} (hg:a.eval g = .func (.func gf) #[] lb) (eg: ∀args w,(callFunc gf args).run P w = .ok (.enter gf args) w)
  {encs:α→Array Value} {ys:List α} {b:Nat} {t:TypeId} {v0:Value} {G:World→Prop} (hseq:BoxSeq (n-1) P gf lb encs ys b t v0 G) (hB:Blk w b t #[v0]) (hps: ∀x,(encs x).size=ps.size)
  (I:List α→World→Prop) (hI:Lets b G I) (hIp: ∀s A l o o',I s A→w.heap.size≤l→A.heap[l]? = some o→o.isCells=false→I s (A.putObj l o'))
  (h0:I [] w) (a₁:α→Act)
  (hassign: ∀(l:Nat) (x:α) (W:World) (K:Act→World→Prop),K (a₁ x) W →
   assign.wpIn (Fence.wide.inRound l) (n-1-1) P (Exit.then K (fun _ _ _=>False)) { tmps:=(ps.zip (encs x)).foldl (fun t (p,v)=>t.setIfInBounds p v) a.tmps,defers:= [] } W)
  (hbody: ∀(l:Nat) (pre:List α) (x:α) (W:World) (v:Value),w.heap.size≤l→I pre W→Blk W b t #[v]→pre ++ [x] <+: ys →
   body.wpIn (Fence.wide.inRound l) (n-1-1) P (boxPost w.heap.size (I (pre ++ [x])) b t v W) (a₁ x) W)
  (hdone: ∀(D:Nat) (W:World),w.heap.size≤D→I ys W→W.heap[D]? = some (.deferred (some []))→Q .normal { a with defers:={ target:= .collected D,args:= #[] }::a.defers } W) :
  (Code.rangeFunc g ps assign body).wpIn Fence.wide n P Q a w:=by
 have hblt:=hB.lt
 refine wpIn_rangeFunc ?_
 intro fn hfn
 obtain⟨rec,hrec⟩: ∃rec:LoopState→Option Code→Loop,rec=fun st pe=>{ state:=st,pending:=pe,fn,tmps:=a.tmps,params:=ps,assign,body,defers:=w.heap.size }:=⟨_,rfl⟩
 obtain⟨W1,hW1⟩:=nm ((w.alloc (.deferred (some []))).alloc (.loop (rec .ready none)))
 have hL1:W1.heap[w.heap.size+1]? = some (.loop (rec .ready none)):=by
  rw[←hW1];have:=World.alloc_heap_new (w.alloc (.deferred (some []))) (.loop (rec .ready none));rwa [World.size_alloc] at this
 have hK1:W1.heap[w.heap.size]? = some (.deferred (some [])):=by
  rw[←hW1];exact(Below.heap_alloc _ _ _ (by simp)).trans (World.alloc_heap_new w _)
 have E1:Ext w W1:=by rw[←hW1];exact((Ext.refl w).alloc _).alloc _
 have hI1:I [] W1:=hI.ext _ _ _ h0 E1
 refine⟨w.heap.size+1,[{ target:= .collected w.heap.size,args:= #[] }],W1,{ target:= .fn (.func gf) lb,args:= #[.func (.yield (w.heap.size+1)) #[] #[]] },W1,gf,
  #[.func (.yield (w.heap.size+1)) #[] #[]]++lb,W1,?_,?_,?_,?_,fun _=>h1,?_⟩
 ·rw[←hW1,hrec];exact run_enterLoop_outer _ _ _ _ _
 ·simp only[resolve,hg]
  simp[go_sem]
 ·intro f' hf';exact trivial
 ·simp[invoke,go_sem,eg]
 ·refine(hseq (w.heap.size+1)
   (fun pre W=>I pre W∧W.heap[w.heap.size+1]? = some (.loop (rec .ready none))∧W.heap[w.heap.size]? = some (.deferred (some [])))
   W1 ⟨fun s A B hs E=>⟨hI.ext _ _ _ hs.1 E,(Below.block E _ (Array.getElem?_eq_some_iff.1 hs.2.1).1).trans hs.2.1,(Below.block E _ (Array.getElem?_eq_some_iff.1 hs.2.2).1).trans hs.2.2⟩,
    fun s A v hs=>⟨hI.box _ _ _ hs.1,(Below.heap_setCell A _ v _ (by show w.heap.size+1≠b;omega)).trans hs.2.1,(Below.heap_setCell A _ v _ (by show w.heap.size≠b;omega)).trans hs.2.2⟩,
    fun s A hs=>hI.good _ _ hs.1⟩
   ?_ ⟨hI1,hL1,hK1⟩ (hB.ext E1)).mono ?_
  ·rintro pre x W v ⟨hi,hl,hk⟩ hb hpre
   have hlt:w.heap.size+1<W.heap.size:=(Array.getElem?_eq_some_iff.1 hl).1
   have hy:=run_yield (P:=P) (args:=encs x) hl (by rw[hrec];exact hps x)
   rw[hrec] at hy
   refine⟨fn,_,assign,body,hy,roundIn_of_wpIn hfn (hassign _ x W _ ⟨_,run_beginRound hl (by rw[hrec]),?_⟩)⟩
   have hl2:(W.putObj (w.heap.size+1) (.loop { rec .ready none with state:= .busy })).heap[w.heap.size+1]? = some (.loop { rec .ready none with state:= .busy }):=World.putObj_heap_same hlt
   have hk2:(W.putObj (w.heap.size+1) (.loop { rec .ready none with state:= .busy })).heap[w.heap.size]? = some (.deferred (some [])):=(World.putObj_heap_other (by omega)).trans hk
   have hb2:Blk (W.putObj (w.heap.size+1) (.loop { rec .ready none with state:= .busy })) b t #[v]:=(World.putObj_heap_other (by omega)).trans hb
   refine wpIn_mono (hbody _ pre x _ v (by omega) (hIp _ _ _ _ _ hi (by omega) hl rfl) hb2 hpre) ?_
   rintro e a3 W3 hp
   cases e <;> first|exact hp.elim|skip
   obtain⟨hk3,hi3,hb3⟩:=hp
   have hl3:=hk3.same _ _ (by omega) hl2 rfl
   have hr:=run_endRound (P:=P) none hl3
   refine⟨_,_,hr,rfl,⟨hIp _ _ _ _ _ hi3 (by omega) hl3 rfl,?_,(World.putObj_heap_other (by omega)).trans (hk3.same _ _ (Nat.le_refl _) hk2 rfl)⟩,(World.putObj_heap_other (by omega)).trans hb3⟩
   rw[World.putObj_heap_same (Array.getElem?_eq_some_iff.1 hl3).1,hrec]
   rfl
  ·rintro e W2 ⟨⟨v,rfl⟩,hi,hl,hk⟩
   exact⟨none,_,by have:=run_endLoop (P:=P) hl (by rw[hrec];simp);rw[hrec] at this;exact this,hdone _ _ (Nat.le_refl _) (hIp _ _ _ _ _ hi (by omega) hl rfl) ((World.putObj_heap_other (by omega)).trans hk)⟩
end Go.Proofs.YtojolpbpjimfgaaGreatDoor
