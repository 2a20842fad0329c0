/- Texts of the proof: Form6, RGreat6, ListC, IntsO, AppF, Twin6, PopW. -/
import Derived.Test.YtojolpbpjimfgaaGreatDoorZy6
import Derived.Test.YtojolpbpjimfgaaGreatDoorZy11
import Derived.Test.YtojolpbpjimfgaaGreatDoorZy12
import Derived.Test.YtojolpbpjimfgaaGreatDoorZy24
import Derived.Test.YtojolpbpjimfgaaGreatDoorZy26
set_option maxHeartbeats 16000000
set_option maxRecDepth 100000
namespace Go.Proofs.YtojolpbpjimfgaaGreatDoor
open Go.RowKit
theorem cntP_at{t:List StpV}{k:Nat}{s:StpV}(hs:t[k]? = some s):cntP (t.drop k)=s.l.length+cntP (t.drop (k+1)):=by
 rw[drop_at hs];rfl
theorem drop_all{α:Type}(l:List α):l.drop l.length = []:=List.drop_length
def FewS(t:List StpV):Prop:=t.length≤100 ∧ ∀s∈t,s.l.length≤100
theorem formed6_c(n:Nat)(most:Int)(q:List (StpV×SAt))(SA:Option Addr)(sc:Nat)(w:World)(hq:StepsZ w SA sc q)(hn:n≤64)(hf:FewS (q.map (·.1))) :
  Calls Tryz.prog 43 #[.int .i64 n,.int .i64 most,.slice SA q.length sc] w fun e w'=>e = .returned (.bool (formB n most (q.map (·.1))))∧Ext w w':=by
 obtain⟨t,ht⟩:=nm (q.map (·.1));rw[ht] at hf;rw[ht];have hlt0:t.length=q.length:=by rw[←ht,List.length_map]
 have hg: ∀(i:Nat) (x:StpV×SAt),q[i]? = some x→t[i]? = some x.1:=fun i x h=>by rw[←ht,List.getElem?_map,h];rfl
 have Hg:=h_ hg;have HF:=h_ hf;have HQ:=h_ hq;have HL:=h_ hlt0;have hq100:q.length≤100:=by have:=hf.1;omega
 clear ht hg hf hq hlt0;go_enter Tryz.func43,Tryz.ntmps43;go_wp2_with fail;go_loopw [7,8,15] (fun vs vc ii wr=> ∃(i z c:Nat),i≤q.length∧ii = .int .i64 i∧vs = .int .u64 z∧vc = .int .i64 c∧c≤100*i∧Hid (SetB n z)∧Hid (stepsOk n most 0 t=stepsOk n most z (t.drop i))∧Hid (cntP t=c+cntP (t.drop i))∧Ext w wr) (fun _ _ ii _=>q.length-(intOf ii).toNat)
 case atStart=>exact⟨0,0,0,by omega,rfl,rfl,rfl,by omega,h_ (SetB.zero n),h_ rfl,h_ (by simp),Ext.refl w⟩
 case round =>
  obtain⟨i,z,c,hi,rfl,rfl,rfl,hc,Hz,Ho,Hc,Er⟩:=hrel;by_cases hlt:i<q.length
  ·obtain⟨x,hx⟩: ∃x,q[i]? = some x:=⟨_,List.getElem?_eq_getElem hlt⟩;obtain⟨g,off,rfl⟩:=HQ.out.addr (by omega);have hq':=HQ.out.ext Er;obtain⟨c0,c1⟩:=hq'.cell hx rfl;have hle:=HQ.out.1.le;have hsm:=HQ.out.1.small;obtain⟨hP,hby⟩:=hq'.puts hx;have hTx:=Hg.out _ _ hx;have Hs:=h_ (stepsOk_at (n:=n) (z:=z) (most:=most) hTx);have Hk:=h_ (cntP_at hTx);have hl100:=HF.out.2 _ (List.mem_of_getElem? hTx);obtain⟨⟨l,v⟩,⟨PA,pc⟩⟩:=x;simp only at c0 c1 hP hby hl100;have HP:=h_ (HQ.out.puts hx).1;simp only at HP;have hpl:=hP.1.le;have hps:=hP.1.small;obtain⟨W1,hW1,E1,B1,hz1⟩:=mk_ wr #[.slice PA l.length pc,.int .u8 v] 84;have b1:=B1.cell;have HE1:=h_ (Er.trans E1);have HEr:=h_ Er;have i0:(0:Int)≤i:=by omega
   have i1:(i:Int)<q.length:=by omega
   have i2:(i:Int)<sc:=by omega
   have hby':0≤v∧v<256:=hby;obtain⟨hv0,hv1⟩:=hby';clear hx hP hby hq' hTx B1 hz1 E1 Er;by_cases hl1:(l.length:Int)<1
   ·have Hr:=h_ (show formB n most t=false from by
     unfold formB;rw[Ho.out,Hs.out,show headOk most ⟨l,v⟩=false from by unfold headOk;simp[hl1]]
     rfl)
    go_wp2_with fail;refine bodyPost_ret (v:= .bool false) (by simp[results,Tryz.results43,go_sem]) rfl ⟨by rw[Hr.out],HE1.out⟩
   by_cases hl2:(l.length:Int)>most
   ·have hl1':decide ((l.length:Int)<1)=false:=decide_eq_false hl1;have Hr:=h_ (show formB n most t=false from by
     unfold formB;rw[Ho.out,Hs.out,show headOk most ⟨l,v⟩=false from by unfold headOk;simp[hl2]]
     rfl)
    go_wp2_with fail;refine bodyPost_ret (v:= .bool false) (by simp[results,Tryz.results43,go_sem]) rfl ⟨by rw[Hr.out],HE1.out⟩
   by_cases hv5:v>5
   ·have hl1':decide ((l.length:Int)<1)=false:=decide_eq_false hl1;have hl2':decide ((l.length:Int)>most)=false:=decide_eq_false hl2;have Hr:=h_ (show formB n most t=false from by
     unfold formB;rw[Ho.out,Hs.out,show headOk most ⟨l,v⟩=false from by unfold headOk;simp[hv5]]
     rfl)
    go_wp2_with fail;refine bodyPost_ret (v:= .bool false) (by simp[results,Tryz.results43,go_sem]) rfl ⟨by rw[Hr.out],HE1.out⟩
   have hl1':decide ((l.length:Int)<1)=false:=decide_eq_false hl1;have hl2':decide ((l.length:Int)>most)=false:=decide_eq_false hl2;have hv5':decide (v>5)=false:=decide_eq_false hv5;have Hh:=h_ (show headOk most ⟨l,v⟩=true from by
    unfold headOk;simp only[];rw[hl1',show decide (most<(l.length:Int))=false from hl2',show decide (5<v)=false from hv5']
    rfl)
   go_wp2_with fail;clear b1 c0 c1;go_loopw [7,8,38] (fun vs vc kk wr2=> ∃(k z2:Nat),k≤l.length∧kk = .int .i64 k∧vs = .int .u64 z2∧vc = .int .i64 ((c+k:Nat):Int)∧Hid (SetB n z2)∧Hid (putsOk n z l=putsOk n z2 (l.drop k))∧Hid (z2=putsZ z (l.take k))∧Ext w wr2) (fun _ _ kk _=>l.length-(intOf kk).toNat)
   case atStart=>exact⟨0,z,by omega,rfl,rfl,by simp,Hz,h_ rfl,h_ rfl,HE1.out⟩
   case round =>
    obtain⟨k,z2,hk,rfl,rfl,rfl,Hz2,Hp2,He2,Er2⟩:=hrel;by_cases hkl:k<l.length
    ·obtain⟨p,hp⟩: ∃p,l[k]? = some p:=⟨_,List.getElem?_eq_getElem hkl⟩;obtain⟨pg,po,rfl⟩:=HP.out.addr (by omega);obtain⟨e0,e1⟩:=(HP.out.ext Er2).cell hp rfl;have hpb:=HP.out.byte hp;have Hs2:=h_ (putsOk_at (n:=n) (z:=z2) hp);have Ht2:=h_ (take_at hp);obtain⟨pb,pd⟩:=p;simp only at e0 e1 hpb;obtain⟨hd0,hd1⟩:0≤pd∧pd<256:=hpb;obtain⟨W2,hW2,E2,B2,hz2⟩:=mk_ wr #[.int .i64 pb,.int .u8 pd] 89;have b2:=B2.cell;have HE2:=h_ (Er2.trans E2);have HB2:=h_ B2;have k0:(0:Int)≤k:=by omega
     have k1:(k:Int)<l.length:=by omega
     have k2:(k:Int)<pc:=by omega
     clear hp B2 hz2 E2 Er2;by_cases hb0:pb<0
     ·have Hr:=h_ (show formB n most t=false from by
       unfold formB;rw[Ho.out,Hs.out,Hp2.out,Hs2.out,show putOk n z2 ⟨pb,pd⟩=false from by unfold putOk;simp[hb0]]
       simp)
      go_wp2_with fail;skip;refine bodyPost_ret (v:= .bool false) (by simp[results,Tryz.results43,go_sem]) rfl ⟨by rw[Hr.out],HE2.out⟩
     have hb0':decide (pb<0)=false:=decide_eq_false hb0;by_cases hbn:(n:Int)≤pb
     ·have hbn':decide (pb≥(n:Int))=true:=decide_eq_true hbn;have Hr:=h_ (show formB n most t=false from by
       unfold formB;rw[Ho.out,Hs.out,Hp2.out,Hs2.out,show putOk n z2 ⟨pb,pd⟩=false from by unfold putOk;simp[hbn]]
       simp)
      go_wp2_with fail;skip;refine bodyPost_ret (v:= .bool false) (by simp[results,Tryz.results43,go_sem]) rfl ⟨by rw[Hr.out],HE2.out⟩
     have hbn':decide ((n:Int)≤pb)=false:=decide_eq_false hbn;obtain⟨b,rfl⟩:=Int.eq_ofNat_of_zero_le (show 0≤pb by omega);have hz64:=(Hz2.out.mono hn).lt;have HC:=has6_c z2 b hz64 (by omega) W2;have WC:=h_ (fun W=>with6_c z2 b hz64 (show b<64 by omega) W);have Hzn:=h_ (Hz2.out.put (i:=b) (by omega));obtain⟨r,hr⟩:=nm (z2.testBit b);rw[hr] at HC;have Hr0:=h_ hr;clear hr hz64;go_wp2_with fail;refine HC.mono ?_;rintro e W3 ⟨rfl,E3⟩;have HE3:=h_ (HE2.out.trans E3);have b3:=(HB2.out.ext E3).cell;have HB3:=h_ (HB2.out.ext E3);clear E3 HC b2;cases r;rotate_left
     ·have Hr:=h_ (show formB n most t=false from by
       unfold formB;rw[Ho.out,Hs.out,Hp2.out,Hs2.out,show putOk n z2 ⟨(b:Int),pd⟩=false from by unfold putOk;simp[Hr0.out]]
       simp)
      go_wp2_with fail;skip;refine bodyPost_ret (v:= .bool false) (by simp[results,Tryz.results43,go_sem]) rfl ⟨by rw[Hr.out],HE3.out⟩
     by_cases hd5:pd>5
     ·have Hr:=h_ (show formB n most t=false from by
       unfold formB;rw[Ho.out,Hs.out,Hp2.out,Hs2.out,show putOk n z2 ⟨(b:Int),pd⟩=false from by unfold putOk;simp[hd5]]
       simp)
      go_wp2_with fail;skip;refine bodyPost_ret (v:= .bool false) (by simp[results,Tryz.results43,go_sem]) rfl ⟨by rw[Hr.out],HE3.out⟩
     have hd5':decide (pd>5)=false:=decide_eq_false hd5;have Hok:=h_ (show putOk n z2 ⟨b,pd⟩=true from by
      rw[putOk_iff]
      exact⟨⟨by show(0:Int)≤b;omega,by show(b:Int)<n;omega⟩,by show z2.testBit (b:Int).toNat=false;rw[Int.toNat_natCast];exact Hr0.out,by show pd≤5;omega⟩)
     go_wp2_with fail;refine(WC.out W3).mono ?_;rintro e W4 ⟨rfl,E4⟩;have HE4:=h_ (HE3.out.trans E4);clear E4 b3;go_wp2_with fail;go_roundw
     case rel=>exact⟨k+1,putN z2 b,by omega,by go_num,rfl,by go_num,Hzn,h_ (by rw[Hp2.out,Hs2.out,Hok.out];rfl),h_ (by rw[Ht2.out,putsZ_snoc,←He2.out];rfl),HE4.out⟩
     case measure=>simp only[intOf];omega
    ·obtain rfl:k=l.length:=by omega
     have Hfin:=h_ (show stepsOk n most 0 t=stepsOk n most z2 (t.drop (i+1)) from by
      rw[Ho.out,Hs.out,Hh.out,Hp2.out,drop_all,He2.out,List.take_length]
      rfl)
     have HR2:=h_ Er2;clear Er2 Hp2 He2 Hh Hs Ho;go_wp2_with fail;go_roundw
     case rel=>exact⟨i+1,z2,c+l.length,by omega,by go_num,rfl,rfl,by omega,Hz2,Hfin,h_ (by rw[Hc.out,Hk.out];show c+(l.length+_)=_;omega),HR2.out⟩
     case measure=>simp only[intOf];omega
  ·obtain rfl:i=q.length:=by omega
   have Hr:=h_ (show formB n most t=((c:Int)==(n:Int)) from by
    unfold formB;rw[Ho.out,Hc.out,←HL.out,drop_all];show(true&&decide (c+0=n))=_
    rw[Bool.true_and,Bool.eq_iff_iff,decide_eq_true_eq,beq_iff_eq]
    omega)
   have HR:=h_ Er;clear Er Hc Ho;go_wp2_with fail;refine bodyPost_ret (v:= .bool ((c:Int)==(n:Int))) (by simp[results,Tryz.results43,go_sem]) rfl ⟨by rw[Hr.out],HR.out⟩
def greatS(t:List StpV):Bool:=decide (100<t.length)||t.any fun s=>decide (100<s.l.length)
theorem few_of{t:List StpV}(h:greatS t=false):FewS t:=by
 unfold greatS at h;rw[Bool.or_eq_false_iff,decide_eq_false_iff_not,List.any_eq_false] at h;exact⟨by omega,fun s hs=>by have:=h.2 s hs;simp only[decide_eq_true_eq] at this;omega⟩
theorem few_any{t:List StpV}{k:Nat}{s:StpV}(hs:t[k]? = some s):(t.drop k).any (fun s=>decide (100<s.l.length))=(decide (100<s.l.length)||(t.drop (k+1)).any fun s=>decide (100<s.l.length)):=by
 rw[drop_at hs];rfl
theorem rGreat6_c(q:List (StpV×SAt))(SA:Option Addr)(sc:Nat)(w:World)(hq:StepsZ w SA sc q) :
  Calls Tryz.prog 14 #[.slice SA q.length sc] w fun e w'=>e = .returned (.bool (greatS (q.map (·.1))))∧Ext w w':=by
 obtain⟨t,ht⟩:=nm (q.map (·.1));rw[ht];have hlt0:t.length=q.length:=by rw[←ht,List.length_map]
 have hg: ∀(i:Nat) (x:StpV×SAt),q[i]? = some x→t[i]? = some x.1:=fun i x h=>by rw[←ht,List.getElem?_map,h];rfl
 have Hg:=h_ hg;have HQ:=h_ hq;have hle:=hq.1.le;have hsm:=hq.1.small;by_cases h100:(q.length:Int)>100
 ·have Hr:=h_ (show greatS t=true from by
   unfold greatS;rw[decide_eq_true (by omega)]
   rfl)
  clear ht hg hq hlt0;go_enter Tryz.func14,Tryz.ntmps14;go_wp2_with fail;refine bodyPost_ret (v:= .bool true) (by simp[results,Tryz.results14,go_sem]) rfl ⟨by rw[Hr.out],Ext.refl w⟩
 have Hr0:=h_ (show greatS t=t.any fun s=>decide (100<s.l.length) from by
  unfold greatS;rw[decide_eq_false (by omega)]
  rfl)
 have HL:=h_ hlt0;have hq100:q.length≤100:=by omega
 have h100':decide ((q.length:Int)>100)=false:=decide_eq_false h100;clear ht hg hq hlt0;go_enter Tryz.func14,Tryz.ntmps14;go_wp2_with fail;go_loopw [3] (fun ii wr=> ∃i:Nat,i≤q.length∧ii = .int .i64 i∧wr=w∧Hid (greatS t=(t.drop i).any fun s=>decide (100<s.l.length))) (fun ii _=>q.length-(intOf ii).toNat)
 case atStart=>exact⟨0,by omega,rfl,rfl,h_ Hr0.out⟩
 case round =>
  obtain⟨i,hi,rfl,e,Hd⟩:=hrel;subst e;by_cases hlt:i<q.length
  ·obtain⟨x,hx⟩: ∃x,q[i]? = some x:=⟨_,List.getElem?_eq_getElem hlt⟩;obtain⟨g,off,rfl⟩:=HQ.out.addr (by omega);obtain⟨c0,c1⟩:=HQ.out.cell hx rfl;have Hs:=h_ (few_any (Hg.out _ _ hx));obtain⟨⟨l,v⟩,⟨PA,pc⟩⟩:=x;simp only at c0;have i0:(0:Int)≤i:=by omega
   have i1:(i:Int)<q.length:=by omega
   have i2:(i:Int)<sc:=by omega
   clear hx c1;by_cases hl:(l.length:Int)>100
   ·have Hr:=h_ (show greatS t=true from by rw[Hd.out,Hs.out];simp only[];rw[decide_eq_true (by omega)];rfl);go_wp2_with fail;refine bodyPost_ret (v:= .bool true) (by simp[results,Tryz.results14,go_sem]) rfl ⟨by rw[Hr.out],Ext.refl _⟩
   ·have hl':decide ((l.length:Int)>100)=false:=decide_eq_false hl;have Hr:=h_ (show greatS t=(t.drop (i+1)).any fun s=>decide (100<s.l.length) from by rw[Hd.out,Hs.out];simp only[];rw[decide_eq_false (by omega),Bool.false_or]);go_wp2_with fail;go_roundw
    case rel=>exact⟨i+1,by omega,by go_num,by first|rfl|trivial,Hr⟩
    case measure=>simp only[intOf];omega
  ·obtain rfl:i=q.length:=by omega
   have Hr:=h_ (show greatS t=false from by rw[Hd.out,←HL.out,drop_all];rfl);go_wp2_with fail;refine bodyPost_ret (v:= .bool false) (by simp[results,Tryz.results14,go_sem]) rfl ⟨by rw[Hr.out],Ext.refl _⟩
theorem put_same(b d:Int)(W:World):(binOp .neq 89 (.agg #[.int .i64 b,.int .u8 d]) (.agg #[.int .i64 b,.int .u8 d])).run Tryz.prog W = .ok (.bool false) W:=by
 simp[go_sem]
theorem rSame6_c(q1 q2:List (StpV×SAt))(S1 S2:Option Addr)(c1 c2:Nat)(w:World)(h1:StepsZ w S1 c1 q1)(h2:StepsZ w S2 c2 q2)(he:q1.map (·.1)=q2.map (·.1)) :
  Calls Tryz.prog 18 #[.slice S1 q1.length c1,.slice S2 q2.length c2] w fun e w'=>e = .returned (.bool true)∧Ext w w':=by
 have hn:q2.length=q1.length:=by
  have:=congrArg List.length he;rw[List.length_map,List.length_map] at this;exact this.symm
 have hg: ∀(i:Nat) (x y:StpV×SAt),q1[i]? = some x→q2[i]? = some y→y.1=x.1:=fun i x y hx hy=>by
  have:=congrArg (·[i]?) he;simp only[List.getElem?_map,hx,hy] at this;exact(Option.some.inj this).symm
 have Hg:=h_ hg;have H1:=h_ h1;have H2:=h_ h2;have hle1:=h1.1.le;have hsm1:=h1.1.small;have hle2:=h2.1.le;have hsm2:=h2.1.small;have hmx:q1.length≤9223372036854775807:=by have:=h1.len;unfold maxLen at this;omega
 have Hn:=h_ hn;rw[hn] at hle2 ⊢;have hPS:=put_same;have hne:((q1.length:Int) != q1.length)=false:=by simp
 clear hg h1 h2 he hn;go_enter Tryz.func18,Tryz.ntmps18;go_wp2_with fail;go_loopw [5] (fun ii wr=> ∃i:Nat,i≤q1.length∧ii = .int .i64 i∧Ext w wr) (fun ii _=>q1.length-(intOf ii).toNat)
 case atStart=>exact⟨0,by omega,rfl,Ext.refl w⟩
 case round =>
  obtain⟨i,hi,rfl,Er⟩:=hrel;by_cases hlt:i<q1.length
  ·obtain⟨x,hx⟩: ∃x,q1[i]? = some x:=⟨_,List.getElem?_eq_getElem hlt⟩;obtain⟨y,hy⟩: ∃y,q2[i]? = some y:=⟨_,List.getElem?_eq_getElem (by rw[Hn.out];exact hlt)⟩;have hxy:=Hg.out _ _ _ hx hy;obtain⟨g1,off1,rfl⟩:=H1.out.addr (by omega);obtain⟨g2,off2,rfl⟩:=H2.out.addr (by rw[Hn.out];omega);obtain⟨a0,a1⟩:=(H1.out.ext Er).cell hx rfl;obtain⟨b0,b1⟩:=(H2.out.ext Er).cell hy rfl;have HA:=h_ (fun(W:World) (E:Ext w W)=>(H1.out.ext E).cell hx rfl);have HB:=h_ (fun(W:World) (E:Ext w W)=>(H2.out.ext E).cell hy rfl);have HP1:=h_ (H1.out.puts hx).1;have HP2:=h_ (H2.out.puts hy).1;obtain⟨⟨l,v⟩,⟨PA,pc⟩⟩:=x;obtain⟨⟨l2,v2⟩,⟨PB,pd⟩⟩:=y;obtain⟨rfl,rfl⟩:=StpV.mk.inj hxy;simp only at a0 a1 b0 b1 HA HB HP1 HP2;have i0:(0:Int)≤i:=by omega
   have i1:(i:Int)<q1.length:=by omega
   have i2:(i:Int)<c1:=by omega
   have i3:(i:Int)<c2:=by omega
   have hp1:=HP1.out.1.le;have hp2:=HP2.out.1.le;have hps:=HP1.out.1.small;have hps2:=HP2.out.1.small;have hpm:l2.length≤9223372036854775807:=by have:=HP1.out.len;unfold maxLen at this;omega
   have q1':(v2 != v2)=false:=by simp
   have q2':((l2.length:Int) != l2.length)=false:=by simp
   clear hx hy hxy Hg
   go_upto_region 26 with(fail)
   refine w_g ?_
   repeat (go_big_quiet_step ((fail)))
   refine wpQuiet_nil ?_;intro W5 hW5;have E5:Ext wr W5:=by
    obtain⟨x,rfl⟩:=hW5;exact(Ext.refl _).grow x
   clear hW5;obtain⟨hcW5,hfW5,hzW5⟩:=ext_facts E5;have HE5:=h_ (Er.trans E5);clear a0 a1 b0 b1 hcW5 hfW5 hzW5 E5 Er;go_wp2_with fail;go_loopw [6] (fun kk wr2=> ∃k:Nat,k≤l2.length∧kk = .int .i64 k∧Ext w wr2) (fun kk _=>l2.length-(intOf kk).toNat)
   case atStart=>exact⟨0,by omega,rfl,HE5.out⟩
   case round =>
    obtain⟨k,hk,rfl,Er2⟩:=hrel;obtain⟨a0,-⟩:=HA.out _ Er2;by_cases hkl:k<l2.length
    ·obtain⟨p,hp⟩: ∃p,l2[k]? = some p:=⟨_,List.getElem?_eq_getElem hkl⟩;obtain⟨b0,-⟩:=HB.out _ Er2;obtain⟨g3,off3,rfl⟩:=HP1.out.addr (by omega);obtain⟨g4,off4,rfl⟩:=HP2.out.addr (by omega);obtain⟨e0,e1⟩:=(HP1.out.ext Er2).cell hp rfl;obtain⟨f0,f1⟩:=(HP2.out.ext Er2).cell hp rfl;obtain⟨pb,pd'⟩:=p;simp only at e0 e1 f0 f1;have k0:(0:Int)≤k:=by omega
     have k1:(k:Int)<l2.length:=by omega
     have k2:(k:Int)<pc:=by omega
     have k3:(k:Int)<pd:=by omega
     clear hp
     go_upto_region 17 with(fail)
     refine w_g ?_
     repeat (go_big_quiet_step ((fail)))
     refine wpQuiet_nil ?_;intro W6 hW6;have E6:Ext wr W6:=by
      obtain⟨x,rfl⟩:=hW6;exact(Ext.refl _).grow x
     clear hW6;obtain⟨hcW6,hfW6,hzW6⟩:=ext_facts E6;have HE6:=h_ (Er2.trans E6);clear a0 b0 e0 e1 f0 f1 hcW6 hfW6 hzW6 E6 Er2;go_wp2_with fail;go_roundw
     case rel=>exact⟨k+1,by omega,by go_num,HE6.out⟩
     case measure=>simp only[intOf];omega
    ·obtain rfl:k=l2.length:=by omega
     have HR2:=h_ Er2;clear Er2;go_wp2_with fail;go_roundw
     case rel=>exact⟨i+1,by omega,by go_num,HR2.out⟩
     case measure=>simp only[intOf];omega
  ·obtain rfl:i=q1.length:=by omega
   have HR:=h_ Er;clear Er;go_wp2_with fail;refine bodyPost_ret (v:= .bool true) (by simp[results,Tryz.results18,go_sem]) rfl ⟨rfl,HR.out⟩
end Go.Proofs.YtojolpbpjimfgaaGreatDoor
namespace Go.Proofs.YtojolpbpjimfgaaGreatDoor
open Go.RowKit Go.Shelf
attribute [local go_sem] Oper.semAt_some
theorem infoI6:(Tryz.prog.info? 3).map (fun i=>(i.zero,i.size,i.bytes))=some (some (.int .i64 0),1,8):=by kernel_rfl
def iv6(l:List Nat):List Value:=l.map fun i:Nat=> .int .i64 (i:Int)
theorem blk_put6{X:World}{g D:Nat}{t:TypeId}{cs:Array Value}{o:Obj}(h:Blk X g t cs)(hK:X.heap[D]? = some o)(hc:o.isCells=false)(o':Obj):Blk (X.putObj D o') g t cs:=h.grown (grownBy_putObj' X D o') (fun e=>by
 cases e;rw[show X.heap[g]? = _ from h] at hK;cases hK
 cases hc)
end Go.Proofs.YtojolpbpjimfgaaGreatDoor
namespace Go.Proofs.YtojolpbpjimfgaaGreatDoor
open Go.RowKit
def IntsPost(l:List Int)(w:World)(e:Ending)(w':World):Prop:= ∃A cap,e = .returned (.slice A l.length cap)∧IntsZ w' A cap l∧Ext w w'
theorem ints_own6{w:World}{b:Nat}{v:Value}{l:List Int}(h:w.ownsRow b 3 1 v l.length (l.map (Value.int .i64))): ∃A cap,v = .slice A l.length cap∧IntsZ w A cap l:=by
 obtain⟨A1,cap,e,h1,-⟩:=own_slice0 (n:=l.length) (rows:=l.map fun n=> [Value.int .i64 n]) (fun r hr=>by obtain⟨y,-,rfl⟩:=List.mem_map.1 hr;rfl) (by simp) (by
  rw[show(l.map fun n=> [Value.int .i64 n])=(l.map (Value.int .i64)).map fun v=> [v] from by rw[List.map_map];rfl,flat_ones]
  exact h)
 exact⟨A1,cap,e,h1⟩
theorem bricks_own6{w:World}{b:Nat}{v:Value}{l:List Brk}(h:w.ownsRow b 126 6 v l.length (l.map Brk.cs).flatten)(hb: ∀x∈l,x.byte): ∃A cap,v = .slice A l.length cap∧Bricks w A cap l:=by
 obtain⟨A',cap',he,hs,-⟩:=own_slice0 (fun r hr=>by obtain⟨y,-,rfl⟩:=List.mem_map.1 hr;rfl) (by rw[List.length_map]) h;exact⟨A',cap',he,hs,hb⟩
theorem own_emptyF(w:World){U:Nat}(hU:U≤w.heap.size)(e:TypeId)(sz:Nat):(w.alloc (.cells #[] e)).ownsRow U e sz (.slice (some ⟨w.heap.size,0,none⟩) 0 0) 0 []:=by
 exact World.ownsRow_made w #[] 0 hU (Nat.zero_le _) (by simp)
theorem wpList_append_anyF{P:Program}{w:World}{ops:Array Oper}{o:Oper}{rest:List Oper}{a:Act}{Q:Exit→Act→World→Prop}(hgd:o.guard=none)(s x:Operand)(t:TypeId)(ho:o.op = .call { callee:= .builtin .append,args:= #[s,x],argTypes:= #[t,t] })
  (base:Nat) (e:TypeId) (i:TypeInfo) (z:Value) (size bytes:Nat) (ht:P.underlying t=some (.slice e)) (hi:P.info? e=some i) (hz:i.zero=some z)
  (hsize:i.size=size) (hby:i.bytes=bytes) (hzs:z.cells.size=size) (hsz:0<size)
  (v:Value) (n:Nat) (xs:List Value) (hs:a.eval s=v) (hown:w.ownsRow base e size v n xs)
  (A:Option Addr) (m c:Nat) (rows:List (List Value)) (hx:a.eval x = .slice A m c) (hsrc:SliceIs w A m c size rows) (hnil:A=none→c=0) (h1: ∀u∈rows.flatten,u.oneCell'=true)
  (h63:n+m≤maxLen) (hbytes:(n+m)*bytes≤140737488355328) (hbase:base≤w.heap.size)
  (h: ∀v' w',w'.ownsRow base e size v' (n+m) (xs++rows.flatten)→w.grownBy w' v.ownBlock→wpList P ops Q rest (a.put o.dst v') w'):wpList P ops Q (o::rest) a w :=
 wpList_plain hgd fun _ hK=>by
  have:=step_append_any (P:=P) (ops:=ops) (o:=o) (a:=a) (Q:=Q) (F:=True) hgd s x t ho base e i z size bytes ht hi hz hsize hby hzs hsz v n xs hs hown A m c rows hx hsrc hnil h1 h63 hbytes hbase (fun v' w' h2 h3=>hK _ _ (h v' w' h2 h3));rwa [if_pos (by simp[Region.wanted,hgd])] at this
theorem infoPut6:(Tryz.prog.info? 89).map (fun i=>(i.zero,i.size,i.bytes))=some (some (.agg #[.int .i64 0,.int .u8 0]),2,16):=by kernel_rfl
theorem infoStp6:(Tryz.prog.info? 84).map (fun i=>(i.zero,i.size,i.bytes))=some (some (.agg #[.slice none 0 0,.int .u8 0]),2,32):=by kernel_rfl
theorem own_setFar{w:World}{g:Nat}{t:TypeId}{cs:Array Value}{b:Nat}{e:TypeId}{sz:Nat}{v:Value}{n:Nat}{xs:List Value}(B:Blk w g t cs)(own:w.ownsRow b e sz v n xs)(hne:t≠e)(off:Nat)(u:Value):(w.setCell ⟨g,off,none⟩ u).ownsRow b e sz v n xs :=
 own_only (K:=fun k=>k=g) own (Only.setCell (K:=fun k=>k=g) (Only.refl _ w) (p:=⟨g,off,none⟩) (fun _=>rfl) u) fun r hr e1=>by
  subst e1;obtain⟨cs',h'⟩:=own_typed own hr;unfold Blk at B h';rw[B] at h';cases h';exact hne rfl
def PutsO(w:World)(U:Nat)(x:StpV×SAt):Prop:=w.ownsRow U 89 2 (.slice x.2.A x.1.l.length x.2.c) x.1.l.length (x.1.l.map PutV.cs).flatten
theorem PutsO.ext{w w':World}{U:Nat}{x:StpV×SAt}(h:PutsO w U x)(E:Ext w w'):PutsO w' U x:=own_ext h E
theorem PutsO.grown{w w':World}{U b sz n:Nat}{v:Value}{xs:List Value}{x:StpV×SAt}(h:PutsO w U x)(own:w.ownsRow b 84 sz v n xs)(hg:w.grownBy w' v.ownBlock):PutsO w' U x:=ownGrown h hg (ownApart h own (by decide))
theorem PutsO.puts{w:World}{U:Nat}{x:StpV×SAt}(h:PutsO w U x)(hb: ∀p∈x.1.l,p.byte):PutsZ w x.2.A x.2.c x.1.l:=by
 obtain⟨A,cap,e,hS,-⟩:=own_slice0 (fun r hr=>by obtain⟨y,-,rfl⟩:=List.mem_map.1 hr;rfl) (by rw[List.length_map]) h;cases e;exact⟨hS,hb⟩
def TwinPost(t:List StpV)(w:World)(e:Ending)(w':World):Prop:= ∃A cap q,e = .returned (.slice A q.length cap)∧StepsZ w' A cap q∧q.map (·.1)=t∧Ext w w'
theorem puts_cells{l:List PutV}{u:Value}(hu:u∈(l.map PutV.cs).flatten):u.oneCell'=true:=by
 obtain⟨r,hr,hur⟩:=List.mem_flatten.1 hu;obtain⟨p,-,rfl⟩:=List.mem_map.1 hr;simp only[PutV.cs,List.mem_cons,List.not_mem_nil,or_false] at hur;rcases hur with rfl|rfl <;> rfl
theorem twin6_c(q:List (StpV×SAt))(SA:Option Addr)(sc:Nat)(w:World)(hq:StepsZ w SA sc q)(hf:FewS (q.map (·.1)))(hnil: ∀x∈q,x.2.A=none→x.2.c=0) :
  Calls Tryz.prog 15 #[.slice SA q.length sc] w (TwinPost (q.map (·.1)) w):=by
 obtain⟨t,ht⟩:=nm (q.map (·.1));rw[ht] at hf;rw[ht];have hlt0:t.length=q.length:=by rw[←ht,List.length_map]
 have hg: ∀(i:Nat) (x:StpV×SAt),q[i]? = some x→t[i]? = some x.1:=fun i x h=>by rw[←ht,List.getElem?_map,h];rfl
 have Hg:=h_ hg;have HF:=h_ hf;have HQ:=h_ hq;have HN:=h_ hnil;have HL:=h_ hlt0;have hq100:q.length≤100:=by have:=hf.1;omega
 have hle:=hq.1.le;have hsm:=hq.1.small;obtain⟨i8,hi8,hz8,hz81,hz82⟩:=info_parts infoPut6;obtain⟨i7,hi7,hz7,hz71,hz72⟩:=info_parts infoStp6;obtain⟨U,hU⟩:=nm w.heap.size;have HU:=h_ hU;clear ht hg hf hq hnil hlt0 hU;go_enter Tryz.func15,Tryz.ntmps15;go_wp2_with fail;go_loopw [3,8] (fun vs ii wr=> ∃(i:Nat) (q2:List (StpV×SAt)) (u:Value),i≤q.length∧ii = .int .i64 i∧vs=u∧Hid (q2.map (·.1)=t.take i)∧Ext w wr∧wr.ownsRow U 84 2 u i (q2.map fun x=>x.1.cs x.2).flatten∧Hid (∀x∈q2,PutsO wr U x)) (fun _ ii _=>q.length-(intOf ii).toNat)
 case atStart=>exact⟨0,[],_,by omega,rfl,rfl,h_ rfl,Ext.refl _,World.ownsRow_nil _ _ _ _,h_ (by simp)⟩
 case round =>
  obtain⟨i,q2,vs,hi,rfl,rfl,Hm,Er,own,HPo⟩:=hrel;by_cases hlt:i<q.length
  ·obtain⟨x,hx⟩: ∃x,q[i]? = some x:=⟨_,List.getElem?_eq_getElem hlt⟩;obtain⟨g,off,rfl⟩:=HQ.out.addr (by omega);obtain⟨c0,c1⟩:=(HQ.out.ext Er).cell hx rfl;have HP:=h_ (HQ.out.puts hx).1;have hnl:=HN.out x (List.mem_of_getElem? hx);have hTx:=Hg.out _ _ hx;have Ht:=h_ (take_at hTx);have hl100:=HF.out.2 _ (List.mem_of_getElem? hTx);obtain⟨⟨l,v⟩,⟨PA,pc⟩⟩:=x;simp only at c0 c1 HP hl100 hnl Ht;have i0:(0:Int)≤i:=by omega
   have i1:(i:Int)<q.length:=by omega
   have i2:(i:Int)<sc:=by omega
   obtain⟨W1,hW1,E1,B1,hz1⟩:=mk_ wr #[.slice PA l.length pc,.int .u8 v] 84;have b1:=B1.cell;have hU1:U≤W1.heap.size:=by have:=HU.out;have:=Er.size;omega
   have own0:=own_emptyF W1 hU1 89 2;obtain⟨W9,hW9,E9,-,-⟩:=mk_ W1 #[] 89;rw[hW9] at own0;have hU9:U≤W9.heap.size:=by have:=E9.size;omega
   have hsrc:=(HP.out.ext (Er.trans (E1.trans E9))).1;have HB9:=h_ (B1.ext E9);have b9:=HB9.out.cell;have HE9:=h_ (E1.trans E9);have HEr:=h_ Er;have HO:=h_ own;have hlow:wr.heap.size≤W1.heap.size:=E1.size;have hjl:i+1≤maxLen:=by unfold maxLen;omega
   clear hx hTx B1 hz1 E1 E9 Er own;go_wp2_with (first|(at_builtin;refine wpList_append_anyF rfl (.tmp 12) (.tmp 14) 82 rfl U 89 i8 _ 2 16 Tryz.underlying82 hi8 hz8 hz81 hz82 rfl (by decide) _ 0 [] rfl own0 PA l.length pc (l.map PutV.cs) rfl hsrc hnl (fun u hu=>puts_cells hu) (by unfold maxLen;omega) (by omega) hU9 fun v' W10 own' hg'=> ?_;rw[Nat.zero_add,List.nil_append] at own';obtain⟨OA,oc,rfl⟩:=ownForm own';have E10:=HE9.out.grown hg' (fun k hk=>by cases hk;omega);have BT:=blkGrown HB9.out own0 hg' (by decide);have bT:=BT.cell;have fT:=BT.frozen;obtain⟨V,hV⟩:=nm (W10.setCell ⟨wr.heap.size,0,none⟩ (.slice OA l.length oc));have HEV:=h_ (show Ext wr V from hV▸E10.setCell (p:=⟨wr.heap.size,0,none⟩) (Nat.le_refl _) _);have BV:Blk V wr.heap.size 84 #[.slice OA l.length oc,.int .u8 v]:=hV▸BT.set_ 0 _;have bV:=BV.cell;have HoV:=h_ (show PutsO V U (⟨l,v⟩,⟨OA,oc⟩) from hV▸own_setFar BT own' (by decide) 0 _);have ownV:=own_ext HO.out HEV.out;have hUV:U≤V.heap.size:=(by have:=HU.out;have:=HEr.out.size;have:=HEV.out.size;omega);clear own' hg' own0 hW9 hsrc hU9 E10 BT BV b9 HB9)|(at_builtin;refine wpList_append_one #[.slice OA l.length oc,.int .u8 v] rfl (.tmp 17) (.tmp 19) 43 rfl U 84 84 i7 _ 2 32 Tryz.underlying43 hi7 hz7 hz71 hz72 rfl (by decide) _ i _ _ rfl ownV rfl rfl (by simp[Value.oneCell']) hjl (by omega) hUV ?_;intro g7 cap7 w7 own7 hg7));go_roundw
   case rel =>
    have ownA:=own_ext ownV ((Ext.refl V).alloc (.cells #[.slice OA l.length oc,.int .u8 v] 84));refine⟨i+1,q2 ++ [(⟨l,v⟩,⟨OA,oc⟩)],_,by omega,by go_num,rfl,h_ (by rw[List.map_append,Hm.out,Ht.out];rfl),((HEr.out.trans HEV.out).alloc _).grown hg7 (fun k hk=>by have:=(ownV.lt k hk).1;have:=HU.out;omega),?_,h_ fun x hx=> ?_⟩
    ·rw[List.map_append,List.flatten_append];exact own7
    ·rcases List.mem_append.1 hx with h|h
     ·exact(((HPo.out x h).ext HEV.out).ext ((Ext.refl V).alloc _)).grown ownA hg7
     ·rw[List.mem_singleton] at h;subst h;exact(HoV.out.ext ((Ext.refl V).alloc _)).grown ownA hg7
   case measure=>simp only[intOf];omega
  ·obtain rfl:i=q.length:=by omega
   have hq2:q2.map (·.1)=t:=by rw[Hm.out,←HL.out,List.take_length]
   have hln:q2.length=q.length:=by rw[←HL.out,←hq2,List.length_map]
   rw[←hln] at own;obtain⟨FA,fc,rfl,hS,-⟩:=own_slice0 (fun r hr=>by obtain⟨y,-,rfl⟩:=List.mem_map.1 hr;rfl) (by rw[List.length_map]) own;have HS:=h_ (show StepsZ wr FA fc q2 from⟨hS,fun x hx=>by
    obtain⟨k,hk⟩:=List.getElem?_of_mem hx;have h1:t[k]? = some x.1:=by rw[←hq2,List.getElem?_map,hk];rfl
    have hkq:k<q.length:=by rw[←hln];exact(List.getElem?_eq_some_iff.1 hk).1
    obtain⟨y,hy⟩: ∃y,q[k]? = some y:=⟨_,List.getElem?_eq_getElem hkq⟩;have h2:=Hg.out _ _ hy;rw[h1] at h2;have h3:=HQ.out.puts hy;rw[←Option.some.inj h2] at h3
    exact⟨(HPo.out x hx).puts h3.1.2,h3.2⟩⟩)
   have Hm2:=h_ hq2;have HR:=h_ Er;obtain⟨n2,hn2⟩:=nm q2.length;have Hn2:=h_ hn2;rw[hn2];clear hS own Er hq2 hln hn2 Hm HPo;go_wp2_with fail;refine bodyPost_ret (v:= .slice FA n2 fc) (by simp[results,Tryz.results15,go_sem]) rfl ⟨FA,fc,q2,by rw[Hn2.out],HS.out,Hm2.out,HR.out⟩
theorem and_u64{a b:Nat}(ha:a<2 ^ 64)(hb:b<2 ^ 64):bits .and .u64 (a:Int) (b:Int)=((a&&&b:Nat):Int):=bits_and_u64_nat a b ha hb
theorem wrap_nat{a:Nat}(ha:a<2 ^ 64):IntKind.u64.wrap (a:Int)=a:=by
 rw[IntKind.wrap_u64];omega
theorem and_127{a:Nat}(ha:a<2 ^ 63):bits .and .i64 (a:Int) 127=((a % 128:Nat):Int):=by
 have h1:(BitVec.ofInt 64 (a:Int)).toNat=a:=by
  rw[BitVec.ofInt_natCast,BitVec.toNat_ofNat];exact Nat.mod_eq_of_lt (by omega)
 have h3:a&&&127=a % 128:=Nat.and_two_pow_sub_one_eq_mod a 7;show IntKind.i64.wrap ((BitVec.ofInt 64 (a:Int)&&&BitVec.ofInt 64 127).toNat:Int)=_
 rw[BitVec.toNat_and,h1,show(BitVec.ofInt 64 127).toNat=127 from rfl,h3];simp[IntKind.wrap,IntKind.bits,IntKind.signed];omega
theorem ones6_c(x:Nat)(hx:x<2 ^ 64)(w:World) :
  Calls Tryz.prog 83 #[.int .u64 x] w fun e w'=>e = .returned (.int .i64 ((setL x).length:Nat))∧w'=w:=by
 obtain⟨u,v,k1,k2,k3,k4,k5,k6⟩:=pop_is x;obtain⟨p,hp⟩:=nm (x / 2&&&6148914691236517205);obtain⟨q,hq⟩:=nm (x&&&6148914691236517205);have ea:popSA 8 x=p+q:=by rw[←hp,←hq];rfl
 obtain⟨A,hA⟩:=nm (popSA 8 x);obtain⟨r,hr⟩:=nm (A / 4&&&3689348814741910323);obtain⟨s,hs⟩:=nm (A&&&3689348814741910323);have eb:popSB 8 A=r+s:=by rw[←hr,←hs];rfl
 obtain⟨B,hB⟩:=nm (popSB 8 A);obtain⟨T,hT⟩:=nm (popTB 8 x);have et:B / 16+B&&&1085102592571150095=T:=by rw[←hT,popTB,hA,hB];rfl
 have b1:p≤6148914691236517205:=hp▸Nat.and_le_right;have b2:q≤6148914691236517205:=hq▸Nat.and_le_right;have b3:r≤3689348814741910323:=hr▸Nat.and_le_right;have b4:s≤3689348814741910323:=hs▸Nat.and_le_right;rw[hA] at ea;rw[hB] at eb;rw[hT] at k1 k4 k5 k6;have f1:bits .and .u64 ((x:Int) / 2) 6148914691236517205=(p:Int):=by rw[←hp];exact and_u64 (a:=x / 2) (b:=6148914691236517205) (by omega) (by decide)
 have f2:bits .and .u64 (x:Int) 6148914691236517205=(q:Int):=by rw[←hq];exact and_u64 (b:=6148914691236517205) hx (by decide)
 have f3:IntKind.u64.wrap ((p:Int)+q)=A:=by rw[ea];exact wrap_nat (a:=p+q) (by omega)
 have f4:bits .and .u64 ((A:Int) / 4) 3689348814741910323=(r:Int):=by rw[←hr];exact and_u64 (a:=A / 4) (b:=3689348814741910323) (by omega) (by decide)
 have f5:bits .and .u64 (A:Int) 3689348814741910323=(s:Int):=by rw[←hs];exact and_u64 (b:=3689348814741910323) (by omega) (by decide)
 have f6:IntKind.u64.wrap ((r:Int)+s)=B:=by rw[eb];exact wrap_nat (a:=r+s) (by omega)
 have f7:IntKind.u64.wrap ((B:Int) / 16+B)=((B / 16+B:Nat):Int):=wrap_nat (a:=B / 16+B) (by omega);have f8:bits .and .u64 ((B / 16+B:Nat):Int) 1085102592571150095=(T:Int):=by rw[←et];exact and_u64 (b:=1085102592571150095) (by omega) (by decide)
 have f9:IntKind.u64.wrap ((T:Int)+(T:Int) / 256)=u:=by rw[←k1];exact wrap_nat (a:=T+T / 256) (by omega)
 have g1:IntKind.u64.wrap ((u:Int)+(u:Int) / 65536)=v:=by rw[←k2];exact wrap_nat (a:=u+u / 65536) (by omega)
 obtain⟨y,hy⟩:=nm (v+v / 4294967296);have g2:IntKind.u64.wrap ((v:Int)+(v:Int) / 4294967296)=y:=by rw[←hy];exact wrap_nat (a:=v+v / 4294967296) (by omega)
 rw[hy] at k3;have hy2:y<2 ^ 63:=by omega
 have g3:=and_127 hy2;rw[k3] at g3;have g4:IntKind.i64.wrap (y:Int)=y:=by
  simp[IntKind.wrap,IntKind.bits,IntKind.signed];omega
 obtain⟨n,hn⟩:=nm ((setL x).length);rw[hn] at g3 ⊢;generalize B / 16+B=D at f7 f8;clear k1 k2 k3 k4 k5 k6 hp hq ea hA hr hs eb hB hT et b1 b2 b3 b4 hy hn hx hy2;go_enter Tryz.func83,Tryz.ntmps83;go_wp2_with fail;go_ret;exact⟨rfl,rfl⟩
end Go.Proofs.YtojolpbpjimfgaaGreatDoor
