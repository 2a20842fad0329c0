/- Texts of the proof: RForm, RWith. -/
import Derived.Test.YtojolpbpjimfgaaGreatDoorZy7
import Derived.Test.YtojolpbpjimfgaaGreatDoorZy24
import Derived.Test.YtojolpbpjimfgaaGreatDoorZy27
import Derived.Test.YtojolpbpjimfgaaGreatDoorZy46
set_option maxHeartbeats 16000000
set_option maxRecDepth 100000
namespace Go.Proofs.YtojolpbpjimfgaaGreatDoor
open Go.RowKit
theorem hasZ_snoc(l:List Int)(x n:Int):hasZ (l ++ [x]) n=(hasZ l n||(x==n)):=by
 unfold hasZ;rw[List.any_append];simp
theorem rFormed_c(B:Option Addr)(cb:Nat)(n:Nat)(most:Int)(q:List (StpV×SAt))(SA:Option Addr)(sc:Nat)(w:World)(hq:StepsZ w SA sc q)(hn:n≤64)(hf:FewS (q.map (·.1))) :
  Calls Tryz.prog 45 #[.agg #[.slice B n cb],.int .i64 most,.slice SA q.length sc] w fun e w'=>e = .returned (.bool (formB n most (q.map (·.1))))∧Ext w w':=by
 obtain⟨W0,hW0,E0,B0,hz0⟩:=mk_ w #[.slice B n cb] 25;obtain⟨t,ht⟩:=nm (q.map (·.1));rw[ht] at hf;rw[ht];have hlt0:t.length=q.length:=by rw[←ht,List.length_map]
 have hg: ∀(i:Nat) (x:StpV×SAt),q[i]? = some x→t[i]? = some x.1:=fun i x h=>by rw[←ht,List.getElem?_map,h];rfl
 have Hg:=h_ hg;have HF:=h_ hf;have HQ:=h_ (hq.ext E0);have HL:=h_ hlt0;have HE0:=h_ E0;have HB0:=h_ B0;have hq100:q.length≤100:=by have:=hf.1;omega
 have hle:=HQ.out.1.le;have hsm:=HQ.out.1.small;obtain⟨i9,hi9,hz9,hz91,hz92⟩:=info_parts infoI6;obtain⟨U,hU⟩:=nm W0.heap.size;have HU:=h_ hU;clear ht hg hf hq hlt0 E0 B0 hz0 hU;go_enter Tryz.func45,Tryz.ntmps45;go_wp2_with fail;go_loopw [7,8] (fun vs ii wr=> ∃(i z:Nat) (S:List Int) (u:Value),i≤q.length∧ii = .int .i64 i∧vs=u∧S.length≤100*i∧Hid (SetB n z)∧Hid (∀j:Nat,hasZ S j=z.testBit j)∧Hid (stepsOk n most 0 t=stepsOk n most z (t.drop i))∧Hid (cntP t=S.length+cntP (t.drop i))∧Ext W0 wr∧wr.ownsRow U 3 1 u S.length (S.map (Value.int .i64))) (fun _ ii _=>q.length-(intOf ii).toNat)
 case atStart=>exact⟨0,0,[],_,by omega,rfl,rfl,by simp,h_ (SetB.zero n),h_ fun j=>by simp[hasZ],h_ rfl,h_ (by simp),Ext.refl _,World.ownsRow_nil _ _ _ _⟩
 case round =>
  obtain⟨i,z,S,vs,hi,rfl,rfl,hc,Hz,Hh,Ho,Hc,Er,own⟩:=hrel;by_cases hlt:i<q.length
  ·obtain⟨x,hx⟩: ∃x,q[i]? = some x:=⟨_,List.getElem?_eq_getElem hlt⟩;obtain⟨g,off,rfl⟩:=HQ.out.addr (by omega);have HX:=h_ hx;obtain⟨c0,c1⟩:=(HQ.out.ext Er).cell hx rfl;have hby:=(HQ.out.puts hx).2;have HP:=h_ (HQ.out.puts hx).1;have hTx:=Hg.out _ _ hx;have Hs:=h_ (stepsOk_at (n:=n) (z:=z) (most:=most) hTx);have Hk:=h_ (cntP_at hTx);have hl100:=HF.out.2 _ (List.mem_of_getElem? hTx);have HC:=h_ (fun(W:World) (E:Ext W0 W)=>(HQ.out.ext E).cell hx rfl);obtain⟨⟨l,v⟩,⟨PA,pc⟩⟩:=x;simp only at c0 c1 HP hby hl100 HC;have hpl:=HP.out.1.le;have hps:=HP.out.1.small;have i0:(0:Int)≤i:=by omega
   have i1:(i:Int)<q.length:=by omega
   have i2:(i:Int)<sc:=by omega
   have WI:=within6_c l.length 1 most wr;obtain⟨r,hr⟩:=nm (inB 1 most (l.length:Int));rw[hr] at WI;have hr2:(!(decide ((l.length:Int)<1)||decide (most<(l.length:Int))))=r:=by
    rw[←hr,Bool.eq_iff_iff,inB_iff,Bool.not_eq_true',Bool.or_eq_false_iff,decide_eq_false_iff_not,decide_eq_false_iff_not];omega
   have Hr0:=h_ hr2;have hby':0≤v∧v<256:=hby;obtain⟨hv0,hv1⟩:=hby';clear hx hby hTx hr hr2 Hg;go_wp2_with fail;refine WI.mono ?_;rintro e W1 ⟨rfl,E1⟩;have c1':=E1.cell c1;have HE1:=h_ (Er.trans E1);have Hown:=h_ (own_ext own E1);clear c0 c1 E1 Er own WI;cases r
   ·have Hr:=h_ (show formB n most t=false from by
     unfold formB;rw[Ho.out,Hs.out,show headOk most ⟨l,v⟩=false from by unfold headOk;have h:=Hr0.out;rw[Bool.not_eq_false'] at h;simp only[];rw[h];rfl]
     rfl)
    go_wp2_with fail;refine bodyPost_ret (v:= .bool false) (by simp[results,Tryz.results45,go_sem]) rfl ⟨by rw[Hr.out],HE0.out.trans HE1.out⟩
   by_cases hv5:v>5
   ·have Hr:=h_ (show formB n most t=false from by
     unfold formB;rw[Ho.out,Hs.out,show headOk most ⟨l,v⟩=false from by unfold headOk;simp[hv5]]
     rfl)
    go_wp2_with fail;refine bodyPost_ret (v:= .bool false) (by simp[results,Tryz.results45,go_sem]) rfl ⟨by rw[Hr.out],HE0.out.trans HE1.out⟩
   have hv5':decide (v>5)=false:=decide_eq_false hv5;have Hh0:=h_ (show headOk most ⟨l,v⟩=true from by
    have h:=Hr0.out;rw[Bool.not_eq_true'] at h;unfold headOk;simp only[];rw[h,show decide (5<v)=false from hv5']
    rfl)
   go_wp2_with fail;clear c1';go_loopw [7,9] (fun vs kk wr2=> ∃(k z2:Nat) (S2:List Int) (u:Value),k≤l.length∧kk = .int .i64 k∧vs=u∧S2.length=S.length+k∧Hid (SetB n z2)∧Hid (∀j:Nat,hasZ S2 j=z2.testBit j)∧Hid (putsOk n z l=putsOk n z2 (l.drop k))∧Hid (z2=putsZ z (l.take k))∧Ext W0 wr2∧wr2.ownsRow U 3 1 u S2.length (S2.map (Value.int .i64))) (fun _ kk _=>l.length-(intOf kk).toNat)
   case atStart=>exact⟨0,z,S,_,by omega,rfl,rfl,rfl,Hz,Hh,h_ rfl,h_ rfl,HE1.out,Hown.out⟩
   case round =>
    clear Hown;obtain⟨k,z2,S2,vs,hk,rfl,rfl,hS2,Hz2,Hh2,Hp2,He2,Er2,own⟩:=hrel;obtain⟨c0,-⟩:=HC.out _ Er2;by_cases hkl:k<l.length
    ·obtain⟨p,hp⟩: ∃p,l[k]? = some p:=⟨_,List.getElem?_eq_getElem hkl⟩;obtain⟨pg,po,rfl⟩:=HP.out.addr (by omega);obtain⟨e0,e1⟩:=(HP.out.ext Er2).cell hp rfl;have hpb:=HP.out.byte hp;have Hs2:=h_ (putsOk_at (n:=n) (z:=z2) hp);have Ht2:=h_ (take_at hp);obtain⟨pb,pd⟩:=p;simp only at e0 e1 hpb;obtain⟨hd0,hd1⟩:0≤pd∧pd<256:=hpb;obtain⟨W2,hW2,E2,B2,hz2⟩:=mk_ wr #[.int .i64 pb,.int .u8 pd] 89;have b2:=B2.cell;have b0:=(HB0.out.ext (Er2.trans E2)).cell;have HE2:=h_ (Er2.trans E2);have HB2:=h_ B2;have ow2:=own_ext own E2;obtain⟨FA,fc,rfl,hFI⟩:=ints_own6 ow2;have HFI:=h_ hFI;have HO2:=h_ ow2;have k0:(0:Int)≤k:=by omega
     have k1:(k:Int)<l.length:=by omega
     have k2:(k:Int)<pc:=by omega
     have n1:(n:Int)≤64:=by omega
     have n0:(0:Int)≤n:=by omega
     have WI:=within6_c pb 0 ((n:Int)-1) W2;have IC:=h_ (fun(W:World) (E:Ext W2 W)=>rIn6_c FA fc S2 pb W (IntsZ.ext HFI.out E));obtain⟨r,hr⟩:=nm (inB 0 ((n:Int)-1) pb);rw[hr] at WI;obtain⟨sn,hsn⟩:=nm S2.length;rw[hsn] at HO2 IC ⊢;have Hsn:=h_ hsn;rw[hS2] at hsn;have HrB:=h_ hr;clear hp B2 hz2 E2 Er2 own ow2 hFI hr hS2;go_wp2_with fail;refine WI.mono ?_;rintro e W3 ⟨rfl,E3⟩;have HE3:=h_ (HE2.out.trans E3);have b3:=(HB2.out.ext E3).cell;have HB3:=h_ (HB2.out.ext E3);have HO3:=h_ (own_ext HO2.out E3);have IC3:=IC.out W3 E3;clear WI b2 b0 E3 HO2 c0 e0 e1;cases r
     ·have hout:pb<0∨(n:Int)≤pb:=by
       have h: ¬(0≤pb∧pb≤(n:Int)-1):=inB_not.1 HrB.out;omega
      rcases hout with hout|hout
      ·have Hr:=h_ (show formB n most t=false from by
        unfold formB;rw[Ho.out,Hs.out,Hp2.out,Hs2.out,show putOk n z2 ⟨pb,pd⟩=false from by unfold putOk;simp[hout]]
        simp)
       go_wp2_with fail;refine bodyPost_ret (v:= .bool false) (by simp[results,Tryz.results45,go_sem]) rfl ⟨by rw[Hr.out],HE0.out.trans HE3.out⟩
      ·have Hr:=h_ (show formB n most t=false from by
        unfold formB;rw[Ho.out,Hs.out,Hp2.out,Hs2.out,show putOk n z2 ⟨pb,pd⟩=false from by unfold putOk;simp[hout]]
        simp)
       go_wp2_with fail;refine bodyPost_ret (v:= .bool false) (by simp[results,Tryz.results45,go_sem]) rfl ⟨by rw[Hr.out],HE0.out.trans HE3.out⟩
     have hin:0≤pb∧pb≤(n:Int)-1:=inB_iff.1 HrB.out;obtain⟨b,rfl⟩:=Int.eq_ofNat_of_zero_le hin.1;have hbn:b<n:=by omega
     rw[Hh2.out b] at IC3;obtain⟨r,hr⟩:=nm (z2.testBit b);rw[hr] at IC3;have Hr1:=h_ hr;clear hr hin HrB IC;go_wp2_with fail;refine IC3.mono ?_;rintro e W4 ⟨rfl,E4⟩;have HE4:=h_ (HE3.out.trans E4);have b4:=(HB3.out.ext E4).cell;have ow4:=own_ext HO3.out E4;clear b3 E4 HO3 IC3;cases r;rotate_left
     ·have Hr:=h_ (show formB n most t=false from by
       unfold formB;rw[Ho.out,Hs.out,Hp2.out,Hs2.out,show putOk n z2 ⟨(b:Int),pd⟩=false from by unfold putOk;simp[Hr1.out]]
       simp)
      go_wp2_with fail;refine bodyPost_ret (v:= .bool false) (by simp[results,Tryz.results45,go_sem]) rfl ⟨by rw[Hr.out],HE0.out.trans HE4.out⟩
     by_cases hd5:pd>5
     ·have Hr:=h_ (show formB n most t=false from by
       unfold formB;rw[Ho.out,Hs.out,Hp2.out,Hs2.out,show putOk n z2 ⟨(b:Int),pd⟩=false from by unfold putOk;simp[hd5]]
       simp)
      go_wp2_with fail;refine bodyPost_ret (v:= .bool false) (by simp[results,Tryz.results45,go_sem]) rfl ⟨by rw[Hr.out],HE0.out.trans HE4.out⟩
     have hd5':decide (pd>5)=false:=decide_eq_false hd5;have Hok:=h_ (show putOk n z2 ⟨b,pd⟩=true from by
      rw[putOk_iff]
      exact⟨⟨by show(0:Int)≤b;omega,by show(b:Int)<n;omega⟩,by show z2.testBit (b:Int).toNat=false;rw[Int.toNat_natCast];exact Hr1.out,by show pd≤5;omega⟩)
     have hjl:sn+1≤maxLen:=by unfold maxLen;omega
     have hU4:U≤W4.heap.size:=by have:=HU.out;have:=HE4.out.size;omega
     go_wp2_with (at_builtin;refine wpList_append_one #[.int .i64 b] rfl (.tmp 71) (.tmp 74) 26 rfl U 3 3 i9 _ 1 8 Tryz.underlying26 hi9 hz9 hz91 hz92 rfl (by decide) _ sn _ _ rfl ow4 rfl rfl (by simp[Value.oneCell']) hjl (by omega) hU4 ?_;intro g7 cap7 w7 own7 hg7);go_roundw
     case rel =>
      refine⟨k+1,putN z2 b,S2 ++ [(b:Int)],_,by omega,by go_num,rfl,by rw[List.length_append,Hsn.out];simp only[List.length_singleton];omega,h_ (Hz2.out.put hbn),h_ fun j=> ?_,h_ (by rw[Hp2.out,Hs2.out,Hok.out];rfl),h_ (by rw[Ht2.out,putsZ_snoc,←He2.out];rfl),(HE4.out.alloc _).grown hg7 (fun k hk=>by have:=(ow4.lt k hk).1;have:=HU.out;omega),?_⟩
      ·rw[hasZ_snoc,Hh2.out,putN_bit];congr 1;rw[Bool.eq_iff_iff,beq_iff_eq,decide_eq_true_eq];omega
      ·rw[List.map_append,List.length_append,Hsn.out];exact own7
     case measure=>simp only[intOf];omega
    ·obtain rfl:k=l.length:=by omega
     have Hfin:=h_ (show stepsOk n most 0 t=stepsOk n most z2 (t.drop (i+1)) from by
      rw[Ho.out,Hs.out,Hh0.out,Hp2.out,drop_all,He2.out,List.take_length]
      rfl)
     have HR2:=h_ Er2;have HO2:=h_ own;clear Er2 Hp2 He2 Hh0 Hs Ho own;go_wp2_with fail;go_roundw
     case rel=>exact⟨i+1,z2,S2,_,by omega,by go_num,rfl,by omega,Hz2,Hh2,Hfin,h_ (by rw[Hc.out,Hk.out,hS2];show S.length+(l.length+_)=_;omega),HR2.out,HO2.out⟩
     case measure=>simp only[intOf];omega
  ·obtain rfl:i=q.length:=by omega
   have Hr:=h_ (show formB n most t=((S.length:Int)==(n:Int)) from by
    unfold formB;rw[Ho.out,Hc.out,←HL.out,drop_all];show(true&&decide (S.length+0=n))=_
    rw[Bool.true_and,Bool.eq_iff_iff,decide_eq_true_eq,beq_iff_eq]
    omega)
   have HR:=h_ Er;have b0:=(HB0.out.ext Er).cell;obtain⟨FA,fc,rfl,-⟩:=ints_own6 own;obtain⟨sn,hsn⟩:=nm S.length;rw[hsn] at Hr ⊢;clear Er Hc Ho own;go_wp2_with fail;refine bodyPost_ret (v:= .bool ((sn:Int)==(n:Int))) (by simp[results,Tryz.results45,go_sem]) rfl ⟨by rw[Hr.out],HE0.out.trans HR.out⟩
theorem asc_eq: ∀{a b:List Nat},a.Pairwise (· < ·)→b.Pairwise (· < ·)→(∀x,x∈a↔x∈b)→a=b
 | [],[],_,_,_=>rfl
 | [],y::b,_,_,h=>absurd ((h y).2 (by simp)) (by simp)
 | x::a,[],_,_,h=>absurd ((h x).1 (by simp)) (by simp)
 | x::a,y::b,ha,hb,h=>by
  rw[List.pairwise_cons] at ha hb;have h1:x=y:=by
   rcases List.mem_cons.1 ((h x).1 (by simp)) with e|e
   ·exact e
   ·rcases List.mem_cons.1 ((h y).2 (by simp)) with e2|e2
    ·exact e2.symm
    ·have:=ha.1 _ e2;have:=hb.1 _ e;omega
  subst h1;congr 1;refine asc_eq ha.2 hb.2 fun t=> ?_;constructor
  ·intro ht;have:=ha.1 _ ht;rcases List.mem_cons.1 ((h t).1 (by simp[ht])) with e|e
   ·omega
   ·exact e
  ·intro ht;have:=hb.1 _ ht;rcases List.mem_cons.1 ((h t).2 (by simp[ht])) with e|e
   ·omega
   ·exact e
theorem setL_with{n z b k:Nat}(hz:SetB n z)(hn:n≤64)(hb:b<n)(hnb:z.testBit b=false)(h1: ∀x∈(setL z).take k,x<b)(h2: ∀x∈(setL z).drop k,b≤x):setL (putN z b)=(setL z).take k ++ [b]++(setL z).drop k:=by
 have hs:=setL_asc z;have hne: ∀x∈setL z,x≠b:=fun x hx e=>by
  have:=(setL_of hz hn).1 hx;rw[e,hnb] at this;cases this
 refine asc_eq (setL_asc _) ?_ fun x=> ?_
 ·rw[List.pairwise_append,List.pairwise_append];refine⟨⟨hs.sublist (List.take_sublist _ _),by simp,fun x hx y hy=> ?_⟩,hs.sublist (List.drop_sublist _ _),fun x hx y hy=> ?_⟩
  ·rw[List.mem_singleton] at hy;subst hy;exact h1 x hx
  ·have hy1:=h2 y hy;have hy2:=hne y (List.mem_of_mem_drop hy);rcases List.mem_append.1 hx with h|h
   ·have:=h1 x h;omega
   ·rw[List.mem_singleton] at h;omega
 ·rw[setL_of (hz.put hb) hn,putN_bit,Bool.or_eq_true,decide_eq_true_eq,←setL_of hz hn,List.mem_append,List.mem_append,List.mem_singleton];have e:x∈setL z↔x∈(setL z).take k∨x∈(setL z).drop k:=by
   rw[←List.mem_append,List.take_append_drop]
  rw[e];constructor
  ·rintro((h|h)|h)
   ·exact .inl (.inl h)
   ·exact .inr h
   ·exact .inl (.inr h.symm)
  ·rintro((h|h)|h)
   ·exact .inl (.inl h)
   ·exact .inr h.symm
   ·exact .inl (.inr h)
theorem ints_flatW(l:List Int):(l.map fun n=> [Value.int .i64 n]).flatten=l.map (Value.int .i64):=by
 induction l with
 | nil=>rfl
 | cons x l h=>simp[h]
theorem ints_tail{w:World}{g off tc:Nat}{l:List Int}(h:IntsZ w (some ⟨g,off,none⟩) tc l){k:Nat}(hk:k<l.length):SliceIs w (some ⟨g,off+k,none⟩) (l.length-k) (tc-k) 1 ((l.drop k).map fun n=> [Value.int .i64 n]):=by
 have hle:=SliceIs.le h;have hsm:=SliceIs.small h;refine⟨by simp,by omega,by omega,fun r hr=>by obtain⟨y,-,rfl⟩:=List.mem_map.1 hr;rfl,fun h0=> ?_⟩;obtain⟨b,o,hA,hb,hc⟩:=SliceIs.cells h (by omega);cases hA;refine⟨g,off+k,rfl,hb,fun i r hr j u hu=> ?_⟩;rw[List.map_drop,List.getElem?_drop] at hr;have:=hc (k+i) r hr j u hu;rw[show off+k+i*1+j=off+(k+i)*1+j by omega];exact this
theorem ints_none(w:World)(A:Option Addr){c:Nat}(hc:c≤maxLen)(l:List Int):SliceIs w A 0 c 1 ((l.drop l.length).map fun n=> [Value.int .i64 n]):=by
 rw[List.drop_length];exact⟨rfl,Nat.zero_le _,hc,by simp,fun h=>by omega⟩
theorem setI_with{n z b k:Nat}(hz:SetB n z)(hn:n≤64)(hb:b<n)(hnb:z.testBit b=false)(h1: ∀j,j<k→intAt (setI z) j<b)(h2:k=(setI z).length∨((b:Int)≤intAt (setI z) k∧k<(setI z).length)):setI (putN z b)=(setI z).take k ++ [(b:Int)]++(setI z).drop k:=by
 have hg: ∀{j x:Nat},(setL z)[j]? = some x→intAt (setI z) j=(x:Int):=fun h=>intAt_eq (setI_get h);have hs:=List.pairwise_iff_getElem.1 (setL_asc z);rw[setI_len] at h2;unfold setI;rw[setL_with (k:=k) hz hn hb hnb ?_ ?_]
 ·simp
 ·intro x hx;obtain⟨j,hj⟩:=List.getElem?_of_mem hx;rw[List.getElem?_take] at hj
  split at hj
  ·rename_i hjk;have:=h1 j hjk;rw[hg hj] at this;omega
  ·cases hj
 ·intro x hx;obtain⟨j,hj⟩:=List.getElem?_of_mem hx;rw[List.getElem?_drop] at hj;obtain⟨hkj,e⟩:=List.getElem?_eq_some_iff.1 hj;rcases h2 with h2|⟨h2,h3⟩
  ·omega
  ·have hk:(setL z)[k]? = some (setL z)[k]:=List.getElem?_eq_getElem h3;rw[hg hk] at h2;rcases Nat.eq_zero_or_pos j with rfl|h0
   ·simp only[Nat.add_zero] at e;omega
   ·have:=hs k (k+j) h3 hkj (by omega);omega
theorem rWith_c(n z b:Nat)(TA:Option Addr)(tc:Nat)(w:World)(hz:SetB n z)(hn:n≤64)(hb:b<n)(hnb:z.testBit b=false)(hT:IntsZ w TA tc (setI z))(hA:z=0→TA=none∧tc=0) :
  Calls Tryz.prog 47 #[.slice TA (setL z).length tc,.int .i64 b] w (IntsPost (setI (putN z b)) w):=by
 rw[←setI_len];obtain⟨l,hl⟩:=nm (setI z);have hlen:l.length≤64:=by rw[←hl,setI_len];exact setL_len z
 have HW:=h_ (fun(k:Nat) (h1: ∀j,j<k→intAt l j<b) (h2:k=l.length∨((b:Int)≤intAt l k∧k<l.length))=>show setI (putN z b)=l.take k ++ [(b:Int)]++l.drop k from by
  rw[←hl] at h1 h2 ⊢
  exact setI_with hz hn hb hnb h1 h2)
 rw[hl] at hT;rw[hl];obtain⟨i9,hi9,hz9,hz91,hz92⟩:=info_parts infoI6;obtain⟨U,hU⟩:=nm w.heap.size;have HU:=h_ hU;have HT:=h_ hT;have HA:=h_ (show l.length=0→TA=none∧tc=0 from fun h=>hA (by
  have h0:setL z = []:=by rw[←List.length_eq_zero_iff,←setI_len,hl];exact h
  refine Nat.eq_of_testBit_eq fun j=> ?_;rw[Nat.zero_testBit];cases hj:z.testBit j
  ·rfl
  ·have:=(setL_of hz hn).2 hj;rw[h0] at this
   cases this))
 have hle:=SliceIs.le hT;have hsm:=SliceIs.small hT;clear hz hn hb hnb hl hA hT hU;go_enter Tryz.func47,Tryz.ntmps47;go_wp2_with fail;go_loopw [5,6] (fun v ii wr=> ∃(k:Nat) (u:Value),k≤l.length∧ii = .int .i64 k∧v=u∧Hid (∀j,j<k→intAt l j<b)∧Ext w wr∧wr.ownsRow U 3 1 u (l.take k).length ((l.take k).map (Value.int .i64))) (fun _ ii _=>l.length-(intOf ii).toNat)
 case atStart=>exact⟨0,_,by omega,rfl,rfl,h_ (fun j hj=>by omega),Ext.refl _,World.ownsRow_nil _ _ _ _⟩
 case round =>
  obtain⟨k,v,hk,rfl,rfl,Hlt,Er,own⟩:=hrel;obtain⟨fn,hfn⟩:=nm ((l.take k).length);have hfk:fn=k:=by rw[←hfn,List.length_take];omega
  rw[hfn] at own;have hjl:fn+1≤maxLen:=by unfold maxLen;omega
  have Hfn:=h_ hfn;have Hfk:=h_ hfk;have hf64:fn≤64:=by omega
  clear hfk;have k0:(0:Int)≤k:=by omega
  have hE:=Er;clear hfn;by_cases hkl:k<l.length
  ·have k1:(k:Int)<l.length:=by omega
   have k2:(k:Int)<tc:=by omega
   obtain⟨g,off,x,rfl,hx,-,c0⟩:=(IntsZ.ext HT.out Er).at_ hkl;have Hx:=h_ hx;have Hxa:=h_ (intAt_eq hx);clear hx;by_cases hxb:x<b
   ·clear hle hsm;go_wp2_with (at_builtin;refine wpList_append_one #[.int .i64 x] rfl (.tmp 19) (.tmp 24) 26 rfl U 3 3 i9 _ 1 8 Tryz.underlying26 hi9 hz9 hz91 hz92 rfl (by decide) _ fn _ _ rfl own rfl rfl (by simp[Value.oneCell']) hjl (by omega) (by have:=HU.out;have:=Er.size;omega) ?_;intro g7 cap7 w7 own7 hg7);go_roundw
    case rel =>
     refine⟨k+1,_,by omega,by go_num,rfl,h_ fun j hj=> ?_,(Er.alloc _).grown hg7 (fun k hk=>by have:=(own.lt k hk).1;have:=HU.out;omega),?_⟩
     ·rcases Nat.lt_or_ge j k with h|h
      ·exact Hlt.out j h
      ·obtain rfl:j=k:=by omega
       rw[Hxa.out];exact hxb
     ·have e:l.take (k+1)=l.take k ++ [x]:=by rw[List.take_add_one,Hx.out];rfl
      rw[e,List.map_append,List.length_append,Hfn.out];exact own7
    case measure=>simp only[intOf];omega
   ·have hxb':decide (x<(b:Int))=false:=decide_eq_false hxb;have Hr:=h_ (HW.out k Hlt.out (.inr ⟨by rw[Hxa.out];omega,hkl⟩));have hU4:U≤wr.heap.size:=by have:=HU.out;have:=Er.size;omega
    go_wp2_with (first|(at_builtin;refine wpList_append_one #[.int .i64 b] rfl (.tmp 28) (.tmp 30) 26 rfl U 3 3 i9 _ 1 8 Tryz.underlying26 hi9 hz9 hz91 hz92 rfl (by decide) _ fn _ _ rfl own rfl rfl (by simp[Value.oneCell']) hjl (by omega) hU4 ?_;intro g7 cap7 w7 own7 hg7;have E7:=(Er.alloc _).grown hg7 (fun k hk=>by have:=(own.lt k hk).1;have:=HU.out;omega);have hU7:U≤w7.heap.size:=(by have:=HU.out;have:=E7.size;omega);have hsrc:=ints_tail (IntsZ.ext HT.out E7) hkl;have hSn:(some (⟨g,off+k,none⟩:Addr))=none→tc-k=0:=(fun h=>nomatch h);clear hg7)|(at_builtin;refine wpList_append_anyF rfl (.tmp 32) (.tmp 35) 26 rfl U 3 i9 _ 1 8 Tryz.underlying26 hi9 hz9 hz91 hz92 rfl (by decide) _ (fn+1) _ rfl own7 _ _ _ _ rfl hsrc hSn (fun u hu=>by rw[ints_flatW] at hu;obtain⟨x,-,rfl⟩:=List.mem_map.1 hu;rfl) (by unfold maxLen;omega) (by omega) hU7 fun v' W10 own' hg'=> ?_;rw[ints_flatW] at own';have E10:=E7.grown hg' (fun k hk=>by have:=(own7.lt k hk).1;have:=HU.out;omega);have hln:(setI (putN z b)).length=fn+1+(l.length-k):=(by first|(rw[Hr.out];rfl)|(rw[Hr.out];simp only[List.length_append,Hfn.out,List.length_drop,List.length_singleton];try omega));have hcs:(setI (putN z b)).map (Value.int .i64)=List.map (Value.int .i64) (List.take k l)++(Value.cells (.agg #[.int .i64 b])).toList++List.map (Value.int .i64) (List.drop k l):=(by rw[Hr.out,List.map_append,List.map_append] <;> rfl);rw[←hln] at own';obtain⟨FA,fc,rfl,hFI⟩:=ints_own6 (l:=setI (putN z b)) (by rw[hcs];exact own');have HFI:=h_ hFI;have HR:=h_ E10;have Hln:=h_ hln;clear hFI own' hcs hg' E10 E7 own own7 Er));refine bodyPost_ret (v:= .slice FA (setI (putN z b)).length fc) (by simp[results,Tryz.results47,go_sem];try exact Hln.out.symm) rfl ⟨FA,fc,rfl,HFI.out,HR.out⟩
  ·obtain rfl:k=l.length:=by omega
   have Hr:=h_ (HW.out _ Hlt.out (.inl rfl));rcases Nat.eq_zero_or_pos l.length with h0|h0
   ·obtain⟨rfl,rfl⟩:=HA.out h0;obtain rfl:l = []:=List.length_eq_zero_iff.1 h0;have hSn:(none:Option Addr)=none→0=0:=fun _=>rfl;have hU4:U≤wr.heap.size:=by have:=HU.out;have:=Er.size;omega
    go_wp2_with (first|(at_builtin;refine wpList_append_one #[.int .i64 b] rfl (.tmp 28) (.tmp 30) 26 rfl U 3 3 i9 _ 1 8 Tryz.underlying26 hi9 hz9 hz91 hz92 rfl (by decide) _ fn _ _ rfl own rfl rfl (by simp[Value.oneCell']) hjl (by omega) hU4 ?_;intro g7 cap7 w7 own7 hg7;have E7:=(Er.alloc _).grown hg7 (fun k hk=>by have:=(own.lt k hk).1;have:=HU.out;omega);have hU7:U≤w7.heap.size:=(by have:=HU.out;have:=E7.size;omega);have hsrc:SliceIs w7 none 0 0 1 ((([]:List Int).drop 0).map fun n=> [Value.int .i64 n]):=ints_nil w7;clear hg7)|(at_builtin;refine wpList_append_anyF rfl (.tmp 32) (.tmp 35) 26 rfl U 3 i9 _ 1 8 Tryz.underlying26 hi9 hz9 hz91 hz92 rfl (by decide) _ (fn+1) _ rfl own7 _ _ _ _ rfl hsrc hSn (fun u hu=>by rw[ints_flatW] at hu;obtain⟨x,-,rfl⟩:=List.mem_map.1 hu;rfl) (by unfold maxLen;omega) (by omega) hU7 fun v' W10 own' hg'=> ?_;rw[ints_flatW] at own';have E10:=E7.grown hg' (fun k hk=>by have:=(own7.lt k hk).1;have:=HU.out;omega);have hln:(setI (putN z b)).length=fn+1+0:=(by first|(rw[Hr.out];rfl)|(rw[Hr.out];simp only[List.length_append,Hfn.out,List.length_drop,List.length_singleton];try omega));have hcs:(setI (putN z b)).map (Value.int .i64)=List.map (Value.int .i64) (List.take 0 ([]:List Int))++(Value.cells (.agg #[.int .i64 b])).toList++List.map (Value.int .i64) (List.drop 0 ([]:List Int)):=(by rw[Hr.out,List.map_append,List.map_append] <;> rfl);rw[←hln] at own';obtain⟨FA,fc,rfl,hFI⟩:=ints_own6 (l:=setI (putN z b)) (by rw[hcs];exact own');have HFI:=h_ hFI;have HR:=h_ E10;have Hln:=h_ hln;clear hFI own' hcs hg' E10 E7 own own7 Er));refine bodyPost_ret (v:= .slice FA (setI (putN z b)).length fc) (by simp[results,Tryz.results47,go_sem];try exact Hln.out.symm) rfl ⟨FA,fc,rfl,HFI.out,HR.out⟩
   ·obtain⟨g,off,x,rfl,-,-,-⟩:=HT.out.at_ h0;have hsm':=HT.out.small;rcases Nat.lt_or_ge l.length tc with htc|htc
    ·have htc':(l.length:Int)<tc:=by omega
     have hU4:U≤wr.heap.size:=by have:=HU.out;have:=Er.size;omega
     go_wp2_with (first|(at_builtin;refine wpList_append_one #[.int .i64 b] rfl (.tmp 28) (.tmp 30) 26 rfl U 3 3 i9 _ 1 8 Tryz.underlying26 hi9 hz9 hz91 hz92 rfl (by decide) _ fn _ _ rfl own rfl rfl (by simp[Value.oneCell']) hjl (by omega) hU4 ?_;intro g7 cap7 w7 own7 hg7;have E7:=(Er.alloc _).grown hg7 (fun k hk=>by have:=(own.lt k hk).1;have:=HU.out;omega);have hU7:U≤w7.heap.size:=(by have:=HU.out;have:=E7.size;omega);have hsrc:=ints_none w7 (some ⟨g,off+l.length,none⟩) (c:=tc-l.length) (by omega) l;have hSn:(some (⟨g,off+l.length,none⟩:Addr))=none→tc-l.length=0:=(fun h=>nomatch h);clear hg7)|(at_builtin;refine wpList_append_anyF rfl (.tmp 32) (.tmp 35) 26 rfl U 3 i9 _ 1 8 Tryz.underlying26 hi9 hz9 hz91 hz92 rfl (by decide) _ (fn+1) _ rfl own7 _ _ _ _ rfl hsrc hSn (fun u hu=>by rw[ints_flatW] at hu;obtain⟨x,-,rfl⟩:=List.mem_map.1 hu;rfl) (by unfold maxLen;omega) (by omega) hU7 fun v' W10 own' hg'=> ?_;rw[ints_flatW] at own';have E10:=E7.grown hg' (fun k hk=>by have:=(own7.lt k hk).1;have:=HU.out;omega);have hln:(setI (putN z b)).length=fn+1+0:=(by first|(rw[Hr.out];rfl)|(rw[Hr.out];simp only[List.length_append,Hfn.out,List.length_drop,List.length_singleton];try omega));have hcs:(setI (putN z b)).map (Value.int .i64)=List.map (Value.int .i64) (List.take l.length l)++(Value.cells (.agg #[.int .i64 b])).toList++List.map (Value.int .i64) (List.drop l.length l):=(by rw[Hr.out,List.map_append,List.map_append] <;> rfl);rw[←hln] at own';obtain⟨FA,fc,rfl,hFI⟩:=ints_own6 (l:=setI (putN z b)) (by rw[hcs];exact own');have HFI:=h_ hFI;have HR:=h_ E10;have Hln:=h_ hln;clear hFI own' hcs hg' E10 E7 own own7 Er));refine bodyPost_ret (v:= .slice FA (setI (putN z b)).length fc) (by simp[results,Tryz.results47,go_sem];try exact Hln.out.symm) rfl ⟨FA,fc,rfl,HFI.out,HR.out⟩
    ·obtain rfl:tc=l.length:=by have:=HT.out.le;omega
     have hU4:U≤wr.heap.size:=by have:=HU.out;have:=Er.size;omega
     go_wp2_with (first|(at_builtin;refine wpList_append_one #[.int .i64 b] rfl (.tmp 28) (.tmp 30) 26 rfl U 3 3 i9 _ 1 8 Tryz.underlying26 hi9 hz9 hz91 hz92 rfl (by decide) _ fn _ _ rfl own rfl rfl (by simp[Value.oneCell']) hjl (by omega) hU4 ?_;intro g7 cap7 w7 own7 hg7;have E7:=(Er.alloc _).grown hg7 (fun k hk=>by have:=(own.lt k hk).1;have:=HU.out;omega);have hU7:U≤w7.heap.size:=(by have:=HU.out;have:=E7.size;omega);have hsrc:=ints_none w7 (some ⟨g,off,none⟩) (c:=0) (by omega) l;have hSn:(some (⟨g,off,none⟩:Addr))=none→0=0:=(fun h=>nomatch h);clear hg7)|(at_builtin;refine wpList_append_anyF rfl (.tmp 32) (.tmp 35) 26 rfl U 3 i9 _ 1 8 Tryz.underlying26 hi9 hz9 hz91 hz92 rfl (by decide) _ (fn+1) _ rfl own7 _ _ _ _ rfl hsrc hSn (fun u hu=>by rw[ints_flatW] at hu;obtain⟨x,-,rfl⟩:=List.mem_map.1 hu;rfl) (by unfold maxLen;omega) (by omega) hU7 fun v' W10 own' hg'=> ?_;rw[ints_flatW] at own';have E10:=E7.grown hg' (fun k hk=>by have:=(own7.lt k hk).1;have:=HU.out;omega);have hln:(setI (putN z b)).length=fn+1+0:=(by first|(rw[Hr.out];rfl)|(rw[Hr.out];simp only[List.length_append,Hfn.out,List.length_drop,List.length_singleton];try omega));have hcs:(setI (putN z b)).map (Value.int .i64)=List.map (Value.int .i64) (List.take l.length l)++(Value.cells (.agg #[.int .i64 b])).toList++List.map (Value.int .i64) (List.drop l.length l):=(by rw[Hr.out,List.map_append,List.map_append] <;> rfl);rw[←hln] at own';obtain⟨FA,fc,rfl,hFI⟩:=ints_own6 (l:=setI (putN z b)) (by rw[hcs];exact own');have HFI:=h_ hFI;have HR:=h_ E10;have Hln:=h_ hln;clear hFI own' hcs hg' E10 E7 own own7 Er));refine bodyPost_ret (v:= .slice FA (setI (putN z b)).length fc) (by simp[results,Tryz.results47,go_sem];try exact Hln.out.symm) rfl ⟨FA,fc,rfl,HFI.out,HR.out⟩
end Go.Proofs.YtojolpbpjimfgaaGreatDoor
