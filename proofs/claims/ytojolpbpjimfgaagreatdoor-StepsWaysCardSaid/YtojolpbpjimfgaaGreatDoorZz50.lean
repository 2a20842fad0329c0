/- Texts of the proof: RSeen6, AppF, WaysLaw, Open, Open1, OpenM. -/
import Derived.Test.YtojolpbpjimfgaaGreatDoorZz2
import Derived.Test.YtojolpbpjimfgaaGreatDoorZz6
import Derived.Test.YtojolpbpjimfgaaGreatDoorZz7
import Derived.Test.YtojolpbpjimfgaaGreatDoorZz13
import Derived.Test.YtojolpbpjimfgaaGreatDoorZz29
import Derived.Test.YtojolpbpjimfgaaGreatDoorZz46
import Derived.Test.YtojolpbpjimfgaaGreatDoorZz49
import Derived.ProofKit
import Derived.Deep.Slices
import Derived.Carry
import Derived.OpenShut
import Derived.Lib.SmallJoins
namespace Go.Proofs.YtojolpbpjimfgaaGreatDoor
open Go.RowKit
set_option maxRecDepth 100000 in
set_option maxHeartbeats 8000000 in
theorem rSeen6_c(m:MB)(TA:Option Addr)(tc:Nat)(th:List Int)(d:Int)(w:World)(hM:MBAt w m)(hth:IntsZ w TA tc th) :
  Calls Tryz.prog 13 #[.slice m.QA m.qs.length m.qc,.agg #[.slice m.B m.bs.length m.cb],.slice TA th.length tc,.int .i64 d] w (ListPost (seenA m th d) (seenE m th d) w):=by
 obtain⟨W1,hW1,E1,B1,hz1⟩:=mk_ w #[.slice m.B m.bs.length m.cb] 25
 have HB1:=h_ B1
 have b1:=B1.cell
 have HE:=h_ E1
 have HM:=h_ hM
 have HTh:=h_ hth
 have RE:Calls Tryz.prog 41 #[.slice m.QA m.qs.length m.qc,.agg #[.slice m.B m.bs.length m.cb]] W1 fun e w'=>e = .returned (.int .i64 (checkErr m.ks m.bs))∧Ext W1 w':=rCheck_c m.qs m.QA m.qc m.bs m.B m.cb W1 (hM.ext E1).k (hM.ext E1).b
 obtain⟨r,hr⟩:=nm (checkErr m.ks m.bs)
 rw[hr] at RE
 have Hr:=h_ hr
 clear hz1 B1 E1 hM hth hr
 by_cases h0:r=0
 rotate_left
 ·have h1:(r != 0)=true:=by simpa using h0
  have Hv:=h_ (show seenE m th d=r∧seenA m th d = [] from by
   have e:seenE m th d=r:=by rw[seenE,if_neg (by rw[Hr.out];exact h0),Hr.out]
   exact⟨e,by rw[seenA,if_neg (by rw[e];exact h0)]⟩)
  go_enter Tryz.func13,Tryz.ntmps13
  go_wp2_with fail
  refine RE.mono ?_
  rintro e W3 ⟨rfl,E3⟩
  go_wp2_with fail
  go_ret2
  rw[Hv.out.1,Hv.out.2]
  exact listPost_nil (HE.out.trans E3)
 subst h0
 have hn40:=(HM.out.fit Hr.out).n
 go_enter Tryz.func13,Tryz.ntmps13
 go_wp2_with fail
 clear hW1
 refine RE.mono ?_
 rintro e W3 ⟨rfl,E3⟩
 have HE3:=h_ (HE.out.trans E3)
 have b1:=(HB1.out.ext E3).cell
 have CH:=rChosen_c TA tc th m.bs.length W3 (IntsZ.ext HTh.out HE3.out) (by omega) (by omega)
 have HB13:=h_ (HB1.out.ext E3)
 obtain⟨c,hc⟩:=nm (chosenB th m.bs.length)
 rw[hc] at CH
 have Hc:=h_ hc
 clear RE E3 hc
 go_wp2_with fail
 refine CH.mono ?_
 rintro e W4 ⟨rfl,E4⟩
 have HE4:=h_ (HE3.out.trans E4)
 have HB14:=h_ (HB13.out.ext E4)
 clear b1 CH E4
 cases c
 ·have Hbad:=h_ (show seenBad m th d=true by unfold seenBad;rw[Hc.out];rfl)
  have Hv:=h_ (show seenE m th d=2∧seenA m th d = [] from by
   have e:seenE m th d=2:=by rw[seenE,if_pos Hr.out,if_pos Hbad.out]
   exact⟨e,by rw[seenA,if_neg (by rw[e];decide)]⟩)
  go_wp2_with fail
  go_ret2
  rw[Hv.out.1,Hv.out.2]
  exact listPost_nil HE4.out
 have Hset:=h_ (chosen_set (show m.bs.length≤64 by omega) Hc.out)
 have WC:=within6_c d 0 5 W4
 obtain⟨q,hq⟩:=nm (inB 0 5 d)
 rw[hq] at WC
 go_wp2_with fail
 refine WC.mono ?_
 rintro e W5 ⟨rfl,E5⟩
 have HE5:=h_ (HE4.out.trans E5)
 have HB15:=h_ (HB14.out.ext E5)
 clear E5 WC
 cases q
 ·have hn:=inB_not.1 hq
  have Hbad:=h_ (show seenBad m th d=true by
   unfold seenBad
   rw[Hc.out]
   simp only[Bool.not_true,Bool.false_or,Bool.or_eq_true,decide_eq_true_eq]
   omega)
  clear hn hq
  have Hv:=h_ (show seenE m th d=2∧seenA m th d = [] from by
   have e:seenE m th d=2:=by rw[seenE,if_pos Hr.out,if_pos Hbad.out]
   exact⟨e,by rw[seenA,if_neg (by rw[e];decide)]⟩)
  go_wp2_with fail
  go_ret2
  rw[Hv.out.1,Hv.out.2]
  exact listPost_nil HE5.out
 obtain⟨hd0,hd5⟩:=inB_iff.1 hq
 obtain⟨k,rfl⟩:=Int.eq_ofNat_of_zero_le hd0
 have hk6:k<6:=by omega
 have hlen:(setL (numOf th)).length=th.length:=by rw[←setI_len,Hset.out.1]
 have HVis:=h_ (fun(b:Nat) (hb:b<m.bs.length) (W:World) (E:Ext w W)=>rVisible_c m TA tc (numOf th) b k W (HM.out.ext E) Hr.out Hset.out.2 hb hk6 (by rw[Hset.out.1];exact IntsZ.ext HTh.out E))
 have Hv:=h_ (show seenE m th k=0∧seenA m th k=seenQ m.ks m.bs (numOf th) k (setL (numOf th)).length from by
  have e:seenE m th k=0:=by rw[seenE,if_pos Hr.out,if_neg (by unfold seenBad;rw[Hc.out,decide_eq_false (by omega),decide_eq_false (by omega)];decide)]
  exact⟨e,by rw[seenA,if_pos e,Int.toNat_natCast]⟩)
 have Hlen:=h_ hlen
 rw[hlen] at HVis
 have hle:=HTh.out.le
 have hl64:th.length≤64:=by rw[←hlen];exact setL_len _
 obtain⟨s,hs⟩:=nm (numOf th)
 rw[hs] at Hset Hlen HVis Hv
 obtain⟨n,hn⟩:=nm th.length
 rw[hn] at HVis Hlen hle hl64 ⊢
 have Hn:=h_ hn
 have HMe:=h_ (fun(q:Nat) (hq:q<n)=>memA_lt Hset.out.2 (show m.bs.length≤64 by omega) (show q<(setL s).length by rw[Hlen.out];exact hq))
 obtain⟨i9,hi9,hz9,hz91,hz92⟩:=info_parts infoI6
 obtain⟨U,hU⟩:=nm W5.heap.size
 have HU:=h_ hU
 clear hlen hq hd0 hd5 hs hn hU
 go_wp2_with fail
 go_loopw [11,12] (fun v ii wr=> ∃(q:Nat) (u:Value),q≤n∧ii = .int .i64 q∧v=u∧Ext W5 wr∧wr.ownsRow U 3 1 u (seenQ m.ks m.bs s k q).length ((seenQ m.ks m.bs s k q).map (Value.int .i64))) (fun _ ii _=>n-(intOf ii).toNat)
 case atStart=>exact⟨0,_,by omega,rfl,rfl,Ext.refl _,World.ownsRow_nil _ _ _ _⟩
 case round =>
  obtain⟨q,v,hq,rfl,rfl,Er,own⟩:=hrel
  by_cases hqn:q<n
  ·obtain⟨tb,t9,kv,rfl,hkv,-,c0⟩:=(IntsZ.ext HTh.out (HE5.out.trans Er)).at_ (show q<th.length by rw[Hn.out];exact hqn)
   obtain rfl:kv=(memA s q:Int):=by
    rw[←Hset.out.1,setI_get (memA_get (show q<(setL s).length by rw[Hlen.out];exact hqn))] at hkv
    exact(Option.some.inj hkv).symm
   have hjn:=HMe.out q hqn
   have VC:=h_ (fun(W:World) (E':Ext wr W)=>HVis.out _ hjn W (HE5.out.trans (Er.trans E')))
   have hsn:=seenQ_succ m.ks m.bs (d:=k) (show q<(setL s).length by rw[Hlen.out];exact hqn)
   obtain⟨j,hj⟩:=nm (memA s q)
   rw[hj] at c0 VC hsn
   obtain⟨r,hr⟩:=nm (seeB m.ks m.bs s j k)
   rw[hr] at VC hsn
   have hln:=seenQ_len m.ks m.bs s k q
   have b1:=(HB15.out.ext Er).cell
   have q0:(0:Int)≤q:=by omega
   have q1:(q:Int)<n:=by omega
   clear hr hj hkv hjn
   go_upto_region 10 with(fail)
   refine wp_region_grow (by kernel_rfl) (by kernel_rfl) ?_
   repeat (go_big_quiet_step ((go_at_call 42;exact quiet_ext (VC.out _ (by first|exact Ext.refl _|exact(Ext.refl _).grow _)))))
   refine wpQuiet_nil ?_
   intro W7 hW7
   have E7:Ext wr W7:=by
    obtain⟨x,rfl⟩:=hW7
    exact(Ext.refl _).grow x
   clear hW7
   obtain⟨hcW7,hfW7,hzW7⟩:=ext_facts E7
   have c7:=E7.cell c0
   clear c0 b1 hcW7 hfW7 hzW7
   have EW:=Er.trans E7
   have ow1:=own_ext own E7
   clear own E7 Er VC
   cases r
   ·have hf2:seenQ m.ks m.bs s k (q+1)=seenQ m.ks m.bs s k q:=by rw[hsn];exact List.append_nil _
    rw[←hf2] at ow1
    have Hown:=h_ ow1
    clear ow1 hsn hln hf2 c7
    go_wp2_with fail
    go_roundw
    case rel=>exact⟨q+1,_,by omega,by go_num,rfl,EW,Hown.out⟩
    case measure=>simp only[intOf];omega
   ·have hf2:seenQ m.ks m.bs s k (q+1)=seenQ m.ks m.bs s k q ++ [(j:Int)]:=by rw[hsn];rfl
    have Hf2:=h_ hf2
    have hjl:(seenQ m.ks m.bs s k q).length+1≤maxLen:=by unfold maxLen;omega
    obtain⟨fl,hfe⟩:=nm (seenQ m.ks m.bs s k q)
    rw[hfe] at ow1 hjl hln Hf2
    obtain⟨fn,hfn⟩:=nm fl.length
    rw[hfn] at ow1 hjl hln
    have Hfn:=h_ hfn
    have hU4:U≤W7.heap.size:=by have:=HU.out;have:=EW.size;omega
    clear hsn hf2 hfe hfn
    go_wp2_with (at_builtin;refine wpList_append_one #[.int .i64 j] rfl (.tmp 45) (.tmp 50) 26 rfl U 3 3 i9 _ 1 8 Tryz.underlying26 hi9 hz9 hz91 hz92 rfl (by decide) _ fn _ _ rfl ow1 rfl rfl (by simp[Value.oneCell']) hjl (by omega) hU4 ?_;intro g7 cap7 w7 own7 hg7)
    go_roundw
    case rel =>
     refine⟨q+1,_,by omega,by go_num,rfl,(EW.alloc _).grown hg7 (fun k hk=>by have:=(ow1.lt k hk).1;have:=HU.out;omega),?_⟩
     rw[Hf2.out,List.map_append,List.length_append,Hfn.out]
     exact own7
    case measure=>simp only[intOf];omega
  ·obtain rfl:n=q:=by omega
   obtain⟨FA,fc,rfl,hFI⟩:=ints_own6 own
   have HFI:=h_ hFI
   have HR:=h_ (HE5.out.trans Er)
   obtain⟨nl,hnl⟩:=nm ((seenQ m.ks m.bs s k n).length)
   have Hnl:=h_ hnl
   rw[hnl]
   clear hFI own Er hnl
   go_wp2_with fail
   go_ret2
   rw[Hv.out.1,Hv.out.2,Hlen.out]
   exact⟨FA,fc,by rw[Hnl.out];rfl,HFI.out,HR.out⟩
theorem own_emptyF(w:World){U:Nat}(hU:U≤w.heap.size)(e:TypeId)(sz:Nat):(w.alloc (.cells #[] e)).ownsRow U e sz (.slice (some ⟨w.heap.size,0,none⟩) 0 0) 0 []:=by
 exact World.ownsRow_made w #[] 0 hU (Nat.zero_le _) (by simp)
theorem wpList_append_anyF{P:Program}{w:World}{ops:Array Oper}{o:Oper}{rest:List Oper}{a:Act}{Q:Exit→Act→World→Prop}(hgd:o.guard=none)(s x:Operand)(t:TypeId)(ho:o.op = .call { callee:= .builtin .append,args:= #[s,x],argTypes:= #[t,t] })
  (base:Nat) (e:TypeId) (i:TypeInfo) (z:Value) (size bytes:Nat) (ht:P.underlying t=some (.slice e)) (hi:P.info? e=some i) (hz:i.zero=some z)
  (hsize:i.size=size) (hby:i.bytes=bytes) (hzs:z.cells.size=size) (hsz:0<size)
  (v:Value) (n:Nat) (xs:List Value) (hs:a.eval s=v) (hown:w.ownsRow base e size v n xs)
  (A:Option Addr) (m c:Nat) (rows:List (List Value)) (hx:a.eval x = .slice A m c) (hsrc:SliceIs w A m c size rows) (hnil:A=none→c=0) (h1: ∀u∈rows.flatten,u.oneCell'=true)
  (h63:n+m≤maxLen) (hbytes:(n+m)*bytes≤140737488355328) (hbase:base≤w.heap.size)
  (h: ∀v' w',w'.ownsRow base e size v' (n+m) (xs++rows.flatten)→w.grownBy w' v.ownBlock→wpList P ops Q rest (a.put o.dst v') w'):wpList P ops Q (o::rest) a w :=
 wpList_plain hgd fun _ hK=>by
  have:=step_append_any (P:=P) (ops:=ops) (o:=o) (a:=a) (Q:=Q) (F:=True) hgd s x t ho base e i z size bytes ht hi hz hsize hby hzs hsz v n xs hs hown A m c rows hx hsrc hnil h1 h63 hbytes hbase (fun v' w' h2 h3=>hK _ _ (h v' w' h2 h3))
  rwa [if_pos (by simp[Region.wanted,hgd])] at this
theorem ints_flat6(l:List Int):(l.map fun n=> [Value.int .i64 n]).flatten=l.map (Value.int .i64):=by
 induction l with
 | nil=>rfl
 | cons x l h=>simp[h]
set_option maxRecDepth 100000 in
set_option maxHeartbeats 8000000 in
theorem ways_walk(m:MB)(TA:Option Addr)(tc:Nat)(th:List Int)(b d:Int)(w:World)(hM:MBAt w m)(hth:IntsZ w TA tc th)(hTz:Tz6Tab w)(hnil:TA=none→tc=0) :
  Calls Tryz.prog 3 #[.slice m.QA m.qs.length m.qc,.agg #[.slice m.B m.bs.length m.cb],.agg #[.int .i64 m.tab,.slice m.HA m.hands.length m.hc],.slice TA th.length tc,.int .i64 b,.int .i64 d] w fun e w'=>e = .returned (.bool true)∧Ext w w':=by
 obtain⟨W1,hW1,E1,B1,hz1⟩:=mk_ w #[.slice m.B m.bs.length m.cb] 25
 obtain⟨W2,hW2,E2,B2,hz2⟩:=mk_ W1 #[.int .i64 m.tab,.slice m.HA m.hands.length m.hc] 28
 have E:=E1.trans E2
 have b1:=(B1.ext E2).cell
 have b2:=B2.cell
 have HE:=h_ E
 have HB1:=h_ (B1.ext E2)
 have HB2:=h_ B2
 have G:=great3_c m.qs m.QA m.qc m.bs m.B m.cb m.tab m.HA m.hc m.hands W2 (hM.ext E).k (hM.ext E).b (hM.ext E).h
 have HHp:=h_ (fun(OA:Option Addr) (oc:Nat) (W:World) (E:Ext w W) (ho:IntsZ W OA oc th)=>Holds6_c m OA oc th W (hM.ext E) ho (hTz.ext E))
 have HHq:=h_ (fun(W:World) (E:Ext w W)=>rHolds6_c m TA tc th W (hM.ext E) (IntsZ.ext hth E))
 have HWp:=h_ (fun(OA:Option Addr) (oc:Nat) (W:World) (E:Ext w W) (ho:IntsZ W OA oc th)=>Ways6_c m OA oc th b W (hM.ext E) ho (hTz.ext E))
 have HWq:=h_ (fun(W:World) (E:Ext w W)=>rWays6_c m TA tc th b W (hM.ext E) (IntsZ.ext hth E))
 have HSp:=h_ (fun(OA:Option Addr) (oc:Nat) (W:World) (E:Ext w W) (ho:IntsZ W OA oc th)=>Seen6_c m OA oc th d W (hM.ext E) ho (hTz.ext E))
 have HSq:=h_ (fun(W:World) (E:Ext w W)=>rSeen6_c m TA tc th d W (hM.ext E) (IntsZ.ext hth E))
 have HTh:=h_ hth
 obtain⟨r,hr⟩:=nm (great3B (m.qs.map (·.1)) m.bs.length m.hands.length)
 rw[hr] at G
 unfold ListPost at HWp HWq HSp HSq
 obtain⟨ha,hha⟩:=nm (holdA m th)
 obtain⟨he,hhe⟩:=nm (holdE m th)
 obtain⟨wa,hwa⟩:=nm (wayA m th b)
 obtain⟨we,hwe⟩:=nm (wayE m th b)
 obtain⟨sa,hsa⟩:=nm (seenA m th d)
 obtain⟨se,hse⟩:=nm (seenE m th d)
 rw[hha,hhe] at HHp HHq
 rw[hwa,hwe] at HWp HWq
 rw[hsa,hse] at HSp HSq
 obtain⟨i9,hi9,hz9,hz91,hz92⟩:=info_parts infoI6
 clear hz1 hz2 B1 B2 E1 E2 E hM hth hTz hr hha hhe hwa hwe hsa hse
 go_enter Tryz.func3,Tryz.ntmps3
 go_wp2_with fail
 refine G.mono ?_
 rintro e W3 ⟨rfl,E3⟩
 have HE3:=h_ (HE.out.trans E3)
 have HB13:=h_ (HB1.out.ext E3)
 have HB23:=h_ (HB2.out.ext E3)
 clear E3 hW1 hW2 G b1 b2
 cases r
 rotate_left
 ·go_wp2_with fail
  refine bodyPost_ret (v:= .bool true) (by simp[results,Tryz.results3,go_sem]) rfl ⟨rfl,HE3.out⟩
 by_cases hs60:(th.length:Int)>60
 ·go_wp2_with fail
  refine bodyPost_ret (v:= .bool true) (by simp[results,Tryz.results3,go_sem]) rfl ⟨rfl,HE3.out⟩
 have hs61: ¬(th.length:Int)>60:=hs60
 have hlen:th.length≤60:=by omega
 obtain⟨U,hU⟩:=nm W3.heap.size
 have own0:=own_emptyF W3 (U:=U) (Nat.le_of_eq hU.symm) 3 1
 obtain⟨W9,hW9,E9,-,-⟩:=mk_ W3 #[] 3
 rw[hW9] at own0
 have hU9:U≤W9.heap.size:=by rw[←hU];exact E9.size
 have HU:=h_ hU
 have hsrc:=IntsZ.ext HTh.out (HE3.out.trans E9)
 have HX9:=h_ E9
 clear E9 hU
 go_wp2_with (at_builtin;refine wpList_append_anyF rfl (.tmp 29) (.tmp 30) 26 rfl U 3 i9 _ 1 8 Tryz.underlying26 hi9 hz9 hz91 hz92 rfl (by decide) _ 0 [] rfl own0 TA th.length tc (th.map fun n=> [Value.int .i64 n]) rfl hsrc hnil (fun u hu=>by rw[ints_flat6] at hu;obtain⟨x,-,rfl⟩:=List.mem_map.1 hu;rfl) (by unfold maxLen;omega) (by omega) hU9 fun v' W10 own' hg'=> ?_;rw[Nat.zero_add,List.nil_append,ints_flat6] at own';obtain⟨OA,oc,rfl,hO⟩:=ints_own6 own';have E10:=HX9.out.grown hg' (fun k hk=>by have:=(own0.lt k hk).1;have:=HU.out;omega);have HO10:=h_ hO;have HB110:=h_ (HB13.out.ext E10);have HB210:=h_ (HB23.out.ext E10);have b1:=HB110.out.cell;have b2:=HB210.out.cell;clear own' hg' own0 hW9 hsrc hU9 hO)
 have HE10:=h_ (HE3.out.trans E10)
 have hq1:(ha != ha)=false:=by simp
 have hq2:(he != he)=false:=by simp
 have hq3:(we != we)=false:=by simp
 have hq4:(se==se)=true:=by simp
 clear E10 b1 b2
 refine(HHp.out _ _ _ HE10.out HO10.out).mono ?_
 rintro e W11 ⟨rfl,E11⟩
 have HE11:=h_ (HE10.out.trans E11)
 have HB111:=h_ (HB110.out.ext E11)
 have HB211:=h_ (HB210.out.ext E11)
 have HO11:=h_ (IntsZ.ext HO10.out E11)
 clear E11
 have b1:=HB111.out.cell
 have b2:=HB211.out.cell
 go_wp2_with fail
 clear b1 b2
 refine(HHq.out _ HE11.out).mono ?_
 rintro e W12 ⟨rfl,E12⟩
 have HE12:=h_ (HE11.out.trans E12)
 have HB112:=h_ (HB111.out.ext E12)
 have HB212:=h_ (HB211.out.ext E12)
 have HO12:=h_ (IntsZ.ext HO11.out E12)
 clear E12
 have b1:=HB112.out.cell
 have b2:=HB212.out.cell
 go_wp2_with fail
 clear b1 b2
 refine(HWp.out _ _ _ HE12.out HO12.out).mono ?_
 rintro e W13 ⟨A1,c1,rfl,Z1,E13⟩
 have HE13:=h_ (HE12.out.trans E13)
 have HB113:=h_ (HB112.out.ext E13)
 have HB213:=h_ (HB212.out.ext E13)
 have HO13:=h_ (IntsZ.ext HO12.out E13)
 clear E13
 have b1:=HB113.out.cell
 have b2:=HB213.out.cell
 have HZ1:=h_ Z1
 clear Z1
 go_wp2_with fail
 clear b1 b2
 refine(HWq.out _ HE13.out).mono ?_
 rintro e W14 ⟨A2,c2,rfl,Z2,E14⟩
 have SI:=rSameInts_c A1 A2 c1 c2 wa wa W14 (HZ1.out.ext E14) Z2
 rw[eqI_iff.2 rfl] at SI
 have HE14:=h_ (HE13.out.trans E14)
 have HB114:=h_ (HB113.out.ext E14)
 have HB214:=h_ (HB213.out.ext E14)
 have HO14:=h_ (IntsZ.ext HO13.out E14)
 clear E14
 clear Z2
 go_wp2_with fail
 refine SI.mono ?_
 rintro e W15 ⟨rfl,E15⟩
 have HE15:=h_ (HE14.out.trans E15)
 have HB115:=h_ (HB114.out.ext E15)
 have HB215:=h_ (HB214.out.ext E15)
 have HO15:=h_ (IntsZ.ext HO14.out E15)
 clear E15
 have b1:=HB115.out.cell
 have b2:=HB215.out.cell
 clear SI HZ1
 go_wp2_with fail
 clear b1 b2
 refine(HSp.out _ _ _ HE15.out HO15.out).mono ?_
 rintro e W16 ⟨A3,c3,rfl,Z3,E16⟩
 have HE16:=h_ (HE15.out.trans E16)
 have HB116:=h_ (HB115.out.ext E16)
 have HB216:=h_ (HB215.out.ext E16)
 have HO16:=h_ (IntsZ.ext HO15.out E16)
 clear E16
 have b1:=HB116.out.cell
 have b2:=HB216.out.cell
 have HZ3:=h_ Z3
 clear Z3
 go_wp2_with fail
 clear b1 b2
 refine(HSq.out _ HE16.out).mono ?_
 rintro e W17 ⟨A4,c4,rfl,Z4,E17⟩
 have SI:=rSameInts_c A3 A4 c3 c4 sa sa W17 (HZ3.out.ext E17) Z4
 rw[eqI_iff.2 rfl] at SI
 have HE17:=h_ (HE16.out.trans E17)
 have HB117:=h_ (HB116.out.ext E17)
 have HB217:=h_ (HB216.out.ext E17)
 have HO17:=h_ (IntsZ.ext HO16.out E17)
 clear E17
 clear Z4
 go_wp2_with fail
 refine SI.mono ?_
 rintro e W18 ⟨rfl,E18⟩
 have HE18:=h_ (HE17.out.trans E18)
 have HB118:=h_ (HB117.out.ext E18)
 have HB218:=h_ (HB217.out.ext E18)
 have HO18:=h_ (IntsZ.ext HO17.out E18)
 clear E18
 have SI2:=rSameInts_c OA TA oc tc th th W18 HO18.out (IntsZ.ext HTh.out HE18.out)
 rw[eqI_iff.2 rfl] at SI2
 clear SI HZ3
 go_wp2_with fail
 refine SI2.mono ?_
 rintro e W19 ⟨rfl,E19⟩
 have HE19:=h_ (HE18.out.trans E19)
 clear SI2 E19
 go_wp2_with fail
 refine bodyPost_ret (v:= .bool true) (by simp[results,Tryz.results3,go_sem]) rfl ⟨rfl,HE19.out⟩
open Go.ChangeAt Go.ChangeShapes Go.Deep Go.WideShapes
theorem Tryz.own:ownKnob Tryz.prog.godebug=none:=by kernel_rfl
theorem Tryz.laidOut:laidOutB Tryz.prog=true:=by kernel_rfl
theorem list_of{α:Type}(p:Nat→α→Prop)(n:Nat)(h: ∀i,i<n → ∃x,p i x): ∃l:List α,l.length=n ∧ ∀i x,l[i]? = some x→p i x:=by
 induction n with
 | zero=>exact⟨[],rfl,fun i x hx=>by simp at hx⟩
 | succ n ih =>
  obtain⟨l,hl,hp⟩:=ih (fun i hi=>h i (by omega))
  obtain⟨x,hx⟩:=h n (by omega)
  refine⟨l ++ [x],by simp[hl],fun i y hy=> ?_⟩
  rcases Nat.lt_or_ge i n with hi|hi
  ·rw[List.getElem?_append_left (by omega)] at hy
   exact hp i y hy
  ·rw[List.getElem?_append_right (by omega),hl] at hy
   obtain rfl:i=n:=by
    rcases Nat.eq_or_lt_of_le hi with h' | h'
    ·exact h'.symm
    ·rw[List.getElem?_eq_none (by simp;omega)] at hy;cases hy
   simp at hy
   subst hy
   exact hx
section
variable {H:Type} {enc:TypeId×Value→H} {P:Program} {w:World} {base:Nat} {spare:Nat→Bool} {held:Bool}
theorem rows_of_trod{t e:TypeId}{fuel sz:Nat}{A:Option Addr}{n cap:Nat}{x:DataW H×List MemPlace}(ht:P.underlying t=some (.slice e))(hC:P.cellsOf e=sz)(hsz:0<sz)
  (h:DataW.trod enc P w base spare held fuel t [.slice A n cap]=some x) :
  ∃rows:List (List Value),SliceIs w A n cap sz rows ∧ ∀r∈rows,∃(m:Nat) (y:DataW H×List MemPlace),DataW.trod enc P w base spare held m e r=some y:=by
 rcases open_slice ht h with⟨h0,_⟩|⟨a,len,cap',m,fl,D,Pl,hcs,_,hl,hm,hmm,_,hi⟩
 ·simp only[List.cons.injEq,Value.slice.injEq,and_true] at h0
  obtain⟨rfl,rfl,rfl⟩:=h0
  exact⟨[],⟨rfl,Nat.le_refl _,by unfold maxLen;omega,by simp,fun h=>by omega⟩,by simp⟩
 ·simp only[List.cons.injEq,Value.slice.injEq,and_true] at hcs
  obtain⟨rfl,rfl,rfl⟩:=hcs
  rw[hC] at hi
  have hnm:n≤m:=by rw[hmm];split <;> omega
  obtain⟨rows,hlen,hrow⟩:=list_of (fun i r=>w.cells? base (a.add (i*sz)) sz=some r∧DataW.trod enc P w base spare held fl e r=some (D i,Pl i)) n (fun i hin=>hi i (by omega))
  refine⟨rows,⟨hlen,hl,hm,?_,fun hn=> ?_⟩,?_⟩
  ·intro r hr
   obtain⟨i,hir⟩:=List.getElem?_of_mem hr
   exact(World.cells?_some (hrow i r hir).1).2.1
  ·have h0:=hi 0 (by omega)
   obtain⟨cs0,hc0,_⟩:=h0
   obtain⟨_,hl0,hat0⟩:=World.cells?_some hc0
   have hcell0:=hat0 0 hsz
   have hsome:(w.cell? a).isSome=true:=by
    have:(a.add (0*sz)).add 0=a:=by simp[Addr.add]
    rw[this] at hcell0
    rw[hcell0,List.getElem?_eq_getElem (by omega)]
    rfl
   obtain⟨b,off,spot⟩:=a
   have hspot:spot=none:=by
    cases spot with
    | none=>rfl
    | some q =>
     exfalso
     unfold World.cell? at hsome
     simp only at hsome
     split at hsome <;> simp at hsome
   subst hspot
   obtain⟨u,hu⟩:=Option.isSome_iff_exists.1 hsome
   refine⟨b,off,rfl,World.block_lt_of_cell? w _ hu,fun i r hr j u hu=> ?_⟩
   obtain⟨_,hlr,hat⟩:=World.cells?_some (hrow i r hr).1
   have hj:j<sz:=by
    rcases Nat.lt_or_ge j r.length with h' | h'
    ·omega
    ·rw[List.getElem?_eq_none h'] at hu;cases hu
   have hadd:((⟨b,off,none⟩:Addr).add (i*sz)).add j=⟨b,off+i*sz+j,none⟩:=by
    unfold Addr.add
    by_cases h1:i*sz=0 <;> by_cases h2:j=0 <;> simp[h1,h2]
   rw[←hadd,hat j hj]
   exact hu
  ·intro r hr
   obtain⟨i,hir⟩:=List.getElem?_of_mem hr
   exact⟨_,_,(hrow i r hir).2⟩
theorem trodAll_ext{ts:List TypeId}(hl:laidOutB P=true){W W':World}(hb:Ext W W') :
  ∀{vs:List Value} {ds:List (DataW H)} {ps:List MemPlace},(∀t∈ts,P.readableRec t=true∧t<P.types.size)→DataW.TrodAll enc P W 0 (fun _=>true) true ts vs ds ps→(∀x∈ps,x.block<W.heap.size) →
   DataW.TrodAll enc P W' 0 (fun b=>decide (b<W.heap.size)) true ts vs ds ps:=by
 induction ts with
 | nil =>
  intro vs ds ps _ h _
  obtain⟨rfl,rfl,rfl⟩:=trodAll_nil h
  exact trodAll_mk0
 | cons t ts ih =>
  intro vs ds ps hr h hlt
  obtain⟨v,vs',d,ds',p,q,rfl,rfl,rfl,hd,hrest⟩:=trodAll_cons h
  exact⟨p,q,Below.trod hl (hr t (by simp)).1 (hr t (by simp)).2 hd hb (fun x hx=>hlt x (by simp[hx])),ih (fun t' ht'=>hr t' (by simp[ht'])) hrest (fun x hx=>hlt x (by simp[hx])),rfl⟩
end
open Go.Joins
theorem cells_u8:Tryz.prog.cellsOf 5=1:=by kernel_rfl
theorem cells_int:Tryz.prog.cellsOf 3=1:=by kernel_rfl
theorem cells_cell:Tryz.prog.cellsOf 124=3:=by kernel_rfl
theorem cells_knob:Tryz.prog.cellsOf 137=5:=by kernel_rfl
theorem cells_kind:Tryz.prog.cellsOf 112=3:=by kernel_rfl
theorem cells_brick:Tryz.prog.cellsOf 126=6:=by kernel_rfl
theorem cells_scell:Tryz.prog.cellsOf 109=1:=by kernel_rfl
theorem cells_sknob:Tryz.prog.cellsOf 110=1:=by kernel_rfl
theorem rows_map{α:Type}(f:α→List Value){rows:List (List Value)}{xs:List α}(hl:xs.length=rows.length)(h: ∀(i:Nat) (x:α),xs[i]? = some x→rows[i]? = some (f x)):rows=xs.map f:=by
 apply List.ext_getElem?
 intro i
 rw[List.getElem?_map]
 rcases Nat.lt_or_ge i rows.length with hi|hi
 ·have:xs[i]? = some xs[i]:=List.getElem?_eq_getElem (by omega)
  rw[this,h i _ this]
  rfl
 ·rw[List.getElem?_eq_none hi,List.getElem?_eq_none (by omega)]
  rfl
section
variable {H:Type} {enc:TypeId×Value→H} {w:World} {base:Nat} {spare:Nat→Bool} {held:Bool}
set_option maxRecDepth 100000 in
theorem pt_of_trod{fuel:Nat}{c0 c1 c2:Value}{x:DataW H×List MemPlace}(h:DataW.trod enc Tryz.prog w base spare held fuel 124 [c0,c1,c2]=some x): ∃p:Pt,[c0,c1,c2]=p.cs:=by
 obtain⟨zs,m'',_,_,_,hzl,hg⟩:=DataW.trod_struct Tryz.underlying124 h
 have g0:=hg 0 _ rfl
 have g1:=hg 1 _ rfl
 have g2:=hg 2 _ rfl
 match zs,hzl with
 | [z0,z1,z2],_ =>
  obtain⟨x,h1,_,_⟩:=DataW.trod_int Tryz.underlying3 g0
  obtain⟨y,h2,_,_⟩:=DataW.trod_int Tryz.underlying3 g1
  obtain⟨z,h3,_,_⟩:=DataW.trod_int Tryz.underlying3 g2
  change List.take (Tryz.prog.cellsOf 3) [c0,c1,c2]=_ at h1
  change List.take (Tryz.prog.cellsOf 3) [c1,c2]=_ at h2
  change List.take (Tryz.prog.cellsOf 3) [c2]=_ at h3
  rw[cells_int] at h1 h2 h3
  simp at h1 h2 h3
  subst h1 h2 h3
  exact⟨⟨x,y,z⟩,rfl⟩
set_option maxRecDepth 100000 in
theorem cells_of_trod{fuel n cap:Nat}{A:Option Addr}{x:DataW H×List MemPlace}
  (h:DataW.trod enc Tryz.prog w base spare held fuel 109 [.slice A n cap]=some x): ∃l:List Pt,l.length=n∧Cells w A cap l:=by
 obtain⟨rows,hS,hr⟩:=rows_of_trod Tryz.underlying109 cells_cell (by omega) h
 obtain⟨l,hl,hp⟩:=list_of (fun i (p:Pt)=>rows[i]? = some p.cs) n (fun i hi=>by
  have hi':i<rows.length:=by rw[hS.len];exact hi
  have hget:rows[i]? = some rows[i]:=List.getElem?_eq_getElem hi'
  obtain⟨m,y,hy⟩:=hr _ (List.mem_of_getElem? hget)
  have hlen:=hS.wide _ (List.mem_of_getElem? hget)
  generalize rows[i]=r at hget hy hlen
  match r,hlen with
  | [c0,c1,c2],_ =>
   obtain⟨p,hp⟩:=pt_of_trod hy
   exact⟨p,by rw[hget,hp]⟩)
 refine⟨l,hl,?_⟩
 have:=rows_map Pt.cs (hl.trans hS.len.symm) hp
 unfold Cells
 rw[←this,hl]
 exact hS
set_option maxRecDepth 100000 in
theorem knobs_of_trod{fuel n cap:Nat}{A:Option Addr}{x:DataW H×List MemPlace}
  (h:DataW.trod enc Tryz.prog w base spare held fuel 110 [.slice A n cap]=some x): ∃l:List Knb,l.length=n∧Knobs w A cap l:=by
 obtain⟨rows,hS,hr⟩:=rows_of_trod Tryz.underlying110 cells_knob (by omega) h
 obtain⟨l,hl,hp⟩:=list_of (fun i (p:Knb)=>rows[i]? = some p.cs∧p.byte) n (fun i hi=>by
  have hi':i<rows.length:=by rw[hS.len];exact hi
  have hget:rows[i]? = some rows[i]:=List.getElem?_eq_getElem hi'
  obtain⟨m,y,hy⟩:=hr _ (List.mem_of_getElem? hget)
  obtain⟨xs,m',_,_,hlen,hxl,hf⟩:=DataW.trod_struct Tryz.underlying137 hy
  rw[cells_knob] at hlen
  generalize rows[i]=r at hget hy hlen hf
  match r,hlen with
  | [c0,c1,c2,c3,c4],_ =>
   have f0:=hf 0 _ rfl
   have f1:=hf 1 _ rfl
   have f2:=hf 2 _ rfl
   match xs,hxl with
   | [y0,y1,y2],_ =>
    change DataW.trod enc _ _ _ _ _ _ _ (List.take (Tryz.prog.cellsOf 124) [c0,c1,c2,c3,c4])=_ at f0
    rw[cells_cell] at f0
    obtain⟨p,hp⟩:=pt_of_trod f0
    obtain⟨d,e1,_,wd⟩:=DataW.trod_int Tryz.underlying5 f1
    obtain⟨s,e2,_,ws⟩:=DataW.trod_int Tryz.underlying5 f2
    change List.take (Tryz.prog.cellsOf 5) [c3,c4]=_ at e1
    change List.take (Tryz.prog.cellsOf 5) [c4]=_ at e2
    rw[cells_u8] at e1 e2
    simp at e1 e2
    subst e1 e2
    unfold Pt.cs at hp
    simp only[List.cons.injEq,and_true] at hp
    obtain⟨rfl,rfl,rfl⟩:=hp
    exact⟨⟨p,d,s⟩,hget,bounds_u8 wd,bounds_u8 ws⟩)
 refine⟨l,hl,?_,fun x hm=> ?_⟩
 ·have:=rows_map Knb.cs (hl.trans hS.len.symm) fun i x hx=>(hp i x hx).1
  rw[←this,hl]
  exact hS
 ·obtain⟨i,hi⟩:=List.getElem?_of_mem hm
  exact(hp i x hi).2
theorem slice_form'{t e:TypeId}(ht:Tryz.prog.underlying t=some (.slice e)){fuel:Nat}{c:Value}{x:DataW H×List MemPlace}(h:DataW.trod enc Tryz.prog w base spare held fuel t [c]=some x): ∃A n ca,c = .slice A n ca∧(A=none→ca=0):=by
 rcases open_slice ht h with⟨h,_⟩|⟨a,len,cap',_,_,_,_,h,_⟩
 ·exact⟨none,0,0,by simpa using h,fun _=>rfl⟩
 ·exact⟨some a,len,cap',by simpa using h,fun h=>by cases h⟩
set_option maxRecDepth 100000 in
theorem kind_of_trod{fuel:Nat}{c0 c1 c2:Value}{x:DataW H×List MemPlace}(h:DataW.trod enc Tryz.prog w base spare held fuel 112 [c0,c1,c2]=some x) :
  ∃(k:Knd) (p:KAt),[c0,c1,c2]=k.cs p∧KindAt w p k∧(p.A=none→p.ca=0)∧(p.B=none→p.cb=0):=by
 obtain⟨zs,m'',_,_,_,hzl,hg⟩:=DataW.trod_struct Tryz.underlying112 h
 have g0:=hg 0 _ rfl
 have g1:=hg 1 _ rfl
 have g2:=hg 2 _ rfl
 match zs,hzl with
 | [z0,z1,z2],_ =>
  change DataW.trod enc _ _ _ _ _ _ _ (List.take (Tryz.prog.cellsOf 109) [c0,c1,c2])=_ at g0
  change DataW.trod enc _ _ _ _ _ _ _ (List.take (Tryz.prog.cellsOf 110) [c1,c2])=_ at g1
  rw[cells_scell] at g0
  rw[cells_sknob] at g1
  change DataW.trod enc _ _ _ _ _ _ _ [c0]=_ at g0
  change DataW.trod enc _ _ _ _ _ _ _ [c1]=_ at g1
  obtain⟨A,n,ca,rfl,hA⟩:=slice_form' Tryz.underlying109 g0
  obtain⟨B,m,cb,rfl,hB⟩:=slice_form' Tryz.underlying110 g1
  obtain⟨cells,rfl,hc⟩:=cells_of_trod g0
  obtain⟨knobs,rfl,hn⟩:=knobs_of_trod g1
  obtain⟨wt,h3,_,_⟩:=DataW.trod_int Tryz.underlying3 g2
  change List.take (Tryz.prog.cellsOf 3) [c2]=_ at h3
  rw[cells_int] at h3
  simp at h3
  subst h3
  exact⟨⟨cells,knobs,wt⟩,⟨A,ca,B,cb⟩,rfl,⟨hc,hn⟩,hA,hB⟩
set_option maxRecDepth 100000 in
theorem kinds_of_trod{fuel n cap:Nat}{A:Option Addr}{x:DataW H×List MemPlace}
  (h:DataW.trod enc Tryz.prog w base spare held fuel 22 [.slice A n cap]=some x): ∃qs:List (Knd×KAt),qs.length=n∧Kinds w A cap qs ∧ ∀q∈qs,(q.2.A=none→q.2.ca=0)∧(q.2.B=none→q.2.cb=0):=by
 obtain⟨rows,hS,hr⟩:=rows_of_trod Tryz.underlying22 cells_kind (by omega) h
 obtain⟨l,hl,hp⟩:=list_of (fun i (q:Knd×KAt)=>rows[i]? = some (q.1.cs q.2)∧KindAt w q.2 q.1∧(q.2.A=none→q.2.ca=0)∧(q.2.B=none→q.2.cb=0)) n (fun i hi=>by
  have hi':i<rows.length:=by rw[hS.len];exact hi
  have hget:rows[i]? = some rows[i]:=List.getElem?_eq_getElem hi'
  obtain⟨m,y,hy⟩:=hr _ (List.mem_of_getElem? hget)
  have hlen:=hS.wide _ (List.mem_of_getElem? hget)
  generalize rows[i]=r at hget hy hlen
  match r,hlen with
  | [c0,c1,c2],_ =>
   obtain⟨k,p,hp,hk⟩:=kind_of_trod hy
   exact⟨(k,p),by rw[hget,hp],hk⟩)
 refine⟨l,hl,⟨?_,fun q hm=> ?_⟩,fun q hm=> ?_⟩
 ·have:=rows_map (fun q:Knd×KAt=>q.1.cs q.2) (hl.trans hS.len.symm) fun i x hx=>(hp i x hx).1
  rw[←this,hl]
  exact hS
 ·obtain⟨i,hi⟩:=List.getElem?_of_mem hm
  exact(hp i q hi).2.1
 ·obtain⟨i,hi⟩:=List.getElem?_of_mem hm
  exact(hp i q hi).2.2
set_option maxRecDepth 100000 in
theorem brick_of_trod{fuel:Nat}{c0 c1 c2 c3 c4 c5:Value}{x:DataW H×List MemPlace}(h:DataW.trod enc Tryz.prog w base spare held fuel 126 [c0,c1,c2,c3,c4,c5]=some x) :
  ∃b:Brk,[c0,c1,c2,c3,c4,c5]=b.cs∧b.byte:=by
 obtain⟨zs,m'',_,_,_,hzl,hg⟩:=DataW.trod_struct Tryz.underlying126 h
 have g0:=hg 0 _ rfl
 have g1:=hg 1 _ rfl
 have g2:=hg 2 _ rfl
 have g3:=hg 3 _ rfl
 match zs,hzl with
 | [z0,z1,z2,z3],_ =>
  change DataW.trod enc _ _ _ _ _ _ _ (List.take (Tryz.prog.cellsOf 124) [c1,c2,c3,c4,c5])=_ at g1
  rw[cells_cell] at g1
  obtain⟨p,hp⟩:=pt_of_trod g1
  obtain⟨k,h1,_,_⟩:=DataW.trod_int Tryz.underlying3 g0
  obtain⟨t,h2,_,wt⟩:=DataW.trod_int Tryz.underlying5 g2
  obtain⟨c,h3,_,wc⟩:=DataW.trod_int Tryz.underlying5 g3
  change List.take (Tryz.prog.cellsOf 3) [c0,c1,c2,c3,c4,c5]=_ at h1
  change List.take (Tryz.prog.cellsOf 5) [c4,c5]=_ at h2
  change List.take (Tryz.prog.cellsOf 5) [c5]=_ at h3
  rw[cells_int] at h1
  rw[cells_u8] at h2 h3
  simp at h1 h2 h3
  subst h1 h2 h3
  unfold Pt.cs at hp
  simp only[List.cons.injEq,and_true] at hp
  obtain⟨rfl,rfl,rfl⟩:=hp
  exact⟨⟨k,p,t,c⟩,rfl,bounds_u8 wt,bounds_u8 wc⟩
set_option maxRecDepth 100000 in
theorem bricks_of_trod{fuel n cap:Nat}{A:Option Addr}{x:DataW H×List MemPlace}
  (h:DataW.trod enc Tryz.prog w base spare held fuel 23 [.slice A n cap]=some x): ∃l:List Brk,l.length=n∧Bricks w A cap l:=by
 obtain⟨rows,hS,hr⟩:=rows_of_trod Tryz.underlying23 cells_brick (by omega) h
 obtain⟨l,hl,hp⟩:=list_of (fun i (p:Brk)=>rows[i]? = some p.cs∧p.byte) n (fun i hi=>by
  have hi':i<rows.length:=by rw[hS.len];exact hi
  have hget:rows[i]? = some rows[i]:=List.getElem?_eq_getElem hi'
  obtain⟨m,y,hy⟩:=hr _ (List.mem_of_getElem? hget)
  have hlen:=hS.wide _ (List.mem_of_getElem? hget)
  generalize rows[i]=r at hget hy hlen
  match r,hlen with
  | [c0,c1,c2,c3,c4,c5],_ =>
   obtain⟨b,hb,hbb⟩:=brick_of_trod hy
   exact⟨b,by rw[hget,hb],hbb⟩)
 refine⟨l,hl,?_,fun x hm=> ?_⟩
 ·have:=rows_map Brk.cs (hl.trans hS.len.symm) fun i x hx=>(hp i x hx).1
  rw[←this,hl]
  exact hS
 ·obtain⟨i,hi⟩:=List.getElem?_of_mem hm
  exact(hp i x hi).2
end
theorem cells_sbrick:Tryz.prog.cellsOf 23=1:=by kernel_rfl
section
variable {H:Type} {enc:TypeId×Value→H} {w:World} {base:Nat} {spare:Nat→Bool} {held:Bool}
set_option maxRecDepth 100000 in
theorem model_open{r:Reach}{b0:Nat}{v:Value}{d:DataW H}{p:List MemPlace}(hv:Value.okWide Tryz.prog w r b0 25 v)(h:DataW.Trod enc Tryz.prog w base spare held 25 v d p) :
  ∃A cap bs,v = .agg #[.slice A bs.length cap]∧Bricks w A cap bs∧(A=none→cap=0):=by
 obtain⟨cs,rfl,hsz⟩:=okWide_struct Tryz.underlying25 hv
 rw[show Tryz.prog.cellsOf 25=1 by kernel_rfl] at hsz
 obtain⟨l⟩:=cs
 simp only[List.size_toArray] at hsz
 match l,hsz with
 | [c0],_ =>
  obtain⟨fuel,hf⟩:=h
  have hf':DataW.trod enc Tryz.prog w base spare held fuel 25 [c0]=some (d,p):=by simpa [Value.cells] using hf
  obtain⟨zs,m'',_,_,_,hzl,hg⟩:=DataW.trod_struct Tryz.underlying25 hf'
  have g0:=hg 0 _ rfl
  match zs,hzl with
  | [z0],_ =>
   change DataW.trod enc _ _ _ _ _ _ _ (List.take (Tryz.prog.cellsOf 23) [c0])=_ at g0
   rw[cells_sbrick] at g0
   change DataW.trod enc _ _ _ _ _ _ _ [c0]=_ at g0
   obtain⟨A,n,ca,rfl,hA⟩:=slice_form' Tryz.underlying23 g0
   obtain⟨bs,rfl,hb⟩:=bricks_of_trod g0
   exact⟨A,ca,bs,rfl,hb,hA⟩
end
end Go.Proofs.YtojolpbpjimfgaaGreatDoor
