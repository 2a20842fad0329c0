/- Texts of the proof: Tops6, RFits. -/
import Derived.Test.YtojolpbpjimfgaaGreatDoorZz8
import Derived.Test.YtojolpbpjimfgaaGreatDoorZz18
import Derived.Test.YtojolpbpjimfgaaGreatDoorZz32
import Derived.Test.YtojolpbpjimfgaaGreatDoorZz34
import Derived.Test.YtojolpbpjimfgaaGreatDoorZz35
import Derived.Test.YtojolpbpjimfgaaGreatDoorZz42
import Derived.Test.YtojolpbpjimfgaaGreatDoorZz43
import Derived.Test.YtojolpbpjimfgaaGreatDoorZz45
namespace Go.Proofs.YtojolpbpjimfgaaGreatDoor
open Go.RowKit
def holdE(m:MB)(th:List Int):Int:=if restErr m.ks m.bs m.tab m.hands=0 then(if chosenB th m.bs.length=true then 0 else 2) else restErr m.ks m.bs m.tab m.hands
noncomputable def holdA(m:MB)(th:List Int):Bool:=if holdE m th=0 then holdB m.ks m.bs m.tab m.hands (numOf th) else false
def wayBad(m:MB)(th:List Int)(b:Int):Bool:= !chosenB th m.bs.length||(decide (b<0)||(decide ((m.bs.length:Int)≤b)||(numOf th).testBit b.toNat))
def wayE(m:MB)(th:List Int)(b:Int):Int:=if restErr m.ks m.bs m.tab m.hands=0 then(if wayBad m th b=true then 2 else 0) else restErr m.ks m.bs m.tab m.hands
noncomputable def wayA(m:MB)(th:List Int)(b:Int):List Int:=if wayE m th b=0 then wayQ m.ks m.bs m.tab (numOf th) b.toNat 6 else []
def seenBad(m:MB)(th:List Int)(d:Int):Bool:= !chosenB th m.bs.length||(decide (d<0)||decide (5<d))
def seenE(m:MB)(th:List Int)(d:Int):Int:=if checkErr m.ks m.bs=0 then(if seenBad m th d=true then 2 else 0) else checkErr m.ks m.bs
noncomputable def seenA(m:MB)(th:List Int)(d:Int):List Int:=if seenE m th d=0 then seenQ m.ks m.bs (numOf th) d.toNat (setL (numOf th)).length else []
def ListPost(l:List Int)(er:Int)(w:World)(e:Ending)(w':World):Prop:= ∃A cap,e = .returned (.tuple #[.slice A l.length cap,.int .i64 er])∧IntsZ w' A cap l∧Ext w w'
theorem listPost_nil{er:Int}{w w':World}(E:Ext w w'):ListPost [] er w (.returned (.tuple #[.slice none 0 0,.int .i64 er])) w':=⟨none,0,rfl,ints_nil _,E⟩
set_option maxRecDepth 100000 in
set_option maxHeartbeats 8000000 in
theorem Holds6_c(m:MB)(TA:Option Addr)(tc:Nat)(th:List Int)(w:World)(hM:MBAt w m)(hth:IntsZ w TA tc th)(hTz:Tz6Tab w) :
  Calls Tryz.prog 7 #[.slice m.QA m.qs.length m.qc,.agg #[.slice m.B m.bs.length m.cb],.agg #[.int .i64 m.tab,.slice m.HA m.hands.length m.hc],.slice TA th.length tc] w fun e w'=>e = .returned (.tuple #[.bool (holdA m th),.int .i64 (holdE m th)])∧Ext w w':=by
 obtain⟨W1,hW1,E1,B1,hz1⟩:=mk_ w #[.slice m.B m.bs.length m.cb] 25
 obtain⟨W2,hW2,E2,B2,hz2⟩:=mk_ W1 #[.int .i64 m.tab,.slice m.HA m.hands.length m.hc] 28
 have E:=E1.trans E2
 have HB1:=h_ (B1.ext E2)
 have HB2:=h_ B2
 have b1:=HB1.out.cell
 have b2:=HB2.out.cell
 have HE:=h_ E
 have HM:=h_ hM
 have HTh:=h_ hth
 have HTz:=h_ hTz
 have RE:=checkRest_c m.qs m.QA m.qc m.bs m.B m.cb m.tab m.HA m.hc m.hands W2 (hM.ext E).k (hM.ext E).b (hM.ext E).h
 replace RE:Calls Tryz.prog 26 #[.slice m.QA m.qs.length m.qc,.agg #[.slice m.B m.bs.length m.cb],.agg #[.int .i64 m.tab,.slice m.HA m.hands.length m.hc]] W2 fun e w'=>e = .returned (.int .i64 (restErr m.ks m.bs m.tab m.hands))∧Ext W2 w':=RE
 obtain⟨r,hr⟩:=nm (restErr m.ks m.bs m.tab m.hands)
 rw[hr] at RE
 have Hr:=h_ hr
 clear hz1 hz2 B1 B2 E1 E2 E hM hth hTz hr
 by_cases h0:r=0
 rotate_left
 ·have h1:(r != 0)=true:=by simpa using h0
  have Hv:=h_ (show holdE m th=r∧holdA m th=false from by
   have e:holdE m th=r:=by rw[holdE,if_neg (by rw[Hr.out];exact h0),Hr.out]
   exact⟨e,by rw[holdA,if_neg (by rw[e];exact h0)]⟩)
  go_enter Tryz.func7,Tryz.ntmps7
  go_wp2_with fail
  refine RE.mono ?_
  rintro e W3 ⟨rfl,E3⟩
  go_wp2_with fail
  go_ret2
  exact⟨by rw[Hv.out.1,Hv.out.2];rfl,HE.out.trans E3⟩
 subst h0
 have hn40:=(HM.out.fit (restErr_zero Hr.out).1).n
 go_enter Tryz.func7,Tryz.ntmps7
 go_wp2_with fail
 clear hW1 hW2
 refine RE.mono ?_
 rintro e W3 ⟨rfl,E3⟩
 have HE3:=h_ (HE.out.trans E3)
 have b1:=(HB1.out.ext E3).cell
 have b2:=(HB2.out.ext E3).cell
 have CH:=chosen6_c TA tc th m.bs.length W3 (IntsZ.ext HTh.out HE3.out) (by omega)
 have HB13:=h_ (HB1.out.ext E3)
 have HB23:=h_ (HB2.out.ext E3)
 unfold ChPost at CH
 obtain⟨c,hc⟩:=nm (chosenB th m.bs.length)
 rw[hc] at CH
 have Hc:=h_ hc
 clear RE E3 hc
 go_wp2_with fail
 refine CH.mono ?_
 rintro e W4 ⟨rfl,E4⟩
 cases c
 ·have Hv:=h_ (show holdE m th=2∧holdA m th=false from by
   have e:holdE m th=2:=by rw[holdE,if_pos Hr.out,if_neg (by rw[Hc.out];decide)]
   exact⟨e,by rw[holdA,if_neg (by rw[e];decide)]⟩)
  have HE4:=h_ (HE3.out.trans E4)
  clear E4
  go_wp2_with fail
  go_ret2
  exact⟨by rw[Hv.out.1,Hv.out.2];rfl,HE4.out⟩
 ·simp only[if_true]
  have HE4:=h_ (HE3.out.trans E4)
  have b14:=(HB13.out.ext E4).cell
  have b24:=(HB23.out.ext E4).cell
  have ST:=start_c m W4 (HM.out.ext HE4.out) (restErr_zero Hr.out).1
  have hset:=(chosen_set (by omega) Hc.out).2
  have HHc:=h_ (fun(p:PlV) (hm:List (Int×Bool)) (W:World) (E:Ext w W) (hp:PlanAt W m p hm)=>holds6_c m p hm (numOf th) W hp (HM.out.ext E) Hr.out hset (HTz.out.ext E))
  have Hv:=h_ (show holdE m th=0∧holdA m th=holdB m.ks m.bs m.tab m.hands (numOf th) from by
   have e:holdE m th=0:=by rw[holdE,if_pos Hr.out,if_pos Hc.out]
   exact⟨e,by rw[holdA,if_pos e]⟩)
  obtain⟨s,hs⟩:=nm (numOf th)
  rw[hs] at HHc Hv
  rw[hs]
  clear b1 b2 E4 CH hset hs
  go_wp2_with fail
  clear b14 b24
  refine ST.mono ?_
  rintro e W5 ⟨p,rfl,hX,hp,E5⟩
  have HE5:=h_ (HE4.out.trans E5)
  have HH:=HHc.out p [] W5 HE5.out hp
  have HHl:=h_ (show w.heap.size≤p.H from Nat.le_trans HE4.out.size hX)
  clear ST E5 hX hp
  go_wp2_with fail
  refine HH.mono ?_
  rintro e W6 ⟨rfl,-,O6⟩
  have E6:=h_ (Only.below HE5.out O6 (fun k e=>by rw[e];exact HHl.out))
  clear O6 HH
  go_wp2_with fail
  go_ret2
  exact⟨by rw[Hv.out.1,Hv.out.2];rfl,E6.out⟩
set_option maxRecDepth 100000 in
set_option maxHeartbeats 8000000 in
theorem Ways6_c(m:MB)(TA:Option Addr)(tc:Nat)(th:List Int)(b:Int)(w:World)(hM:MBAt w m)(hth:IntsZ w TA tc th)(hTz:Tz6Tab w) :
  Calls Tryz.prog 9 #[.slice m.QA m.qs.length m.qc,.agg #[.slice m.B m.bs.length m.cb],.agg #[.int .i64 m.tab,.slice m.HA m.hands.length m.hc],.slice TA th.length tc,.int .i64 b] w (ListPost (wayA m th b) (wayE m th b) w):=by
 obtain⟨W1,hW1,E1,B1,hz1⟩:=mk_ w #[.slice m.B m.bs.length m.cb] 25
 obtain⟨W2,hW2,E2,B2,hz2⟩:=mk_ W1 #[.int .i64 m.tab,.slice m.HA m.hands.length m.hc] 28
 have E:=E1.trans E2
 have HB1:=h_ (B1.ext E2)
 have HB2:=h_ B2
 have b1:=HB1.out.cell
 have b2:=HB2.out.cell
 have HE:=h_ E
 have HM:=h_ hM
 have HTh:=h_ hth
 have HTz:=h_ hTz
 have RE:=checkRest_c m.qs m.QA m.qc m.bs m.B m.cb m.tab m.HA m.hc m.hands W2 (hM.ext E).k (hM.ext E).b (hM.ext E).h
 replace RE:Calls Tryz.prog 26 #[.slice m.QA m.qs.length m.qc,.agg #[.slice m.B m.bs.length m.cb],.agg #[.int .i64 m.tab,.slice m.HA m.hands.length m.hc]] W2 fun e w'=>e = .returned (.int .i64 (restErr m.ks m.bs m.tab m.hands))∧Ext W2 w':=RE
 obtain⟨r,hr⟩:=nm (restErr m.ks m.bs m.tab m.hands)
 rw[hr] at RE
 have Hr:=h_ hr
 clear hz1 hz2 B1 B2 E1 E2 E hM hth hTz hr
 by_cases h0:r=0
 rotate_left
 ·have h1:(r != 0)=true:=by simpa using h0
  have Hv:=h_ (show wayE m th b=r∧wayA m th b = [] from by
   have e:wayE m th b=r:=by rw[wayE,if_neg (by rw[Hr.out];exact h0),Hr.out]
   exact⟨e,by rw[wayA,if_neg (by rw[e];exact h0)]⟩)
  go_enter Tryz.func9,Tryz.ntmps9
  go_wp2_with fail
  refine RE.mono ?_
  rintro e W3 ⟨rfl,E3⟩
  go_wp2_with fail
  go_ret2
  rw[Hv.out.1,Hv.out.2]
  exact listPost_nil (HE.out.trans E3)
 subst h0
 have hn40:=(HM.out.fit (restErr_zero Hr.out).1).n
 go_enter Tryz.func9,Tryz.ntmps9
 go_wp2_with fail
 clear hW1 hW2
 refine RE.mono ?_
 rintro e W3 ⟨rfl,E3⟩
 have HE3:=h_ (HE.out.trans E3)
 have b1:=(HB1.out.ext E3).cell
 have b2:=(HB2.out.ext E3).cell
 have CH:=chosen6_c TA tc th m.bs.length W3 (IntsZ.ext HTh.out HE3.out) (by omega)
 have HB13:=h_ (HB1.out.ext E3)
 have HB23:=h_ (HB2.out.ext E3)
 unfold ChPost at CH
 obtain⟨c,hc⟩:=nm (chosenB th m.bs.length)
 rw[hc] at CH
 have Hc:=h_ hc
 clear RE E3 hc
 go_wp2_with fail
 refine CH.mono ?_
 rintro e W4 ⟨rfl,E4⟩
 have HE4:=h_ (HE3.out.trans E4)
 have HB14:=h_ (HB13.out.ext E4)
 have HB24:=h_ (HB23.out.ext E4)
 have b14:=HB14.out.cell
 have b24:=HB24.out.cell
 clear b1 b2 CH
 cases c
 ·have Hbad:=h_ (show wayBad m th b=true by unfold wayBad;rw[Hc.out];rfl)
  clear E4
  have Hv:=h_ (show wayE m th b=2∧wayA m th b = [] from by
   have e:wayE m th b=2:=by rw[wayE,if_pos Hr.out,if_pos Hbad.out]
   exact⟨e,by rw[wayA,if_neg (by rw[e];decide)]⟩)
  go_wp2_with fail
  go_ret2
  rw[Hv.out.1,Hv.out.2]
  exact listPost_nil HE4.out
 simp only[if_true]
 by_cases hb0:b<0
 ·have Hbad:=h_ (show wayBad m th b=true by unfold wayBad;rw[Hc.out,decide_eq_true hb0];rfl)
  have h1:decide (b<0)=true:=decide_eq_true hb0
  clear E4
  have Hv:=h_ (show wayE m th b=2∧wayA m th b = [] from by
   have e:wayE m th b=2:=by rw[wayE,if_pos Hr.out,if_pos Hbad.out]
   exact⟨e,by rw[wayA,if_neg (by rw[e];decide)]⟩)
  go_wp2_with fail
  go_ret2
  rw[Hv.out.1,Hv.out.2]
  exact listPost_nil HE4.out
 have h1:decide (b<0)=false:=decide_eq_false hb0
 by_cases hbn:(m.bs.length:Int)≤b
 ·have Hbad:=h_ (show wayBad m th b=true by unfold wayBad;rw[Hc.out,h1,decide_eq_true hbn];rfl)
  have h2:decide ((m.bs.length:Int)≤b)=true:=decide_eq_true hbn
  clear E4
  have Hv:=h_ (show wayE m th b=2∧wayA m th b = [] from by
   have e:wayE m th b=2:=by rw[wayE,if_pos Hr.out,if_pos Hbad.out]
   exact⟨e,by rw[wayA,if_neg (by rw[e];decide)]⟩)
  go_wp2_with fail
  go_ret2
  rw[Hv.out.1,Hv.out.2]
  exact listPost_nil HE4.out
 have h2:decide ((m.bs.length:Int)≤b)=false:=decide_eq_false hbn
 obtain⟨k,rfl⟩:=Int.eq_ofNat_of_zero_le (show 0≤b by omega)
 have hset:=(chosen_set (by omega) Hc.out).2
 have HSc:=h_ (fun W=>has6_c (numOf th) k ((hset.mono (show m.bs.length≤64 by omega)).lt) (by omega) W)
 have hkn:k<m.bs.length:=by omega
 have ST:=h_ (fun(W:World) (E:Ext w W)=>start_c m W (HM.out.ext E) (restErr_zero Hr.out).1)
 have HHc:=h_ (fun(p:PlV) (W:World) (E:Ext w W) (hp:PlanAt W m p [])=>ways6_c m p [] (numOf th) k W hp (HM.out.ext E) (restErr_zero Hr.out).1 ((restErr_zero Hr.out).2.2.2 k hkn) hset hkn)
 obtain⟨r,hr⟩:=nm ((numOf th).testBit k)
 have Hbd:=h_ (show wayBad m th k=r by unfold wayBad;rw[Hc.out,h1,h2,Int.toNat_natCast,hr];rfl)
 rw[hr] at HSc
 obtain⟨s,hs⟩:=nm (numOf th)
 have Hs:=h_ hs
 rw[hs] at HSc HHc
 rw[hs]
 clear hset hs hr E4 hkn
 go_wp2_with fail
 refine(HSc.out _).mono ?_
 rintro e W5 ⟨rfl,E5⟩
 have HE5:=h_ (HE4.out.trans E5)
 have HB15:=h_ (HB14.out.ext E5)
 have HB25:=h_ (HB24.out.ext E5)
 have b14:=HB15.out.cell
 have b24:=HB25.out.cell
 clear E5
 cases r
 rotate_left
 ·have Hbad:=h_ (show wayBad m th k=true from Hbd.out)
  have Hv:=h_ (show wayE m th k=2∧wayA m th k = [] from by
   have e:wayE m th k=2:=by rw[wayE,if_pos Hr.out,if_pos Hbad.out]
   exact⟨e,by rw[wayA,if_neg (by rw[e];decide)]⟩)
  clear b14 b24
  go_wp2_with fail
  go_ret2
  rw[Hv.out.1,Hv.out.2]
  exact listPost_nil HE5.out
 ·have Hv:=h_ (show wayE m th k=0∧wayA m th k=wayQ m.ks m.bs m.tab s k 6 from by
   have e:wayE m th k=0:=by rw[wayE,if_pos Hr.out,if_neg (by rw[Hbd.out];decide)]
   exact⟨e,by rw[wayA,if_pos e,Hs.out,Int.toNat_natCast]⟩)
  go_wp2_with fail
  clear b14 b24
  refine(ST.out _ HE5.out).mono ?_
  rintro e W6 ⟨p,rfl,-,hp,E6⟩
  have HE6:=h_ (HE5.out.trans E6)
  have HH:=HHc.out p W6 HE6.out hp
  clear E6 hp
  go_wp2_with fail
  refine HH.mono ?_
  rintro e W7 ⟨LA,lc,rfl,hZ,E7⟩
  have HF:=h_ (show IntsZ W7 LA lc (wayQ m.ks m.bs m.tab s k 6)∧Ext w W7 from⟨hZ,HE6.out.trans E7⟩)
  obtain⟨nl,hnl⟩:=nm ((wayQ m.ks m.bs m.tab s k 6).length)
  have Hnl:=h_ hnl
  rw[hnl]
  clear hZ E7 HH hnl
  go_wp2_with fail
  go_ret2
  rw[Hv.out.1,Hv.out.2]
  exact⟨LA,lc,by rw[Hnl.out];rfl,HF.out.1,HF.out.2⟩
set_option maxRecDepth 100000 in
set_option maxHeartbeats 8000000 in
theorem Seen6_c(m:MB)(TA:Option Addr)(tc:Nat)(th:List Int)(d:Int)(w:World)(hM:MBAt w m)(hth:IntsZ w TA tc th)(hTz:Tz6Tab w) :
  Calls Tryz.prog 12 #[.slice m.QA m.qs.length m.qc,.agg #[.slice m.B m.bs.length m.cb],.slice TA th.length tc,.int .i64 d] w (ListPost (seenA m th d) (seenE m th d) w):=by
 obtain⟨W1,hW1,E1,B1,hz1⟩:=mk_ w #[.slice m.B m.bs.length m.cb] 25
 have HB1:=h_ B1
 have b1:=B1.cell
 have HE:=h_ E1
 have HM:=h_ hM
 have HTh:=h_ hth
 have HTz:=h_ hTz
 have RE:Calls Tryz.prog 38 #[.slice m.QA m.qs.length m.qc,.agg #[.slice m.B m.bs.length m.cb]] W1 fun e w'=>e = .returned (.int .i64 (checkErr m.ks m.bs))∧Ext W1 w':=checkM_c m.qs m.QA m.qc m.bs m.B m.cb W1 (hM.ext E1).k (hM.ext E1).b
 obtain⟨r,hr⟩:=nm (checkErr m.ks m.bs)
 rw[hr] at RE
 have Hr:=h_ hr
 clear hz1 B1 E1 hM hth hTz hr
 by_cases h0:r=0
 rotate_left
 ·have h1:(r != 0)=true:=by simpa using h0
  have Hv:=h_ (show seenE m th d=r∧seenA m th d = [] from by
   have e:seenE m th d=r:=by rw[seenE,if_neg (by rw[Hr.out];exact h0),Hr.out]
   exact⟨e,by rw[seenA,if_neg (by rw[e];exact h0)]⟩)
  go_enter Tryz.func12,Tryz.ntmps12
  go_wp2_with fail
  refine RE.mono ?_
  rintro e W3 ⟨rfl,E3⟩
  go_wp2_with fail
  go_ret2
  rw[Hv.out.1,Hv.out.2]
  exact listPost_nil (HE.out.trans E3)
 subst h0
 have hn40:=(HM.out.fit Hr.out).n
 go_enter Tryz.func12,Tryz.ntmps12
 go_wp2_with fail
 clear hW1
 refine RE.mono ?_
 rintro e W3 ⟨rfl,E3⟩
 have HE3:=h_ (HE.out.trans E3)
 have b1:=(HB1.out.ext E3).cell
 have CH:=chosen6_c TA tc th m.bs.length W3 (IntsZ.ext HTh.out HE3.out) (by omega)
 have HB13:=h_ (HB1.out.ext E3)
 unfold ChPost at CH
 obtain⟨c,hc⟩:=nm (chosenB th m.bs.length)
 rw[hc] at CH
 have Hc:=h_ hc
 clear RE E3 hc
 go_wp2_with fail
 refine CH.mono ?_
 rintro e W4 ⟨rfl,E4⟩
 have HE4:=h_ (HE3.out.trans E4)
 have HB14:=h_ (HB13.out.ext E4)
 have b14:=HB14.out.cell
 clear b1 CH E4
 cases c
 ·have Hbad:=h_ (show seenBad m th d=true by unfold seenBad;rw[Hc.out];rfl)
  have Hv:=h_ (show seenE m th d=2∧seenA m th d = [] from by
   have e:seenE m th d=2:=by rw[seenE,if_pos Hr.out,if_pos Hbad.out]
   exact⟨e,by rw[seenA,if_neg (by rw[e];decide)]⟩)
  clear b14
  go_wp2_with fail
  go_ret2
  rw[Hv.out.1,Hv.out.2]
  exact listPost_nil HE4.out
 simp only[if_true]
 by_cases hb0:d<0
 ·have Hbad:=h_ (show seenBad m th d=true by unfold seenBad;rw[Hc.out,decide_eq_true hb0];rfl)
  have h1:decide (d<0)=true:=decide_eq_true hb0
  have Hv:=h_ (show seenE m th d=2∧seenA m th d = [] from by
   have e:seenE m th d=2:=by rw[seenE,if_pos Hr.out,if_pos Hbad.out]
   exact⟨e,by rw[seenA,if_neg (by rw[e];decide)]⟩)
  clear b14
  go_wp2_with fail
  go_ret2
  rw[Hv.out.1,Hv.out.2]
  exact listPost_nil HE4.out
 have h1:decide (d<0)=false:=decide_eq_false hb0
 by_cases hb5:5<d
 ·have Hbad:=h_ (show seenBad m th d=true by unfold seenBad;rw[Hc.out,h1,decide_eq_true hb5];rfl)
  have h2:decide (5<d)=true:=decide_eq_true hb5
  have Hv:=h_ (show seenE m th d=2∧seenA m th d = [] from by
   have e:seenE m th d=2:=by rw[seenE,if_pos Hr.out,if_pos Hbad.out]
   exact⟨e,by rw[seenA,if_neg (by rw[e];decide)]⟩)
  clear b14
  go_wp2_with fail
  go_ret2
  rw[Hv.out.1,Hv.out.2]
  exact listPost_nil HE4.out
 have h2:decide (5<d)=false:=decide_eq_false hb5
 obtain⟨k,rfl⟩:=Int.eq_ofNat_of_zero_le (show 0≤d by omega)
 have hset:=(chosen_set (by omega) Hc.out).2
 have hk6:k<6:=by omega
 have ST:Hid (∀(W:World),Ext w W→Calls Tryz.prog 28 #[.slice m.QA m.qs.length m.qc,.agg #[.slice m.B m.bs.length m.cb],.agg #[.int .i64 0,.slice none 0 0]] W (StartPost ⟨m.qs,m.QA,m.qc,m.bs,m.B,m.cb,0,none,0,[]⟩ W)):=h_ (fun(W:World) (E:Ext w W)=>start_c ⟨m.qs,m.QA,m.qc,m.bs,m.B,m.cb,0,none,0,[]⟩ W ⟨(HM.out.ext E).k,(HM.out.ext E).b,ints_nil _⟩ Hr.out)
 have HHc:=h_ (fun(p:PlV) (W:World) (E:Ext w W) (hp:PlanAt W ⟨m.qs,m.QA,m.qc,m.bs,m.B,m.cb,0,none,0,[]⟩ p [])=>seen6_c _ p [] (numOf th) k W hp ⟨(HM.out.ext E).k,(HM.out.ext E).b,ints_nil _⟩ Hr.out hset hk6 (HTz.out.ext E))
 have Hv:=h_ (show seenE m th k=0∧seenA m th k=seenQ m.ks m.bs (numOf th) k (setL (numOf th)).length from by
  have e:seenE m th k=0:=by rw[seenE,if_pos Hr.out,if_neg (by unfold seenBad;rw[Hc.out,h1,h2];decide)]
  exact⟨e,by rw[seenA,if_pos e,Int.toNat_natCast]⟩)
 have HSL:=h_ (fun(s:Nat) (hs:SetB m.bs.length s) (hb: ∀j,s.testBit j=true↔(numOf th).testBit j=true∧seeB m.ks m.bs (numOf th) j k=true)=>show setI s=seenQ m.ks m.bs (numOf th) k (setL (numOf th)).length from by
  have e:s=seenN m.ks m.bs (numOf th) k:=Nat.eq_of_testBit_eq fun j=>by
   rw[Bool.eq_iff_iff,hb,seenN_bit m.ks m.bs hset (by omega),Bool.and_eq_true]
  rw[e,seenN_list m.ks m.bs hset (by omega)])
 obtain⟨s,hs⟩:=nm (numOf th)
 rw[hs] at HHc
 rw[hs]
 have Hs:=h_ hs
 clear hset hs
 go_wp2_with fail
 clear b14
 refine(ST.out _ HE4.out).mono ?_
 rintro e W6 ⟨p,rfl,-,hp,E6⟩
 have HE6:=h_ (HE4.out.trans E6)
 have HH:=HHc.out p W6 HE6.out hp
 clear E6 hp
 go_wp2_with fail
 refine HH.mono ?_
 rintro e W7 ⟨s2,rfl,hs2,hb2,E7⟩
 have HE7:=h_ (HE6.out.trans E7)
 have hsl:=HSL.out s2 hs2 (fun j=>by rw[Hs.out];exact hb2 j)
 have LC:=list6_c s2 ((hs2.mono (show m.bs.length≤64 by omega)).lt) W7 (HTz.out.ext HE7.out)
 rw[hsl] at LC
 have Hln:=h_ (show(setL s2).length=(seenQ m.ks m.bs (numOf th) k (setL (numOf th)).length).length by rw[←hsl,setI_len])
 clear E7 HH hs2 hb2 hsl
 go_wp2_with fail
 refine LC.mono ?_
 rintro e W8 ⟨LA,lc,rfl,hZ,E8⟩
 have HF:=h_ (show IntsZ W8 LA lc (seenQ m.ks m.bs (numOf th) k (setL (numOf th)).length)∧Ext w W8 from⟨hZ,HE7.out.trans E8⟩)
 clear hZ E8 LC
 go_wp2_with fail
 go_ret2
 rw[Hv.out.1,Hv.out.2]
 exact⟨LA,lc,by rw[←Hln.out];rfl,HF.out.1,HF.out.2⟩
theorem within6_c(n lo hi:Int)(w:World):Calls Tryz.prog 35 #[.int .i64 n,.int .i64 lo,.int .i64 hi] w fun e w'=>e = .returned (.bool (inB lo hi n))∧Ext w w':=by
 by_cases h1:lo≤n
 ·by_cases h2:n≤hi
  ·have Hv:=h_ (inB_iff.2 ⟨h1,h2⟩)
   have h3:n≥lo:=h1
   go_enter Tryz.func35,Tryz.ntmps35
   go_wp2_with fail
   go_ret
   exact⟨by rw[Hv.out];rfl,Ext.refl w⟩
  ·have Hv:=h_ (inB_not (lo:=lo) (hi:=hi) (n:=n) |>.2 (fun h=>h2 h.2))
   go_enter Tryz.func35,Tryz.ntmps35
   go_wp2_with fail
   go_ret
   exact⟨by rw[Hv.out];rfl,Ext.refl w⟩
 ·have Hv:=h_ (inB_not (lo:=lo) (hi:=hi) (n:=n) |>.2 (fun h=>h1 h.1))
  go_enter Tryz.func35,Tryz.ntmps35
  go_wp2_with fail
  go_ret
  exact⟨by rw[Hv.out];rfl,Ext.refl w⟩
set_option maxHeartbeats 1600000 in
theorem rIn6_c(A:Option Addr)(ca:Nat)(l:List Int)(n:Int)(w:World)(hs:IntsZ w A ca l) :
  Calls Tryz.prog 36 #[.slice A l.length ca,.int .i64 n] w fun e w'=>e = .returned (.bool (hasZ l n))∧Ext w w':=by
 have hl:l.length≤9223372036854775807:=by have:=hs.len;unfold maxLen at this;omega
 go_enter Tryz.func36,Tryz.ntmps36
 go_wp2_with fail
 go_loopw [5] (fun i wr=> ∃k:Nat,k≤l.length∧i = .int .i64 k∧Hid (hasZ l n=hasZ (l.drop k) n)∧Ext w wr) (fun i _=>l.length-(intOf i).toNat)
 case atStart=>exact⟨0,by omega,rfl,h_ rfl,Ext.refl w⟩
 case round =>
  obtain⟨k,hk,rfl,Hj,E⟩:=hrel
  by_cases hlt:k<l.length
  ·obtain⟨g,off,q,rfl,hq,hg,c0⟩:=hs.at_ hlt
   have e0:=E.cell c0
   have hle:=hs.le
   clear c0
   have Hd:=h_ (hasZ_drop (p:=n) hq)
   clear hq
   have i1:(0:Int)≤k:=by omega
   have i2:(k:Int)<l.length:=by omega
   have i3:(k:Int)<ca:=by omega
   obtain⟨r,hr⟩:=nm ((q==n))
   have hr2:(q==n)=r:=hr
   have Hr:=h_ hr
   skip
   cases r
   ·skip
    go_wp2_with fail
    go_roundw
    case rel=>exact⟨k+1,by omega,by go_num,h_ (by rw[Hj.out,Hd.out,Hr.out];rfl),E⟩
    case measure=>simp[intOf];omega
   ·skip
    go_wp2_with fail
    go_ret
    exact⟨by rw[Hj.out,Hd.out,Hr.out];rfl,E⟩
  ·obtain rfl:k=l.length:=by omega
   go_wp2_with fail
   go_ret
   exact⟨by rw[Hj.out,hasZ_none (Nat.le_refl _)];rfl,E⟩
theorem rIn6_set{TA:Option Addr}{tc n z:Nat}(hz:SetB n z)(hn:n≤64)(i:Nat){w:World}(hs:IntsZ w TA tc (setI z)) :
  Calls Tryz.prog 36 #[.slice TA (setL z).length tc,.int .i64 i] w fun e w'=>e = .returned (.bool (z.testBit i))∧Ext w w':=by
 have h:=rIn6_c TA tc (setI z) i w hs
 rw[setI_len,hasZ_setI hz hn] at h
 exact h
theorem rKnobbedAt_c{qs:List (Knd×KAt)}{bs:List Brk}{w:World}{QA:Option Addr}{qc:Nat}(hk:Kinds w QA qc qs)(hb: ∀b∈bs,b.byte)(h0:modelErr (qs.map (·.1)) bs=0){j:Nat}(hj:j<bs.length)(W:World)(E:Ext w W) :
  Calls Tryz.prog 101 #[.slice QA qs.length qc,brkV (brkAt bs j)] W (RKnobsPost (bknobs (qs.map (·.1)) (brkAt bs j)) (bknobs (qs.map (·.1)) (brkAt bs j)).length W):=by
 obtain⟨i,t,x,y,z,c,k,p,e,ht,hi,hkf,hp,hby,has,-,hn⟩:=brk_parts hk hb h0 hj
 have h:=rKnobbed_c qs QA qc i k.cells k.knobs k.weight p.A p.ca p.B p.cb hi t x y z c W (hk.ext E) (Nat.le_trans hkf.klen (by omega)) hkf.kok ht (hp.ok (by omega))
 have hl:k.knobs.length=(bknobs (qs.map (·.1)) (brkAt bs j)).length:=by rw[hn,placeK_len]
 rw[hl,←hn] at h
 rw[e] at h ⊢
 exact h
theorem knb_dir{w:World}{A:Option Addr}{n cap:Nat}{l:List Knb}(h:SliceIs w A n cap 5 (l.map Knb.cs))(hn:l.length=n){q:Nat}(hq:q<n): ∃b off,A=some ⟨b,off,none⟩∧w.cell? ⟨b,off+q*5+3,none⟩=some (.int .u8 (knbAt l q).dir):=by
 obtain⟨b,off,hA,hb,hc⟩:=h.cells (by omega)
 have hg:l[q]? = some (l[q]'(by omega)):=List.getElem?_eq_getElem _
 have hr:(l.map Knb.cs)[q]? = some (knbAt l q).cs:=by rw[List.getElem?_map,hg,knbAt_eq hg];rfl
 exact⟨b,off,hA,hc q _ hr 3 _ rfl⟩
def FitsPost(ks:List Knd)(bs:List Brk)(L:List Lnk)(z b d:Nat)(w:World)(e:Ending)(w':World):Prop:= ∃r,e = .returned (.bool r)∧(r=true ↔ ∀x∈L,fitX ks bs z b d x)∧Ext w w'
section
variable {ks:List Knd} {bs:List Brk} {z b d:Nat}
theorem fitX_a{x:Lnk}(h:x.a<x.b)(e:x.a=b):fitX ks bs z b d x↔(z.testBit x.b=true→(knbAt (bknobs ks (brkAt bs b)) x.knob).dir=d):=⟨fun h1=>h1.1 e,fun h1=>⟨fun _=>h1,fun e2=>by omega⟩⟩
theorem fitX_b{x:Lnk}(h:x.a<x.b)(e:x.b=b):fitX ks bs z b d x↔(z.testBit x.a=true→(knbAt (bknobs ks (brkAt bs b)) x.other).dir=d):=⟨fun h1=>h1.2 e,fun h1=>⟨fun e2=>by omega,fun _=>h1⟩⟩
theorem fitX_no{x:Lnk}(h1:x.a≠b)(h2:x.b≠b):fitX ks bs z b d x:=⟨fun e=>absurd e h1,fun e=>absurd e h2⟩
end
set_option maxRecDepth 100000 in
set_option maxHeartbeats 16000000 in
theorem rFits_c(qs:List (Knd×KAt))(QA:Option Addr)(qc:Nat)(bs:List Brk)(B:Option Addr)(cb:Nat)(TA:Option Addr)(tc z b d:Nat)(LA:Option Addr)(lc:Nat)(w:World)(hk:Kinds w QA qc qs)(hb:Bricks w B cb bs)(hcm:checkErr (qs.map (·.1)) bs=0)(hz:SetB bs.length z)(hbn:b<bs.length)(hd:d<6)(hT:IntsZ w TA tc (setI z))(hL:Links w LA lc (linkL (qs.map (·.1)) bs)) :
  Calls Tryz.prog 106 #[.slice QA qs.length qc,.agg #[.slice B bs.length cb],.slice TA (setL z).length tc,.int .i64 b,.int .i64 d,.slice LA (linkL (qs.map (·.1)) bs).length lc] w (FitsPost (qs.map (·.1)) bs (linkL (qs.map (·.1)) bs) z b d w):=by
 have hf:=fit_of hk hb.2 hcm
 have hnb:=hf.n
 obtain⟨g,off,rfl⟩:=bricks_addr hb (by omega)
 obtain⟨W1,hW1,E1,B1,hz1⟩:=mk_ w #[.slice (some ⟨g,off,none⟩) bs.length cb] 25
 have HIn:=h_ (fun(W:World) (E:Ext w W) (i:Nat)=>rIn6_set hz (by omega) i (IntsZ.ext hT E))
 have HKn:=h_ (fun(W:World) (E:Ext w W)=>rKnobbedAt_c hk hb.2 (check_model hcm) hbn W E)
 have HBc:=h_ (fun(W:World) (E:Ext w W)=>bricks_cell (hb.ext E) hbn (rfl:some (⟨g,off,none⟩:Addr)=some ⟨g,off,none⟩))
 have HLx:=h_ (fun(x:Lnk) (h:x∈linkL (qs.map (·.1)) bs)=>(⟨(mem_linkL.1 h).ab,lnk_lt h⟩:x.a<x.b∧_))
 have HDir:=h_ (fun(q:Nat) (hq:q<(bknobs (qs.map (·.1)) (brkAt bs b)).length)=>(hf.dirN hbn hq:_∧Go.Proofs.YtojolpbpjimfgaaGreatDoor.dirN (qs.map (·.1)) bs b q<6))
 have hll:(linkL (qs.map (·.1)) bs).length≤9223372036854775807:=by have:=hL.len;unfold maxLen at this;omega
 have hle:=SliceIs.le hL
 obtain⟨ks,hks⟩:=nm (qs.map (·.1))
 rw[hks] at hL HKn HLx HDir hll hle ⊢
 obtain⟨L,hLe⟩:=nm (linkL ks bs)
 have HLe:=h_ hLe
 rw[hLe] at hL HLx hll hle ⊢
 have HL:=h_ hL
 obtain⟨nb,hnbe⟩:=nm bs.length
 rw[hnbe] at hbn hnb HLx B1 hW1 ⊢
 obtain⟨⟨kd,⟨x1,x2,x3⟩,tn,cl⟩,hbk⟩:=nm (brkAt bs b)
 have Hbk:=h_ hbk
 rw[hbk] at HKn HBc HDir
 obtain⟨N,hN⟩:=nm (bknobs ks ⟨kd,⟨x1,x2,x3⟩,tn,cl⟩)
 have HN:=h_ hN
 rw[hN] at HKn HDir
 have HB1:=h_ B1
 have HE1:=h_ E1
 have b1:=B1.cell
 have b0:(0:Int)≤b:=by omega
 have b2:(b:Int)<nb:=by omega
 clear hz1 B1 E1 hk hb hf hks hLe hnbe hbk hN hT hL hcm
 go_enter Tryz.func106,Tryz.ntmps106
 go_wp2_with fail
 clear b1
 go_loopw [13] (fun i wr=> ∃k:Nat,k≤L.length∧i = .int .i64 k∧Hid (∀t,t<k → ∀x,L[t]? = some x→fitX ks bs z b d x)∧Ext W1 wr) (fun i _=>L.length-(intOf i).toNat)
 case atStart=>exact⟨0,by omega,rfl,h_ (fun t h=>absurd h (by omega)),Ext.refl _⟩
 case round =>
  obtain⟨k,hk,rfl,HJ,E⟩:=hrel
  by_cases hlt:k<L.length
  ·obtain⟨lb,lo,p,rfl,hp,hlb,c0,c1,c2,c3,c4⟩:=(HL.out.ext (HE1.out.trans E)).at_ hlt
   obtain⟨hab,hla,hlb2,hlq,hlo⟩:=HLx.out p (List.mem_of_getElem? hp)
   have Hj:=h_ (fun(h:fitX ks bs z b d p)=>show ∀t,t<k+1 → ∀x,L[t]? = some x→fitX ks bs z b d x from fun t ht x hx=>by
    rcases Nat.lt_or_ge t k with h1|h1
    ·exact HJ.out t h1 x hx
    ·obtain rfl:t=k:=by omega
     rw[hp] at hx
     cases hx
     exact h)
   have HNo:=h_ (fun(h: ¬fitX ks bs z b d p)=>show ¬∀x∈L,fitX ks bs z b d x from fun h2=>h (h2 p (List.mem_of_getElem? hp)))
   have i1:(0:Int)≤k:=by omega
   have i2:(k:Int)<L.length:=by omega
   have i3:(k:Int)<lc:=by omega
   have HFa:=h_ (fun e=>fitX_a (ks:=ks) (bs:=bs) (z:=z) (b:=b) (d:=d) (x:=p) hab e)
   have HFb:=h_ (fun e=>fitX_b (ks:=ks) (bs:=bs) (z:=z) (b:=b) (d:=d) (x:=p) hab e)
   have HFn:=h_ (fun e e2=>fitX_no (ks:=ks) (bs:=bs) (z:=z) (b:=b) (d:=d) (x:=p) e e2)
   obtain⟨pa,pb,q1,q2,sr⟩:=p
   simp only at c0 c1 c2 c3 c4 hab hla hlb2 hlq hlo HFa HFb HFn
   obtain⟨W2,hW2,EW,B2,hz2⟩:=mk_ wr #[.int .i64 pa,.int .i64 pb,.int .i64 q1,.int .i64 q2,.int .u8 sr] 135
   have HEW:=h_ (E.trans EW)
   have b2c:=B2.cell
   clear hp hz2
   go_wp2_with fail
   clear c0 c1 c2 c3 c4
   refine wp_region_grow (by kernel_rfl) (by kernel_rfl) ?_
   repeat (go_big_quiet_step ((fail)))
   refine wpQuiet_nil ?_
   intro W4 hW4
   have E4:Ext W2 W4:=by
    obtain⟨x,rfl⟩:=hW4
    exact(Ext.refl _).grow x
   clear hW4
   obtain⟨hcW4,hfW4,hzW4⟩:=ext_facts E4
   clear hcW4 hfW4 hzW4
   have HE4:=h_ (HEW.out.trans E4)
   have HB24:=h_ (B2.ext E4)
   have b2c:=HB24.out.cell
   clear E4
   by_cases hb1:pb=b
   ·have e1:((pb:Int)==(b:Int))=true:=by simp[hb1]
    have HFx:=h_ (HFb.out hb1)
    go_upto_region 7 with(fail)
    refine wp_region_grow (by kernel_rfl) (by kernel_rfl) ?_
    repeat (go_big_quiet_step ((fail)))
    refine wpQuiet_nil ?_
    intro W5 hW5
    have E5:Ext W4 W5:=by
     obtain⟨x,rfl⟩:=hW5
     exact(Ext.refl _).grow x
    clear hW5
    obtain⟨hcW5,hfW5,hzW5⟩:=ext_facts E5
    clear hcW5 hfW5 hzW5
    have HEc:=h_ (HE4.out.trans E5)
    go_wp2_with fail
    have hq:=(hb1▸hlo)
    rw[Hbk.out,HN.out] at hq HFx
    clear b2c
    refine(HIn.out _ (HE1.out.trans HEc.out) pa).mono ?_
    rintro e W6 ⟨rfl,E6⟩
    have HE6:=h_ (HEc.out.trans E6)
    have b1:=(HB1.out.ext HE6.out).cell
    obtain⟨t,ht⟩:=nm (z.testBit pa)
    rw[ht] at HFx ⊢
    clear ht E6
    cases t
    ·go_wp2_with fail
     clear b1
     go_roundw
     case rel=>exact⟨k+1,by omega,by go_num,h_ (Hj.out (HFx.out.2 nofun)),HE6.out⟩
     case measure=>simp[intOf];omega
    ·obtain⟨d0,d1,d2,d3,d4,d5⟩:=HBc.out W6 (HE1.out.trans HE6.out)
     go_wp2_with fail
     clear b1 d0 d1 d2 d3 d4 d5
     refine(HKn.out _ (HE1.out.trans HE6.out)).mono ?_
     rintro e W7 ⟨KA,kc,rfl,hS,-,E7⟩
     obtain⟨kb,ko,rfl,hkd⟩:=knb_dir hS rfl hq
     have hkl:=hS.le
     have hk0:(0:Int)≤q2:=by omega
     have hk1:(q2:Int)<N.length:=by omega
     obtain⟨hdr,hd6⟩:=HDir.out q2 hq
     have HE7:=h_ (HE6.out.trans E7)
     rw[hdr] at hkd HFx
     obtain⟨u,hu⟩:=nm (dirN ks bs b q2)
     rw[hu] at hkd HFx hd6
     clear hS hdr hu E7
     by_cases hud:u=d
     ·have huz:((u:Int) != (d:Int))=false:=by simp[hud]
      go_wp2_with fail
      clear hkd
      go_roundw
      case rel=>exact⟨k+1,by omega,by go_num,h_ (Hj.out (HFx.out.2 fun _=>by rw[hud])),HE7.out⟩
      case measure=>simp[intOf];omega
     ·have huz:((u:Int) != (d:Int))=true:=by simp;omega
      go_wp2_with fail
      go_ret
      exact⟨false,rfl,⟨nofun,fun h=>absurd h (HNo.out fun h=>hud (by have:=HFx.out.1 h trivial;omega))⟩,HE1.out.trans HE7.out⟩
   ·have e1:((pb:Int)==(b:Int))=false:=by simp;omega
    by_cases ha1:pa=b
    ·have e2:((pa:Int) != (b:Int))=false:=by simp[ha1]
     have HFx:=h_ (HFa.out ha1)
     have HEc:=HE4
     go_wp2_with fail
     have hq:=(ha1▸hlq)
     rw[Hbk.out,HN.out] at hq HFx
     clear b2c
     refine(HIn.out _ (HE1.out.trans HEc.out) pb).mono ?_
     rintro e W6 ⟨rfl,E6⟩
     have HE6:=h_ (HEc.out.trans E6)
     have b1:=(HB1.out.ext HE6.out).cell
     obtain⟨t,ht⟩:=nm (z.testBit pb)
     rw[ht] at HFx ⊢
     clear ht E6
     cases t
     ·go_wp2_with fail
      clear b1
      go_roundw
      case rel=>exact⟨k+1,by omega,by go_num,h_ (Hj.out (HFx.out.2 nofun)),HE6.out⟩
      case measure=>simp[intOf];omega
     ·obtain⟨d0,d1,d2,d3,d4,d5⟩:=HBc.out W6 (HE1.out.trans HE6.out)
      go_wp2_with fail
      clear b1 d0 d1 d2 d3 d4 d5
      refine(HKn.out _ (HE1.out.trans HE6.out)).mono ?_
      rintro e W7 ⟨KA,kc,rfl,hS,-,E7⟩
      obtain⟨kb,ko,rfl,hkd⟩:=knb_dir hS rfl hq
      have hkl:=hS.le
      have hk0:(0:Int)≤q1:=by omega
      have hk1:(q1:Int)<N.length:=by omega
      obtain⟨hdr,hd6⟩:=HDir.out q1 hq
      have HE7:=h_ (HE6.out.trans E7)
      rw[hdr] at hkd HFx
      obtain⟨u,hu⟩:=nm (dirN ks bs b q1)
      rw[hu] at hkd HFx hd6
      clear hS hdr hu E7
      by_cases hud:u=d
      ·have huz:((u:Int) != (d:Int))=false:=by simp[hud]
       go_wp2_with fail
       clear hkd
       go_roundw
       case rel=>exact⟨k+1,by omega,by go_num,h_ (Hj.out (HFx.out.2 fun _=>by rw[hud])),HE7.out⟩
       case measure=>simp[intOf];omega
      ·have huz:((u:Int) != (d:Int))=true:=by simp;omega
       go_wp2_with fail
       go_ret
       exact⟨false,rfl,⟨nofun,fun h=>absurd h (HNo.out fun h=>hud (by have:=HFx.out.1 h trivial;omega))⟩,HE1.out.trans HE7.out⟩
    ·have e2:((pa:Int) != (b:Int))=true:=by simp;omega
     go_wp2_with fail
     clear b2c
     go_roundw
     case rel=>exact⟨k+1,by omega,by go_num,h_ (Hj.out (HFn.out ha1 hb1)),HE4.out⟩
     case measure=>simp[intOf];omega
  ·obtain rfl:k=L.length:=by omega
   have HJ2:=h_ (fun x (h:x∈L)=>by
    obtain⟨t,ht⟩:=List.getElem?_of_mem h
    exact HJ.out t (List.getElem?_eq_some_iff.1 ht).1 x ht)
   go_wp2_with fail
   go_ret
   exact⟨true,rfl,⟨fun _=>HJ2.out,fun _=>rfl⟩,HE1.out.trans E⟩
end Go.Proofs.YtojolpbpjimfgaaGreatDoor
