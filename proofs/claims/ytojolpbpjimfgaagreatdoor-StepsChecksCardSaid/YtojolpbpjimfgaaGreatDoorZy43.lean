/- Texts of the proof: Fall. -/
import Derived.Test.YtojolpbpjimfgaaGreatDoorZy25
import Derived.Test.YtojolpbpjimfgaaGreatDoorZy35
import Derived.Test.YtojolpbpjimfgaaGreatDoorZy42
set_option maxHeartbeats 8000000
set_option maxRecDepth 100000
namespace Go.Proofs.YtojolpbpjimfgaaGreatDoor
open Go.RowKit
def FallPost(ks:List Knd)(bs:List Brk)(tab:Int)(hands:List Int)(w:World)(e:Ending)(w':World):Prop :=
 ∃A cap l,e = .returned (.tuple #[.slice A l.length cap,.int .i64 (restErr ks bs tab hands)])∧IntsZ w' A cap l∧FallOf ks bs tab hands l∧Ext w w'
theorem falling_c(qs:List (Knd×KAt))(QA:Option Addr)(qc:Nat)(bs:List Brk)(B:Option Addr)(cb:Nat)(tab:Int)(HA:Option Addr)(hc:Nat)(hands:List Int)(w:World)(hk:Kinds w QA qc qs)(hb:Bricks w B cb bs)(hh:IntsZ w HA hc hands) :
  Calls Tryz.prog 66 #[.slice QA qs.length qc,.agg #[.slice B bs.length cb],.agg #[.int .i64 tab,.slice HA hands.length hc]] w (FallPost (qs.map (·.1)) bs tab hands w):=by
 obtain⟨W1,hW1,E1,B1,hz1⟩:=mk_ w #[.slice B bs.length cb] 25;obtain⟨W2,hW2,E2,B2,hz2⟩:=mk_ W1 #[.int .i64 tab,.slice HA hands.length hc] 28;have E:=E1.trans E2;have b1:=(B1.ext E2).cell;have b2:=B2.cell;have HE:=h_ E;have RE:=rested_c qs QA qc bs B cb tab HA hc hands W2 (hk.ext E) (hb.ext E) (hh.ext E);by_cases h0:restErr (qs.map (·.1)) bs tab hands=0;rotate_left
 ·obtain⟨r,hr⟩:=nm (restErr (qs.map (·.1)) bs tab hands);have Hr:=h_ hr;have h1:(r != 0)=true:=by rw[←hr];simpa using h0
  clear hz1 hz2 B1 B2 E1 E2 E hk hb hh hr;go_enter Tryz.func66,Tryz.ntmps66;go_wp2_with fail;refine RE.mono ?_;rintro e W3 (⟨h2,-⟩|⟨-,rfl,E3⟩)
  ·exact absurd h2 h0
  ·rw[Hr.out];go_wp2_with fail;refine bodyPost_ret (v:= .tuple #[.slice none 0 0,.int .i64 r]) (by simp[results,Tryz.results66,go_sem]) rfl ⟨none,0,[],by rw[Hr.out];rfl,ints_nil _,Or.inr ⟨h0,rfl⟩,HE.out.trans E3⟩
 have hcm:=(restErr_zero h0).1;have hf:=fit_of hk hb.2 hcm;have PC:=h_ (fun(X:Nat) (CA:Option Addr) (cc M:Nat) (JA:Option Addr) (jc:Nat) (gs cp:Nat→Nat) (mm:List (Pt×Int)) (GA:Option Addr) (gc:Nat) (W:World) (E':Ext w W) (h:BuiltAt W X qs QA qc bs B cb CA cc M JA jc gs cp mm) (hg:BoolsZ W GA gc (grdL (qs.map (·.1)) bs tab hands bs.length)) =>
  push_c X qs QA qc bs B cb CA cc M JA jc gs cp mm GA gc _ W h (hk.ext E') (hb.ext E') hf hg (grdL_len _ _ _ _ _))
 have H0:=h_ h0;clear hz1 hz2 B1 B2 E1 E2 E h0 hk hb hh hcm hf;go_enter Tryz.func66,Tryz.ntmps66;go_wp2_with fail;refine RE.mono ?_;rintro e W3 (⟨-,X,CA,cc,M,JA,jc,gs,cp,mm,GA,gc,rfl,hX,BT,BZ,E3⟩|⟨h2,-⟩);rotate_left
 ·exact absurd H0.out h2
 have P3:=PC.out X CA cc M JA jc gs cp mm GA gc W3 (HE.out.trans E3) BT BZ;have HE3:=h_ (HE.out.trans E3);clear b1 b2 BT BZ E3 RE hW1 hW2;go_wp2_with fail;refine P3.mono ?_;rintro e W4 ⟨GP,DB,A,c,put,d,l,S,rfl,-,-,hI,hFl,hFa,E4⟩;have HI:=h_ hI;have HFl:=h_ hFl;have HFa:=h_ hFa;clear hI hFl hFa P3;go_wp2_with fail;refine bodyPost_ret (v:= .tuple #[.slice A (fallL bs.length S).length c,.int .i64 0]) (by simp[results,Tryz.results66,go_sem]) rfl ⟨A,c,_,by rw[H0.out],HI.out,Or.inl ⟨H0.out,S,put,d,l,rfl,HFl.out,HFa.out⟩,HE3.out.trans E4⟩
def FallenPost(ks:List Knd)(bs:List Brk)(tab:Int)(hands:List Int)(w:World)(e:Ending)(w':World):Prop :=
 ∃A cap l,e = .returned (.slice A l.length cap)∧IntsZ w' A cap l∧FallOf ks bs tab hands l∧Ext w w'
theorem rFallen_c(qs:List (Knd×KAt))(QA:Option Addr)(qc:Nat)(bs:List Brk)(B:Option Addr)(cb:Nat)(tab:Int)(HA:Option Addr)(hc:Nat)(hands:List Int)(w:World)(hk:Kinds w QA qc qs)(hb:Bricks w B cb bs)(hh:IntsZ w HA hc hands)(h0:restErr (qs.map (·.1)) bs tab hands=0) :
  Calls Tryz.prog 70 #[.slice QA qs.length qc,.agg #[.slice B bs.length cb],.agg #[.int .i64 tab,.slice HA hands.length hc]] w (FallenPost (qs.map (·.1)) bs tab hands w):=by
 obtain⟨W1,hW1,E1,B1,hz1⟩:=mk_ w #[.slice B bs.length cb] 25;obtain⟨W2,hW2,E2,B2,hz2⟩:=mk_ W1 #[.int .i64 tab,.slice HA hands.length hc] 28;have E:=E1.trans E2;have b1:=(B1.ext E2).cell;have b2:=B2.cell;have HE:=h_ E;have hcm:=(restErr_zero h0).1;have hnb:=(fit_of hk hb.2 hcm).n;have PP:=rPushed_c qs QA qc bs B cb tab HA hc hands W2 (hk.ext E) (hb.ext E) (hh.ext E) hcm;obtain⟨i9,hi9,hz9,hz91,hz92⟩:=info_parts infoInt2;have H0:=h_ h0;obtain⟨n,hn⟩:=nm bs.length;rw[hn] at PP hnb B1 b1 hW1 ⊢;have Hn:=h_ hn;clear hz1 hz2 B1 B2 E1 E2 E h0 hk hb hh hcm hn;go_enter Tryz.func70,Tryz.ntmps70;go_wp2_with fail;refine PP.mono ?_;rintro e W3 ⟨v1,v2,FB,S,rfl,hS,⟨put,d,l,hFl,hFa⟩,E3⟩;have HS:=h_ hS;have HF:=h_ (show FallOf (qs.map (·.1)) bs tab hands (fallL n S) from Or.inl ⟨H0.out,S,put,d,l,by rw[Hn.out],by rw[Hn.out];exact hFl,by rw[Hn.out];exact hFa⟩);have HE3:=h_ (HE.out.trans E3);obtain⟨U,hU⟩:=nm W3.heap.size;have HU:=h_ hU;clear b1 b2 hS hFl hFa E3 PP hW1 hW2 hU;go_wp2_with fail;go_loopw [10,11] (fun v ii wr=> ∃(q:Nat) (u:Value),q≤n∧ii = .int .i64 q∧v=u∧Ext W3 wr∧wr.ownsRow U 3 1 u (fallL q S).length ((fallL q S).map (Value.int .i64))) (fun _ ii _=>n-(intOf ii).toNat)
 case atStart=>exact⟨0,_,by omega,rfl,rfl,Ext.refl _,World.ownsRow_nil _ _ _ _⟩
 case round =>
  obtain⟨q,v,hq,rfl,rfl,Er,own⟩:=hrel;by_cases hqt:q<n
  ·obtain⟨bq,hbq⟩:=nm (S q);have cb:=(HS.out.ext Er).cell hqt;rw[hbq] at cb;have hfl:=fallL_succ q S;rw[hbq] at hfl;have hln:=fallL_len q S;have q0:(0:Int)≤q:=by omega
   have q1:(q:Int)<n:=by omega
   cases bq
   ·have hf2:fallL (q+1) S=fallL q S:=by rw[hfl];exact List.append_nil _
    rw[←hf2] at own;have Hown:=h_ own;clear own hfl hln hbq;go_wp2_with fail;go_roundw
    case rel=>exact⟨q+1,_,by omega,by go_num,rfl,Er,Hown.out⟩
    case measure=>simp only[intOf];omega
   ·have hf2:fallL (q+1) S=fallL q S ++ [(q:Int)]:=by rw[hfl];rfl
    have hU4:U≤wr.heap.size:=by have:=HU.out;have:=Er.size;omega
    have Hf2:=h_ hf2;have hjl:(fallL q S).length+1≤maxLen:=by unfold maxLen;omega
    obtain⟨fl,hfe⟩:=nm (fallL q S);rw[hfe] at own hjl hln Hf2;obtain⟨fn,hfn⟩:=nm fl.length;rw[hfn] at own hjl hln;have Hfn:=h_ hfn;clear hfl hf2 hfe hfn hbq;go_wp2_with (at_builtin;refine wpList_append_one #[.int .i64 q] rfl (.tmp 30) (.tmp 32) 26 rfl U 3 3 i9 _ 1 8 Tryz.underlying26 hi9 hz9 hz91 hz92 rfl (by decide) _ fn _ _ rfl own rfl rfl (by simp[Value.oneCell']) hjl (by omega) hU4 ?_;intro g7 cap7 w7 own7 hg7);go_roundw
    case rel =>
     refine⟨q+1,_,by omega,by go_num,rfl,(Er.alloc _).grown hg7 (fun k hk=>by have:=(own.lt k hk).1;have:=HU.out;omega),?_⟩;rw[Hf2.out,List.map_append,List.length_append,Hfn.out];exact own7
    case measure=>simp only[intOf];omega
  ·obtain rfl:q=n:=by omega
   obtain⟨FA,fc,rfl,hFI,-⟩:=ints_own rfl own;have HFI:=h_ hFI;have HR:=h_ (HE3.out.trans Er);clear hFI own Er;go_wp2_with fail;refine bodyPost_ret (v:= .slice FA (fallL q S).length fc) (by simp[results,Tryz.results70,go_sem]) rfl ⟨FA,fc,_,rfl,HFI.out,HF.out,HR.out⟩
end Go.Proofs.YtojolpbpjimfgaaGreatDoor
