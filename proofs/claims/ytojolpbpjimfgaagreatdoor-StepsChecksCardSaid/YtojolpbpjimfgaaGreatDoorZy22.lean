/- Texts of the proof: Line, RegF. -/
import Derived.Test.YtojolpbpjimfgaaGreatDoorZy19
import Derived.Test.YtojolpbpjimfgaaGreatDoorZy20
set_option maxHeartbeats 8000000
set_option maxRecDepth 100000
namespace Go.Proofs.YtojolpbpjimfgaaGreatDoor
open Go.RowKit
theorem three_put{w w0:World}{g:Nat}{t:TypeId}{x y z:Value}(h:Blk w g t #[x,y,z])(E:Ext w0 w)(hg:w0.heap.size≤g)(a b c:Value) :
  ∃V,((w.setCell ⟨g,0,none⟩ a).setCell ⟨g,1,none⟩ b).setCell ⟨g,2,none⟩ c=V∧Blk V g t #[a,b,c]∧Ext w0 V :=
 ⟨_,rfl,((h.set_ 0 a).set_ 1 b).set_ 2 c,((E.setCell hg a).setCell hg b).setCell hg c⟩
theorem line_c(x y z:Int)(d:Nat)(s:Int)(hd:d<6)(w:World) :
  Calls Tryz.prog 146 #[.agg #[.int .i64 x,.int .i64 y,.int .i64 z,.int .u8 d,.int .u8 s]] w fun e w'=>e = .returned (.tuple #[.int .u8 ((d:Int) / 2+1),.agg #[.int .i64 (lineK ⟨⟨x,y,z⟩,d,s⟩).x,.int .i64 (lineK ⟨⟨x,y,z⟩,d,s⟩).y,.int .i64 (lineK ⟨⟨x,y,z⟩,d,s⟩).z]])∧Ext w w':=by
 obtain⟨W1,hW1,E1,B1,hz1⟩:=mk_ w #[.int .i64 x,.int .i64 y,.int .i64 z,.int .u8 d,.int .u8 s] 137;obtain⟨W2,hW2,E2,B2,hz2⟩:=mk_ W1 #[.int .i64 0,.int .i64 0,.int .i64 0] 124;have E12:=E1.trans E2;have B12:=B1.ext E2;have b1:=B12.cell;have f1:=B12.frozen;have hz:w.heap.size≤W1.heap.size:=E1.size;have hne:W1.heap.size≠w.heap.size:=by omega
 have Hne:=h_ hne;have Hz:=h_ hz;clear hz1 hz2 hne hz;obtain⟨q,hq⟩:=nm ((d:Int).tdiv 2);have eq:=Int.tdiv_eq_ediv_of_nonneg (a:=(d:Int)) (b:=2) (by omega);rw[hq] at eq;have e1:q=0∨q=1∨q=2:=by omega
 have hK:lineK ⟨⟨x,y,z⟩,d,s⟩=if q=0 then⟨0,y,z⟩ else if q=1 then⟨x,0,z⟩ else⟨x,y,0⟩:=by
  unfold lineK;rw[eq]
 rw[hK,←eq];clear hK eq;rcases e1 with rfl|rfl|rfl
 ·obtain⟨V,hV⟩:=nm (W2.setCell ⟨w.heap.size,0,none⟩ (.int .i64 0));have BV:=B12.set_ 0 (.int .i64 0);rw[hV] at BV;have BC:Blk V W1.heap.size 124 #[.int .i64 0,.int .i64 0,.int .i64 0]:=by rw[←hV];exact B2.far Hne.out _
  have EV:Ext w V:=by rw[←hV];exact E12.setCell (Nat.le_refl _) _
  have bv:=BV.cell;go_enter Tryz.func146,Tryz.ntmps146
  go_upto_region 7 with(fail)
  clear b1 f1 hV hW1 hW2;refine wp_region_tail 7 (by kernel_rfl) (by kernel_rfl) ?_;simp only[List.take_succ_cons,List.take_zero,List.drop_succ_cons,List.drop_zero]
  repeat (go_big_quiet_step (fail))
  refine wpQuiet_nil ?_;intro W7 hW7;have E7:Ext V W7:=by
   obtain⟨x,rfl⟩:=hW7;exact(Ext.refl _).grow x
  clear hW7;obtain⟨hcW7,hfW7,hzW7⟩:=ext_facts E7;clear hcW7 hfW7 hzW7 bv;have bc:=(BC.ext E7).cell;have fc:=(BC.ext E7).frozen;obtain⟨V2,hV2,BV2,EV2⟩:=three_put (BC.ext E7) (EV.trans E7) Hz.out (.int .i64 0) (.int .i64 y) (.int .i64 z);have bv2:=BV2.cell;go_wp2_with fail;refine bodyPost_ret (v:= .tuple #[.int .u8 1,.agg #[.int .i64 0,.int .i64 y,.int .i64 z]]) (by simp[results,Tryz.results146,go_sem,bv2]) rfl ⟨rfl,EV2⟩
 ·obtain⟨V,hV⟩:=nm (W2.setCell ⟨w.heap.size,1,none⟩ (.int .i64 0));have BV:=B12.set_ 1 (.int .i64 0);rw[hV] at BV;have BC:Blk V W1.heap.size 124 #[.int .i64 0,.int .i64 0,.int .i64 0]:=by rw[←hV];exact B2.far Hne.out _
  have EV:Ext w V:=by rw[←hV];exact E12.setCell (Nat.le_refl _) _
  have bv:=BV.cell;go_enter Tryz.func146,Tryz.ntmps146
  go_upto_region 7 with(fail)
  clear b1 f1 hV hW1 hW2;refine wp_region_tail 7 (by kernel_rfl) (by kernel_rfl) ?_;simp only[List.take_succ_cons,List.take_zero,List.drop_succ_cons,List.drop_zero]
  repeat (go_big_quiet_step (fail))
  refine wpQuiet_nil ?_;intro W7 hW7;have E7:Ext V W7:=by
   obtain⟨x,rfl⟩:=hW7;exact(Ext.refl _).grow x
  clear hW7;obtain⟨hcW7,hfW7,hzW7⟩:=ext_facts E7;clear hcW7 hfW7 hzW7 bv;have bc:=(BC.ext E7).cell;have fc:=(BC.ext E7).frozen;obtain⟨V2,hV2,BV2,EV2⟩:=three_put (BC.ext E7) (EV.trans E7) Hz.out (.int .i64 x) (.int .i64 0) (.int .i64 z);have bv2:=BV2.cell;go_wp2_with fail;refine bodyPost_ret (v:= .tuple #[.int .u8 2,.agg #[.int .i64 x,.int .i64 0,.int .i64 z]]) (by simp[results,Tryz.results146,go_sem,bv2]) rfl ⟨rfl,EV2⟩
 ·obtain⟨V,hV⟩:=nm (W2.setCell ⟨w.heap.size,2,none⟩ (.int .i64 0));have BV:=B12.set_ 2 (.int .i64 0);rw[hV] at BV;have BC:Blk V W1.heap.size 124 #[.int .i64 0,.int .i64 0,.int .i64 0]:=by rw[←hV];exact B2.far Hne.out _
  have EV:Ext w V:=by rw[←hV];exact E12.setCell (Nat.le_refl _) _
  have bv:=BV.cell;go_enter Tryz.func146,Tryz.ntmps146
  go_upto_region 7 with(fail)
  clear b1 f1 hV hW1 hW2;refine wp_region_tail 7 (by kernel_rfl) (by kernel_rfl) ?_;simp only[List.take_succ_cons,List.take_zero,List.drop_succ_cons,List.drop_zero]
  repeat (go_big_quiet_step (fail))
  refine wpQuiet_nil ?_;intro W7 hW7;have E7:Ext V W7:=by
   obtain⟨x,rfl⟩:=hW7;exact(Ext.refl _).grow x
  clear hW7;obtain⟨hcW7,hfW7,hzW7⟩:=ext_facts E7;clear hcW7 hfW7 hzW7 bv;have bc:=(BC.ext E7).cell;have fc:=(BC.ext E7).frozen;obtain⟨V2,hV2,BV2,EV2⟩:=three_put (BC.ext E7) (EV.trans E7) Hz.out (.int .i64 x) (.int .i64 y) (.int .i64 0);have bv2:=BV2.cell;go_wp2_with fail;refine bodyPost_ret (v:= .tuple #[.int .u8 3,.agg #[.int .i64 x,.int .i64 y,.int .i64 0]]) (by simp[results,Tryz.results146,go_sem,bv2]) rfl ⟨rfl,EV2⟩
section
variable {P:Program} {l:List Oper} {I:(Nat→Bool)→(Nat→Value)→World→Prop} {a0:Act} {Q:Exit→Act→World→Prop}
def OneOpF(P:Program)(l:List Oper)(I:(Nat→Bool)→(Nat→Value)→World→Prop)(F:(Nat→Value)→Act)(Q:Exit→Act→World→Prop)(o:Oper)(i:Nat):Prop :=
 ∀(L:Nat→Bool) (us:Nat→Value) (w:World) (K:Act→World→Prop) (a:Act),F us=a→(∀k,(aheadOf l i).contains k=true→L k=true)→(∀j k,L j=true→(aheadOf l j).contains k=true→L k=true)→L i=false→I L us w →
  (∀v w',I (updF L i true) (updF us i v) w'→K (a.put o.dst v) w') →
  if Region.wanted o (yielded l.toArray a.tmps)=true then Oper.wp P o a w K Q else K (a.put o.dst undef) w
def EachOpF(P:Program)(l:List Oper)(I:(Nat→Bool)→(Nat→Value)→World→Prop)(F:(Nat→Value)→Act)(Q:Exit→Act→World→Prop):List Oper→Nat→Prop
 | [],_=>True
 | o::r,i=>OneOpF P l I F Q o i∧EachOpF P l I F Q r (i+1)
theorem EachOpF.to{F:(Nat→Value)→Act}(hF: ∀us,putAll us l 0 a0=F us): ∀{r:List Oper} {i:Nat},EachOpF P l I F Q r i→EachOp P l I a0 Q r i
 | [],_,_=>trivial
 | _::_,_,h=>⟨fun L us w K a ha=>h.1 L us w K a ((hF us).symm.trans ha),EachOpF.to hF h.2⟩
theorem wp_region_byF{id:Nat}{w:World}(I:(Nat→Bool)→(Nat→Value)→World→Prop){F:(Nat→Value)→Act}(hF: ∀us,putAll us l 0 a0=F us)(hm:P.follows .mixedOrders=true)(hn:decide (dsts l).Nodup=true)(hf:Region.forthB l=true)
  (h0:I (fun _=>false) (fun k=>((l[k]?).bind (·.dst)).elim undef fun d=>a0.tmps.getD d undef) w.drew) (hs:EachOpF P l I F Q l 0) (he: ∀L us w,(∀k,k<l.length→L k=true)→I L us w→Q .normal (F us) w):(Code.region id l.toArray true).wp P Q a0 w :=
 wp_region_by0 I hm hn hf h0 (hs.to hF) fun L us w h1 h2=>by
  rw[hF];exact he L us w h1 h2
end
end Go.Proofs.YtojolpbpjimfgaaGreatDoor
