/- The given statement StepsChecksCardSaid: for every input the law returns true, and each argument reads behind the call as it did; the listed table is tied to the program's text. No other conditions. -/
import Derived.Test.YtojolpbpjimfgaaGreatDoorZy51
import Derived.Test.YtojolpbpjimfgaaGreatDoorZy52
import Derived.SevenTiedAt
set_option maxRecDepth 100000
namespace Go.Proofs.YtojolpbpjimfgaaGreatDoor
open Go.ChangeAt Go.ChangeShapes Go.Deep Go.Joins Go.RowKit Go.WideShapes
theorem stepsChecks_lifted(os:Os)(started:os.Started)(H:Type)(enc:TypeId×Value→H) :
  ReturnsInHanded {} Tryz.checked os 4 .any (fun w args=>(Rows.stepsChecksSpec.pre enc Tryz.prog Tryz.f4 [] false w args∧laidMetH Tryz.prog laidTab w)∧sizedMet enc Tryz.prog Tryz.f4 (OpenSpec.ofChange Rows.stepsChecksSpec) false w args)
   (Rows.stepsChecksSpec.post enc Tryz.prog Tryz.f4 false true false false):=by
 refine returnsInHanded_of_change_and (C:=Tryz.checked) (X:=fun w _=>laidMetH Tryz.prog laidTab w) (fun _ _ _ hh h=>h.of_heap hh) Tryz.own started (by kernel_rfl) Tryz.func4
  (ChangeSpec.witness_at (enc:=enc) (C:=Tryz.checked) (os:=os) (X:=fun w _=>laidMetH Tryz.prog laidTab w) false (laidWorld os) #[.slice none 0 0,.agg #[.slice none 0 0],.agg #[.int .i64 0,.slice none 0 0],.int .i64 0,.slice none 0 0] 8 rfl (by kernel_rfl) (by kernel_rfl) (by kernel_rfl) (by kernel_rfl) (by kernel_rfl) (laidWorld_met os _)) ?_
 intro W base args ds gs before hval0 hW _ _ hL _;have hval: ∀(j:Nat) t v,Tryz.f4.params[j]? = some t→args[j]? = some v→Value.okWide Tryz.prog W .any base t v:=hval0;have hW':=hW;obtain⟨p,q,hA0,hV,rfl,hfz,hnd⟩:=hW;have hA:DataW.TrodAll enc Tryz.prog W 0 (fun _=>true) true Tryz.f4.params.toList args.toList ds p:=hA0;rw[Tryz.params4] at hA hval;have hAll:=hA;obtain⟨v0,v1,v2,v3,v4,d0,d1,d2,d3,d4,p0,p1,p2,p3,p4,rfl,rfl,rfl,h0,h1,h2,h3,h4⟩:=trodAll_five hA;obtain⟨rfl,rfl⟩:=trodVars_none hV;obtain⟨C,n1,cc,rfl⟩:=okWide_slice Tryz.underlying22 (hval 0 22 v0 rfl rfl);obtain⟨fu0,hf0⟩:=h0;obtain⟨qs,rfl,hk,-⟩:=kinds_of_trod (by simpa [Value.cells] using hf0);obtain⟨D,cd,bs,rfl,hb,-⟩:=model_open (hval 1 25 v1 rfl rfl) h1;obtain⟨tab,HA,hc,hands,rfl,hh⟩:=rest_open (hval 2 28 v2 rfl rfl) h2;obtain⟨n3,rfl,-,-,-⟩:=open_int Tryz.underlying3 (hval 3 3 v3 rfl rfl) h3;obtain⟨SA4,sc4,q4,rfl,hs4,hn4⟩:=steps_open (hval 4 43 v4 rfl rfl) h4;clear hA0 hval0;simp only[List.append_nil] at hW' hAll;have hlt: ∀q∈p0++p1++p2++p3++p4,q.block<W.heap.size:=fun q hq=>hW'.lt q hq;refine(chks_walk ⟨qs,C,cc,bs,D,cd,tab,HA,hc,hands⟩ n3 q4 SA4 sc4 W ⟨hk,hb,hh⟩ hs4 (tz6_of_laid hL) hn4).mono fun e W' ⟨he,hE⟩=> ?_;subst he;refine⟨_,rfl,?_⟩;refine⟨_,_,_,[],p0++p1++p2++p3++p4,[],hW',?_,?_,rfl,hE.frame _,fun h=>by cases h⟩
 ·exact trodAll_mk1 (shut_bool Tryz.underlying4 true)
 ·exact trodAll_ext (ts:= [22,25,28,3,43]) Tryz.laidOut hE (by
   intro t ht;simp only[List.mem_cons,List.not_mem_nil,or_false] at ht
   rcases ht with rfl|rfl|rfl|rfl|rfl <;> exact⟨by kernel_rfl,of_decide_eq_true (by kernel_rfl)⟩) hAll hlt
theorem stepsChecks_row:Rows.StepsChecksSaid :=
 OpenClaim.holds_of_wide 4 Tryz.f4 rfl rfl rfl rfl rfl rfl rfl ⟨rfl,rfl,rfl,rfl,rfl⟩ rfl rfl rfl rfl rfl (by kernel_rfl) Tryz.func4 (by kernel_rfl)
  (of_decide_eq_true (by kernel_rfl)) (by unfold Func.isWrapper;rw[if_neg (of_decide_eq_false (by kernel_rfl))];exact⟨rfl,rfl⟩)
  (fun os started H enc _=>stepsChecks_lifted os started H enc)
theorem stepsChecks_holds:Rows.StepsChecksCardSaid :=
 Claim7.holds_tied_plain_at .later [] [.data] true Rows.stepsChecksCard.stood.harness true
  stepsChecks_row (fun _ h=>by cases h) (by kernel_rfl) (fun _ h=>by cases h) stepsChecks_row_tie rfl ⟨rfl,rfl⟩ (by kernel_rfl) rfl
  (fun f fn hf hfn=>by
   obtain rfl : f = 4 := Option.some.inj ((show Tryz.prog.funcNamed "studwork/studworklaw06.StepsChecks" = some 4 by kernel_rfl).symm.trans hf) |>.symm
   obtain rfl:fn=Tryz.f4:=(Option.some.inj (Tryz.func4.symm.trans hfn)).symm;exact⟨by kernel_rfl,fun j t ht=>by
    rw[Tryz.params4] at ht;have ht:=List.mem_of_getElem? (show([22,25,28,3,43]:List TypeId)[j]? = some t by simpa using ht);simp only[List.mem_cons,List.not_mem_nil,or_false] at ht;rcases ht with rfl|rfl|rfl|rfl|rfl
    ·exact(show Tryz.prog.wantsStandIn 22=false by kernel_rfl)
    ·exact(show Tryz.prog.wantsStandIn 25=false by kernel_rfl)
    ·exact(show Tryz.prog.wantsStandIn 28=false by kernel_rfl)
    ·exact(show Tryz.prog.wantsStandIn 3=false by kernel_rfl)
    ·exact(show Tryz.prog.wantsStandIn 43=false by kernel_rfl)⟩)
  (by kernel_rfl)
#print axioms stepsChecks_holds
end Go.Proofs.YtojolpbpjimfgaaGreatDoor
