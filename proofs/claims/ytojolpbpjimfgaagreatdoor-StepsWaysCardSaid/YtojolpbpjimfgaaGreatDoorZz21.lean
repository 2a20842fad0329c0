/- Texts of the proof: Faces, SortKLaid, SortK, SortNilK, LnkP, Reg0. -/
import Derived.Test.YtojolpbpjimfgaaGreatDoorZz6
import Derived.Test.YtojolpbpjimfgaaGreatDoorZz9
import Derived.Test.YtojolpbpjimfgaaGreatDoorZz10
import Derived.Test.YtojolpbpjimfgaaGreatDoorZz11
import Derived.Test.YtojolpbpjimfgaaGreatDoorZz17
import Derived.Test.YtojolpbpjimfgaaGreatDoorZz18
import Derived.Test.YtojolpbpjimfgaaGreatDoorZz20
import Derived.Shelf.SlLaysF0
import Derived.Test.YtojolpbpjimfgaaGreatDoorProg
namespace Go.Proofs.YtojolpbpjimfgaaGreatDoor
open Go.RowKit
def encF(x:Pt×Int):Value:= .agg #[.int .i64 x.1.x,.int .i64 x.1.y,.int .i64 x.1.z,.int .u8 x.2]
def evE(x:Nat×Nat):Value:= .agg #[.int .i64 x.1,.int .i64 x.2]
theorem pt_equalIn(w:World)(n:Nat)(a b c d e f:Int):(Op.equalIn (n+3) 124 (.agg #[.int .i64 a,.int .i64 b,.int .i64 c]) (.agg #[.int .i64 d,.int .i64 e,.int .i64 f])).run Tryz.prog w = .ok (decide (a=d)&&(decide (b=e)&&decide (c=f))) w:=by
 have u3:=Tryz.underlying3
 have hS:Tryz.prog.underlying 124=some (.struct (Tryz.prog.fieldsOf 124)):=by kernel_rfl
 have hp:Tryz.prog.stoodInHeld 124=false:=by kernel_rfl
 rw[run_equalIn_agg w (n+2) _ _ _ hS hp]
 simp only[Program.fieldsOf,Tryz.underlying124]
 go_simp
 by_cases h1:a=d <;> by_cases h2:b=e <;> by_cases h3:c=f <;> simp[h1,h2,h3]
theorem face_equalIn(w:World)(n:Nat)(a b c d a' b' c' d':Int):(Op.equalIn (n+4) 217 (.agg #[.int .i64 a,.int .i64 b,.int .i64 c,.int .u8 d]) (.agg #[.int .i64 a',.int .i64 b',.int .i64 c',.int .u8 d'])).run Tryz.prog w = .ok (decide (a=a')&&(decide (b=b')&&(decide (c=c')&&decide (d=d')))) w:=by
 have u5:=Tryz.underlying5
 have hS:Tryz.prog.underlying 217=some (.struct (Tryz.prog.fieldsOf 217)):=by kernel_rfl
 have hp:Tryz.prog.stoodInHeld 217=false:=by kernel_rfl
 have hc:=fun w=>pt_equalIn w n a b c a' b' c'
 rw[run_equalIn_agg w (n+3) _ _ _ hS hp]
 simp only[Program.fieldsOf,Tryz.underlying217]
 go_simp
 by_cases h1:a=a' <;> by_cases h2:b=b' <;> by_cases h3:c=c' <;> by_cases h4:d=d' <;> simp[h1,h2,h3,h4]
theorem face_equal(w:World)(a b c d a' b' c' d':Int):(Op.equal 217 (.agg #[.int .i64 a,.int .i64 b,.int .i64 c,.int .u8 d]) (.agg #[.int .i64 a',.int .i64 b',.int .i64 c',.int .u8 d'])).run Tryz.prog w = .ok (decide (a=a')&&(decide (b=b')&&(decide (c=c')&&decide (d=d')))) w:=face_equalIn w 9996 a b c d a' b' c' d'
theorem faceKey:KeyEnc Tryz.prog 217 encF where
 wide:=by kernel_rfl
 eq w x y:=by
  obtain⟨⟨a,b,c⟩,d⟩:=x
  obtain⟨⟨a',b',c'⟩,d'⟩:=y
  rw[encF,encF,face_equal]
  simp[Pt.mk.injEq,Bool.and_assoc]
 check w em x:=by
  obtain⟨⟨a,b,c⟩,d⟩:=x
  show(Instr.checkKey em 10000 217 (.agg #[.int .i64 a,.int .i64 b,.int .i64 c,.int .u8 d])).run Tryz.prog w = .ok () w
  kernel_rfl
 same x:=by
  obtain⟨⟨a,b,c⟩,d⟩:=x
  simp[encF,Instr.sameBits]
section
variable {ks:List Knd} {bs:List Brk}
def klen(ks:List Knd)(bs:List Brk)(i:Nat):Nat:=(bknobs ks (brkAt bs i)).length
def faceAt(ks:List Knd)(bs:List Brk)(i k:Nat):Pt×Int:=((knbAt (bknobs ks (brkAt bs i)) k).at_,(knbAt (bknobs ks (brkAt bs i)) k).dir)
structure Faces(ks:List Knd)(bs:List Brk)(m:List ((Pt×Int)×(Nat×Nat)))(P:Nat→Nat→Prop):Prop where
 s: ∀F i k,getK m F=some (i,k)→P i k∧faceAt ks bs i k=F
 a: ∀i k,P i k→getK m (faceAt ks bs i k)=some (i,k)
theorem Faces.nil{P:Nat→Nat→Prop}(h: ∀i k,¬P i k):Faces ks bs [] P:=⟨(fun _ _ _ h=>nomatch h),fun i k hp=>(h i k hp).elim⟩
theorem Faces.congr{m:List ((Pt×Int)×(Nat×Nat))}{P Q:Nat→Nat→Prop}(h:Faces ks bs m P)(e: ∀i k,Q i k↔P i k):Faces ks bs m Q :=
 ⟨fun F i k hg=>⟨(e i k).2 (h.s F i k hg).1,(h.s F i k hg).2⟩,fun i k hq=>h.a i k ((e i k).1 hq)⟩
def Upk(ks:List Knd)(bs:List Brk)(j q i k:Nat):Prop:=(i<j∧k<klen ks bs i)∨(i=j∧k<q)
theorem Faces.put(hf:Fit ks bs){m:List ((Pt×Int)×(Nat×Nat))}{j q:Nat}(h:Faces ks bs m (Upk ks bs j q))(hj:j<bs.length)(hq:q<klen ks bs j):Faces ks bs (putK m (faceAt ks bs j q) (j,q)) (Upk ks bs j (q+1)):=by
 have hlen: ∀i k,Upk ks bs j q i k→i<bs.length∧k<klen ks bs i:=fun i k h=>by
  rcases h with⟨h1,h2⟩|⟨rfl,h2⟩
  ·exact⟨by omega,h2⟩
  ·exact⟨hj,by omega⟩
 refine⟨fun F i k hg=> ?_,fun i k hp=> ?_⟩
 ·rw[getK_putK] at hg
  split at hg
  ·rename_i e
   cases hg
   exact⟨Or.inr ⟨rfl,Nat.lt_succ_self _⟩,e.symm⟩
  ·obtain⟨h1,h2⟩:=h.s F i k hg
   refine⟨?_,h2⟩
   rcases h1 with h1|⟨h1,h3⟩
   ·exact Or.inl h1
   ·exact Or.inr ⟨h1,by omega⟩
 ·rw[getK_putK]
  by_cases e:i=j∧k=q
  ·obtain⟨rfl,rfl⟩:=e
   rw[if_pos rfl]
  ·have hu:Upk ks bs j q i k:=by
    rcases hp with hp|⟨h1,h2⟩
    ·exact Or.inl hp
    ·exact Or.inr ⟨h1,by omega⟩
   obtain⟨l1,l2⟩:=hlen i k hu
   rw[if_neg,h.a i k hu]
   intro e1
   unfold faceAt at e1
   simp only[Prod.mk.injEq] at e1
   obtain⟨e2,e3⟩:=hf.face l1 hj l2 hq e1.1 e1.2
   exact e ⟨e2,e3⟩
theorem Upk.next(i k j:Nat):Upk ks bs (j+1) 0 i k↔Upk ks bs j (klen ks bs j) i k:=by
 unfold Upk
 constructor
 ·rintro(⟨h1,h2⟩|⟨-,h2⟩)
  ·by_cases e:i=j
   ·subst e
    exact Or.inr ⟨rfl,h2⟩
   ·exact Or.inl ⟨by omega,h2⟩
  ·omega
 ·rintro(⟨h1,h2⟩|⟨rfl,h2⟩)
  ·exact Or.inl ⟨by omega,h2⟩
  ·exact Or.inl ⟨by omega,h2⟩
def farAt(ks:List Knd)(bs:List Brk)(i k:Nat):Pt×Int:=(addP (knbAt (bknobs ks (brkAt bs i)) k).at_ (stepS (knbAt (bknobs ks (brkAt bs i)) k).dir.toNat),oppD (knbAt (bknobs ks (brkAt bs i)) k).dir)
theorem IsLnk.far{x:Lnk}(h:IsLnk ks bs x):faceAt ks bs x.b x.other=farAt ks bs x.a x.knob:=by
 have:=meetB_iff.1 h.m
 unfold faceAt farAt
 rw[this.1,this.2.1]
theorem Faces.none_{m:List ((Pt×Int)×(Nat×Nat))}(h:Faces ks bs m (Upk ks bs bs.length 0)){a i:Nat}(hg:getK m (farAt ks bs a i)=none): ∀x,IsLnk ks bs x→x.a=a→x.knob=i→False:=fun x hx ha hi=>by
 have:=h.a x.b x.other (Or.inl ⟨hx.b,hx.o⟩)
 rw[hx.far,ha,hi,hg] at this
 cases this
theorem Faces.some_{m:List ((Pt×Int)×(Nat×Nat))}(h:Faces ks bs m (Upk ks bs bs.length 0)){a i b k:Nat}(hg:getK m (farAt ks bs a i)=some (b,k)): ∀x,IsLnk ks bs x→x.a=a→x.knob=i→x.b=b∧x.other=k:=fun x hx ha hi=>by
 have:=h.a x.b x.other (Or.inl ⟨hx.b,hx.o⟩)
 rw[hx.far,ha,hi,hg] at this
 cases this
 exact⟨rfl,rfl⟩
def fitS(s t:Int):Bool:=decide ((s+1) / 2=(t+1) / 2)&&decide (s≠t)
theorem fitS_iff{s t:Int}(hs:1≤s∧s≤6)(ht:1≤t∧t≤6):fitS s t=true↔s≠t∧oddS s=oddS t:=by
 unfold fitS oddS
 simp only[Bool.and_eq_true,decide_eq_true_eq]
 omega
theorem fitS_min{s t:Int}(_:1≤s∧s≤6)(_:1≤t∧t≤6)(h:fitS s t=true):min s t=oddS s:=by
 unfold fitS at h
 unfold oddS
 simp only[Bool.and_eq_true,decide_eq_true_eq] at h
 omega
def sortAt(ks:List Knd)(bs:List Brk)(i k:Nat):Int:=(knbAt (bknobs ks (brkAt bs i)) k).sort
theorem Faces.skip1{m:List ((Pt×Int)×(Nat×Nat))}(h:Faces ks bs m (Upk ks bs bs.length 0)){a i b k:Nat}(hg:getK m (farAt ks bs a i)=some (b,k))(hb:b≤a): ∀x,IsLnk ks bs x→x.a=a→x.knob=i→False:=fun x hx ha hi=>by
 have:=(h.some_ hg x hx ha hi).1
 have:=hx.ab
 omega
theorem Faces.skip2(hf:Fit ks bs){m:List ((Pt×Int)×(Nat×Nat))}(h:Faces ks bs m (Upk ks bs bs.length 0)){a i b k:Nat}(ha:a<bs.length)(hi:i<klen ks bs a)(hg:getK m (farAt ks bs a i)=some (b,k))(hs:fitS (sortAt ks bs a i) (sortAt ks bs b k)=false): ∀x,IsLnk ks bs x→x.a=a→x.knob=i→False:=fun x hx hxa hxi=>by
 obtain⟨e1,e2⟩:=h.some_ hg x hx hxa hxi
 have hm:=meetB_iff.1 hx.m
 have s1:=(hf.dir ha hi).2.2
 have s2:=(hf.dir hx.b hx.o).2.2
 rw[hxa,hxi] at hm
 have:fitS (sortAt ks bs a i) (sortAt ks bs b k)=true:=by
  rw[←e1,←e2]
  exact(fitS_iff s1 s2).2 hm.2.2
 rw[hs] at this
 cases this
theorem Faces.hit(hf:Fit ks bs){m:List ((Pt×Int)×(Nat×Nat))}(h:Faces ks bs m (Upk ks bs bs.length 0)){a i b k:Nat}(ha:a<bs.length)(hi:i<klen ks bs a)(hg:getK m (farAt ks bs a i)=some (b,k))(hb:a<b)(hs:fitS (sortAt ks bs a i) (sortAt ks bs b k)=true) :
  IsLnk ks bs ⟨a,b,i,k,min (sortAt ks bs a i) (sortAt ks bs b k)⟩:=by
 obtain⟨h1,h2⟩:=h.s _ _ _ hg
 have hbk:b<bs.length∧k<klen ks bs b:=by
  rcases h1 with h1|⟨-,h1⟩
  ·exact h1
  ·omega
 have s1:=(hf.dir ha hi).2.2
 have s2:=(hf.dir hbk.1 hbk.2).2.2
 unfold faceAt farAt at h2
 simp only[Prod.mk.injEq] at h2
 exact⟨hb,hbk.1,hi,hbk.2,meetB_iff.2 ⟨h2.1.symm,h2.2,(fitS_iff s1 s2).1 hs⟩,fitS_min s1 s2 hs⟩
theorem Faces.lt{m:List ((Pt×Int)×(Nat×Nat))}(h:Faces ks bs m (Upk ks bs bs.length 0)){F:Pt×Int}{b k:Nat}(hg:getK m F=some (b,k)):b<bs.length∧k<klen ks bs b:=by
 rcases(h.s _ _ _ hg).1 with h1|⟨-,h1⟩
 ·exact h1
 ·omega
end
end Go.Proofs.YtojolpbpjimfgaaGreatDoor
namespace Go.Proofs.YtojolpbpjimfgaaGreatDoor
open Go.Shelf
def sortLinks_ren:Go.Shelf.Ren:=⟨fun|6=>123|15=>141|14=>150|28=>166|29=>167|20=>183|21=>184|22=>185|23=>186|24=>187|25=>188|26=>189|27=>190|46=>202|47=>195|48=>196|49=>203|50=>204|57=>209|n=>n,fun|22=>131|24=>135|25=>222|3=>3|39=>206|0=>0|53=>265|55=>63|4=>4|46=>259|45=>258|50=>164|5=>5|9=>9|66=>279|70=>283|76=>290|77=>56|n=>n,fun|n=>n⟩
theorem sortLinks:SlLaysF0.n6 Tryz.prog sortLinks_ren:={
 mixed:=by kernel_rfl,
 f6:=⟨Tryz.f123.name,by decide,Tryz.func123.trans (congrArg some (by kernel_rfl))⟩,
 f14:=⟨Tryz.f150.name,by decide,Tryz.func150.trans (congrArg some (by kernel_rfl))⟩,
 f15:=Tryz.func141.trans (congrArg some (by kernel_rfl)),
 f20:=⟨Tryz.f183.name,by decide,Tryz.func183.trans (congrArg some (by kernel_rfl))⟩,
 f21:=⟨Tryz.f184.name,by decide,Tryz.func184.trans (congrArg some (by kernel_rfl))⟩,
 f22:=⟨Tryz.f185.name,by decide,Tryz.func185.trans (congrArg some (by kernel_rfl))⟩,
 f23:=⟨Tryz.f186.name,by decide,Tryz.func186.trans (congrArg some (by kernel_rfl))⟩,
 f24:=⟨Tryz.f187.name,by decide,Tryz.func187.trans (congrArg some (by kernel_rfl))⟩,
 f25:=⟨Tryz.f188.name,by decide,Tryz.func188.trans (congrArg some (by kernel_rfl))⟩,
 f26:=⟨Tryz.f189.name,by decide,Tryz.func189.trans (congrArg some (by kernel_rfl))⟩,
 f27:=⟨Tryz.f190.name,by decide,Tryz.func190.trans (congrArg some (by kernel_rfl))⟩,
 f28:=Tryz.func166.trans (congrArg some (by kernel_rfl)),
 f29:=Tryz.func167.trans (congrArg some (by kernel_rfl)),
 f46:=⟨Tryz.f202.name,by decide,Tryz.func202.trans (congrArg some (by kernel_rfl))⟩,
 f47:=Tryz.func195.trans (congrArg some (by kernel_rfl)),
 f48:=Tryz.func196.trans (congrArg some (by kernel_rfl)),
 f49:=⟨Tryz.f203.name,by decide,Tryz.func203.trans (congrArg some (by kernel_rfl))⟩,
 f50:=⟨Tryz.f204.name,by decide,Tryz.func204.trans (congrArg some (by kernel_rfl))⟩,
 f57:=⟨Tryz.f209.name,by decide,Tryz.func209.trans (congrArg some (by kernel_rfl))⟩,
 t0:=Tryz.underlying0,
 a0:=Tryz.isAgg0,
 z0:=Tryz.sizeOf0,
 v0:=Tryz.zeroValue0,
 t3:=Tryz.underlying3,
 a3:=Tryz.isAgg3,
 z3:=Tryz.sizeOf3,
 v3:=Tryz.zeroValue3,
 t4:=Tryz.underlying4,
 a4:=Tryz.isAgg4,
 z4:=Tryz.sizeOf4,
 v4:=Tryz.zeroValue4,
 t5:=Tryz.underlying5,
 a5:=Tryz.isAgg5,
 z5:=Tryz.sizeOf5,
 v5:=Tryz.zeroValue5,
 t9:=Tryz.underlying9,
 a9:=Tryz.isAgg9,
 z9:=Tryz.sizeOf9,
 v9:=Tryz.zeroValue9,
 t22:=Tryz.underlying131,
 a22:=Tryz.isAgg131,
 z22:=Tryz.sizeOf131,
 v22:=Tryz.zeroValue131,
 t25:=Tryz.underlying222,
 a25:=Tryz.isAgg222,
 z25:=Tryz.sizeOf222,
 v25:=Tryz.zeroValue222,
 t39:=Tryz.underlying206,
 a39:=Tryz.isAgg206,
 z39:=Tryz.sizeOf206,
 v39:=Tryz.zeroValue206,
 t45:=Tryz.underlying258,
 a45:=Tryz.isAgg258,
 z45:=Tryz.sizeOf258,
 v45:=Tryz.zeroValue258,
 t46:=Tryz.underlying259,
 a46:=Tryz.isAgg259,
 z46:=Tryz.sizeOf259,
 v46:=Tryz.zeroValue259,
 t50:=Tryz.underlying164,
 a50:=Tryz.isAgg164,
 z50:=Tryz.sizeOf164,
 v50:=Tryz.zeroValue164,
 t53:=Tryz.underlying265,
 a53:=Tryz.isAgg265,
 z53:=Tryz.sizeOf265,
 v53:=Tryz.zeroValue265,
 t55:=Tryz.underlying63,
 a55:=Tryz.isAgg63,
 z55:=Tryz.sizeOf63,
 v55:=Tryz.zeroValue63,
 t66:=Tryz.underlying279,
 a66:=Tryz.isAgg279,
 z66:=Tryz.sizeOf279,
 v66:=Tryz.zeroValue279,
 t70:=Tryz.underlying283,
 a70:=Tryz.isAgg283,
 z70:=Tryz.sizeOf283,
 v70:=Tryz.zeroValue283,
 t76:=Tryz.underlying290,
 a76:=Tryz.isAgg290,
 z76:=Tryz.sizeOf290,
 v76:=Tryz.zeroValue290,
 t77:=Tryz.underlying56,
 a77:=Tryz.isAgg56,
 z77:=Tryz.sizeOf56,
 v77:=Tryz.zeroValue56 }
end Go.Proofs.YtojolpbpjimfgaaGreatDoor
namespace Go.Proofs.YtojolpbpjimfgaaGreatDoor
open Go.RowKit
instance:Inhabited Lnk:=⟨⟨0,0,0,0,0⟩⟩
def ordK(x y:Lnk):Int:=orL [ordZ x.a y.a,ordZ x.b y.b,ordZ x.knob y.knob]
theorem ordK_neg(x y:Lnk):ordK x y<0↔ltK x y=true:=by
 rw[ltK_iff]
 unfold ordK orL ordZ
 simp only[orL]
 repeat' split
 all_goals (first|omega|(simp only[orL];repeat' split) <;> omega)
theorem ltOf_ordK:ltOf ordK=ltK:=by
 funext x y
 unfold ltOf
 rw[Bool.eq_iff_iff,decide_eq_true_eq,ordK_neg]
theorem swoK:Go.Sort.SWO ltK where
 irrefl x:=by rw[ltK_not];omega
 trans x y z h k:=by rw[ltK_iff] at *;omega
 ntrans x y z h k:=by rw[ltK_not] at *;omega
set_option maxHeartbeats 1600000 in
theorem lessK_g(x y:Lnk)(w:World) :
  Calls Tryz.prog 124 #[.agg #[.int .i64 x.a,.int .i64 x.b,.int .i64 x.knob,.int .i64 x.other,.int .u8 x.sort],.agg #[.int .i64 y.a,.int .i64 y.b,.int .i64 y.knob,.int .i64 y.other,.int .u8 y.sort]] w fun v w'=>v = .returned (.int .i64 (ordK x y))∧Grn w w':=by
 obtain⟨a,b,c,d,s⟩:=x
 obtain⟨a',b',c',d',s'⟩:=y
 have hG:=((Grn.refl w).alloc (.cells #[.int .i64 a,.int .i64 b,.int .i64 c,.int .i64 d,.int .u8 s] 135)).alloc (.cells #[.int .i64 a',.int .i64 b',.int .i64 c',.int .i64 d',.int .u8 s'] 135)
 obtain⟨W1,hW1,E1,B1,hz1⟩:=mk_ w #[.int .i64 a,.int .i64 b,.int .i64 c,.int .i64 d,.int .u8 s] 135
 obtain⟨W2,hW2,E2,B2,hz2⟩:=mk_ W1 #[.int .i64 a',.int .i64 b',.int .i64 c',.int .i64 d',.int .u8 s'] 135
 rw[hW1,hW2] at hG
 have B1':=B1.ext E2
 rw[hz1] at B2
 have a0:=Go.cell_grown B1'.lt (B1'.cell 0)
 have a1:=Go.cell_grown B1'.lt (B1'.cell 1)
 have a2:=Go.cell_grown B1'.lt (B1'.cell 2)
 have c0:=Go.cell_grown B2.lt (B2.cell 0)
 have c1:=Go.cell_grown B2.lt (B2.cell 1)
 have c2:=Go.cell_grown B2.lt (B2.cell 2)
 go_enter Tryz.func124,Tryz.ntmps124
 go_upto_region 1 with(fail)
 clear hW1 hW2 hz1 hz2 B1 E1 E2 B1' B2
 refine wp_region_tailG 15 (by kernel_rfl) (by kernel_rfl) ?_
 simp only[List.take_succ_cons,List.take_zero,List.drop_succ_cons,List.drop_zero]
 repeat (go_big_quiet_step ((go_at_call 126;exact(cmpZ_c _ _ _).mono fun _ _ ⟨he,hw⟩=>⟨he,_,hw.symm⟩)))
 refine wpQuiet_nil ?_
 intro W3 hW3
 have hG3:Grn w W3:=by
  obtain⟨p,rfl⟩:=hW3
  exact hG.trans ⟨p.n,p.os,rfl⟩
 clear hW3 hG a0 a1 a2 c0 c1 c2
 go_wp2_with fail
 refine(or3_c _ _ _ _ _).mono ?_
 rintro v w4 ⟨rfl,rfl⟩
 go_wp2_with fail
 go_ret
 exact⟨rfl,hG3.alloc _⟩
theorem flatK_lnk(l:List Lnk):Go.Sort.flatK Lnk.cs 5 l.toArray=rowsA (l.map Lnk.cs):=by
 refine rowsA_ext (lnk_wide l) (by simp) fun i j r u hr hu=> ?_
 rw[List.getElem?_map] at hr
 obtain⟨p,hp,rfl⟩:=Option.map_eq_some_iff.1 hr
 obtain⟨hi,hpi⟩:=List.getElem?_eq_some_iff.1 hp
 have hj:j<5:=(List.getElem?_eq_some_iff.1 hu).1
 have hlt:i*5+j<l.toArray.size*5:=by simp;omega
 rw[Array.getElem?_eq_getElem (by simpa using hlt),←getElem!_pos,Go.Sort.get_flatK _ _ _ _ hlt,show(i*5+j) / 5=i by omega,show(i*5+j) % 5=j by omega,getElem!_pos l.toArray i (by simpa using hi)]
 have e1:l.toArray[i]'(by simpa using hi)=p:=by simpa using hpi
 rw[e1,←hu]
 rw[List.getElem!_eq_getElem?_getD,hu]
 rfl
theorem putLnk{w:World}{g n:Nat}{os:Array Obj}{l l':List Lnk}{t:TypeId}(hl:l'.length=l.length)(hb:RowX w g t (l.map Lnk.cs)) :
  RowX (sortWorldK Lnk.cs 5 w g 0 n l'.toArray os) g t (l'.map Lnk.cs)∧w.grownBy (sortWorldK Lnk.cs 5 w g 0 n l'.toArray os) (some g):=by
 obtain⟨ex,hb⟩:=hb
 have hg:=hb.lt
 constructor
 ·refine⟨ex,?_⟩
  unfold sortWorldK Go.Sort.putRowK
  rw[flatK_lnk]
  show(Go.Sort.grow _ _).heap[g]? = _
  rw[Go.Sort.heap_grow_old _ _ (by simpa using hg)]
  have hb':w.heap[g]? = some (.cells (rowsA (l.map Lnk.cs)++ex) t (0,0)):=hb
  have hs:(rowsA (l'.map Lnk.cs)).size=(rowsA (l.map Lnk.cs)).size:=by rw[rowsA_size (lnk_wide l),rowsA_size (lnk_wide l')];simp[hl]
  have e:Go.Sort.putCells id 0 (rowsA (l'.map Lnk.cs)) (rowsA (l.map Lnk.cs)++ex)=rowsA (l'.map Lnk.cs)++ex:=by
   apply Array.ext_getElem?
   intro k
   rcases Nat.lt_or_ge k (rowsA (l.map Lnk.cs)).size with hk|hk
   ·have hk':k<(rowsA (l'.map Lnk.cs)).size:=by omega
    rw[Array.getElem?_append_left hk']
    have:k<(rowsA (l.map Lnk.cs)++ex).size:=by simp;omega
    simp[Go.Sort.putCells,hk']
    exact⟨_,Array.getElem?_eq_getElem this⟩
   ·rw[Array.getElem?_append_right (by omega),hs]
    rcases Nat.lt_or_ge k (rowsA (l.map Lnk.cs)++ex).size with h2|h2
    ·have h3: ¬k<(rowsA (l'.map Lnk.cs)).size:=by omega
     have h4:(rowsA (l.map Lnk.cs)++ex)[k]? = ex[k-(rowsA (l.map Lnk.cs)).size]? := Array.getElem?_append_right hk
     rw[←h4]
     simp[Go.Sort.putCells,h3]
    ·rw[Array.getElem?_eq_none (by simpa [Go.Sort.putCells] using h2),Array.getElem?_eq_none (by simp at h2;omega)]
  simp[Go.Sort.putRow,Go.Sort.mapBlock,Go.Sort.ahead,Array.getElem?_modify,hb',Go.Sort.onCells,e]
 ·refine⟨rfl,rfl,rfl,by simp[sortWorldK,Go.Sort.putRowK],fun k hk hne=> ?_⟩
  unfold sortWorldK Go.Sort.putRowK
  rw[Go.Sort.heap_grow_old _ _ (by simpa using hk)]
  have:g≠k:=fun e=>hne (by rw[e])
  simp[Go.Sort.putRow,Go.Sort.mapBlock,Go.Sort.ahead,Array.getElem?_modify,this]
theorem sortK_c(l:List Lnk)(g cap:Nat)(w:World)(hB:RowX w g 135 (l.map Lnk.cs))(hn:l.length≤100000) :
  Calls Tryz.prog 123 #[.slice (some ⟨g,0,none⟩) l.length cap,.func (.func 124) #[] #[]] w fun e w'=>e = .returned (.tuple #[]) ∧ ∃l':List Lnk,l'.Perm l∧(l'.Pairwise fun x y=>ltK y x=false)∧RowX w' g 135 (l'.map Lnk.cs)∧w.grownBy w' (some g):=by
 have hH:Go.Sort.HoldsK Lnk.cs 5 w g 0 l.toArray:=by
  obtain⟨ex,hb⟩:=hB
  unfold Go.Sort.HoldsK
  rw[flatK_lnk]
  intro j hj
  refine⟨?_,by rw[Nat.zero_add];exact hb.frozen j⟩
  rw[Nat.zero_add,hb.cell,Array.getElem?_append_left hj,Array.getElem?_eq_getElem hj,getElem!_pos (rowsA (l.map Lnk.cs)) j hj]
  rfl
 have hcmp:CmpLays Tryz.prog 124 #[] Lnk.cs 5 ordK g 0 l.toArray.size w:=fun m os dk _ x y=>(lessK_g x y _).mono fun _ _ ⟨he,q,os',hw⟩=>⟨he,q,os',hw⟩
 have h:=AnyQ.slices_SortFunc sortLinks 5 Tryz.isAgg135 Tryz.sizeOf135 Lnk.cs (fun _=>rfl) (fun x v hv=>by
   simp only[Lnk.cs,List.mem_cons,List.not_mem_nil,or_false] at hv
   rcases hv with rfl|rfl|rfl|rfl|rfl <;> rfl) ordK (by rw[ltOf_ordK];exact swoK) 124 #[] g 0 cap l.toArray w (enters_of Tryz.func124 (by kernel_rfl) rfl) hcmp hH hB.lt (by simp;omega)
 rw[ltOf_ordK] at h
 refine(show Calls Tryz.prog 123 _ _ _ from h).mono ?_
 rintro e w' ⟨rfl,d',n,os,hp,hs,rfl⟩
 obtain⟨hsz,_,hperm⟩:=hp
 have e1:d'.extract 0 l.toArray.size=d':=by rw[←hsz];exact Array.extract_size
 rw[e1,Array.extract_size] at hperm
 have hperm':d'.toList.Perm l:=by simpa using hperm
 refine⟨rfl,d'.toList,hperm',?_,putLnk (by simpa using hperm'.length_eq) hB⟩
 rw[List.pairwise_iff_getElem]
 intro i j hi hj hij
 have hi':i<d'.size:=by simpa using hi
 have hj':j<d'.size:=by simpa using hj
 have:=hs i j (by omega) hij (by omega)
 simpa [getElem!_pos d' i hi',getElem!_pos d' j hj'] using this
theorem insNilK(v:Value)(w:World):Calls Tryz.prog 183 #[.slice none 0 0,.int .i64 0,.int .i64 0,v] w fun e w'=>e = .returned (.tuple #[])∧w=w':=by
 go_enter Tryz.func183,Tryz.ntmps183
 go_wp2_with fail
 go_loopw [8] (fun i wr=>i = .int .i64 1∧wr=w) (fun _ _=>0)
 case atStart=>exact⟨rfl,rfl⟩
 case round =>
  obtain⟨rfl,rfl⟩:=hrel
  go_wp2_with fail
  go_end0
  exact⟨rfl,rfl⟩
set_option maxRecDepth 100000 in
theorem pdqNilK(v:Value)(w:World):Calls Tryz.prog 150 #[.slice none 0 0,.int .i64 0,.int .i64 0,.int .i64 0,v] w fun e w'=>e = .returned (.tuple #[])∧w=w':=by
 go_enter Tryz.func150,Tryz.ntmps150
 go_wp2_with fail
 go_loopw [1,2] (fun a b wr=>a = .int .i64 0∧b = .int .i64 0∧wr=w) (fun _ _ _=>0)
 case atStart=>exact⟨rfl,rfl,rfl⟩
 case round =>
  obtain⟨rfl,rfl,rfl⟩:=hrel
  go_wp2_with fail
  refine(insNilK v wr).mono ?_
  rintro e w1 ⟨rfl,rfl⟩
  go_wp2_with fail
  exact bodyPost_ret (v:= .tuple #[]) (results_none rfl _ _ _) rfl ⟨rfl,rfl⟩
theorem sortNilK_c(v:Value)(w:World):Calls Tryz.prog 123 #[.slice none 0 0,v] w fun e w'=>e = .returned (.tuple #[])∧w=w':=by
 have hl:=Any.bits_Len (SlLaysF0.n15.bits (P:=Tryz.prog) (ρ:=sortLinks_ren) { sortLinks with }) 0 w (by omega) (by omega)
 go_enter Tryz.func123,Tryz.ntmps123
 have hl':Calls Tryz.prog 141 #[.int .u64 0] w fun e w'=>e = .returned (.int .i64 0)∧w'=w:=hl
 clear hl
 go_wp2_with fail
 refine hl'.mono ?_
 rintro e w1 ⟨rfl,rfl⟩
 go_wp2_with fail
 refine(pdqNilK v w1).mono ?_
 rintro e w2 ⟨rfl,rfl⟩
 go_wp2_with fail
 go_end0
 exact⟨rfl,rfl⟩
theorem infoJnt:(Tryz.prog.info? 242).map (fun i=>(i.zero,i.size,i.bytes))=some (some (.agg #[.int .i64 0,.int .i64 0,.int .i64 0,.int .u8 0,.bool false]),5,32):=by kernel_rfl
theorem Knb.meets.nat{x:Knb}(h:x.meets): ∃(a b c:Int) (d:Nat) (s:Int),x=⟨⟨a,b,c⟩,d,s⟩∧Knb.meets ⟨⟨a,b,c⟩,d,s⟩:=by
 obtain⟨⟨a,b,c⟩,d,s⟩:=x
 have h0:=h.d0
 simp only at h0
 have e:d=(d.toNat:Int):=by omega
 rw[e] at h ⊢
 exact⟨a,b,c,d.toNat,s,rfl,h⟩
theorem infoLnk:(Tryz.prog.info? 135).map (fun i=>(i.zero,i.size,i.bytes))=some (some (.agg #[.int .i64 0,.int .i64 0,.int .i64 0,.int .i64 0,.int .u8 0]),5,40):=by kernel_rfl
theorem links_cell{w:World}{A:Option Addr}{cap:Nat}{l:List Lnk}(h:Links w A cap l){k:Nat}(hk:k<l.length){g off:Nat}(hA:A=some ⟨g,off,none⟩):w.cell? ⟨g,off+k*5,none⟩=some (.int .i64 (lnkAt l k).a)∧w.cell? ⟨g,off+k*5+1,none⟩=some (.int .i64 (lnkAt l k).b)∧w.cell? ⟨g,off+k*5+2,none⟩=some (.int .i64 (lnkAt l k).knob)∧w.cell? ⟨g,off+k*5+3,none⟩=some (.int .i64 (lnkAt l k).other)∧w.cell? ⟨g,off+k*5+4,none⟩=some (.int .u8 (lnkAt l k).sort):=by
 obtain⟨b,o,p,hA',hp,-,c0,c1,c2,c3,c4⟩:=h.at_ hk
 rw[hA'] at hA
 cases hA
 rw[lnkAt_eq hp]
 exact⟨c0,c1,c2,c3,c4⟩
theorem five_put{w w0:World}{g:Nat}{t:TypeId}{x y z p q:Value}(h:Blk w g t #[x,y,z,p,q])(E:Ext w0 w)(hg:w0.heap.size≤g)(a b c d e:Value) :
  ∃V,((((w.setCell ⟨g,0,none⟩ a).setCell ⟨g,1,none⟩ b).setCell ⟨g,2,none⟩ c).setCell ⟨g,3,none⟩ d).setCell ⟨g,4,none⟩ e=V∧Blk V g t #[a,b,c,d,e]∧Ext w0 V∧V.heap.size=w.heap.size :=
 ⟨_,rfl,((((h.set_ 0 a).set_ 1 b).set_ 2 c).set_ 3 d).set_ 4 e,((((E.setCell hg a).setCell hg b).setCell hg c).setCell hg d).setCell hg e,by simp[World.setCell]⟩
def natZ(l:List Nat):List Int:=l.map fun(g:Nat)=>(g:Int)
theorem wp_region_by0{P:Program}{l:List Oper}{a0:Act}{Q:Exit→Act→World→Prop}{id:Nat}{w:World}(I:(Nat→Bool)→(Nat→Value)→World→Prop)(hm:P.follows .mixedOrders=true)(hn:decide (dsts l).Nodup=true)(hf:Region.forthB l=true)
  (h0:I (fun _=>false) (fun k=>((l[k]?).bind (·.dst)).elim undef fun d=>a0.tmps.getD d undef) w.drew) (hs:EachOp P l I a0 Q l 0) (he: ∀L us w,(∀k,k<l.length→L k=true)→I L us w→Q .normal (putAll us l 0 a0) w):(Code.region id l.toArray true).wp P Q a0 w:=by
 refine wp_region_any hm ?_
 have ea:putAll (fun k=>((l[k]?).bind (·.dst)).elim undef fun d=>a0.tmps.getD d undef) l 0 a0=a0:=putAll_self l 0 a0 _ fun j o hj d hd=>by
  simp[hj,hd]
 have eL:(fun k=>(Array.replicate l.toArray.size false).getD k false)=fun _=>false:=by
  funext k
  rw[Array.getD_eq_getD_getElem?,Array.getElem?_replicate]
  split <;> rfl
 have:=any_by (of_decide_eq_true hn) hf hs he l.toArray.size (Array.replicate l.toArray.size false) (fun k=>((l[k]?).bind (·.dst)).elim undef fun d=>a0.tmps.getD d undef) w.drew (by simp) (fun h k hk=>by simp at h;simp[h] at hk) (fun k hk _=>⟨l.length-1,by simp;omega⟩)
  (by unfold fewer;refine Nat.le_trans List.countP_le_length ?_;simp) (fun i k hi=>by rw[eL] at hi;cases hi) (by rw[eL];exact h0)
 rw[ea] at this
 exact this
end Go.Proofs.YtojolpbpjimfgaaGreatDoor
