/- Texts of the proof: SeenP, Free, Ways6. -/
import Derived.Test.YtojolpbpjimfgaaGreatDoorZz14
import Derived.Test.YtojolpbpjimfgaaGreatDoorZz17
import Derived.Test.YtojolpbpjimfgaaGreatDoorZz28
import Derived.Test.YtojolpbpjimfgaaGreatDoorZz29
import Derived.Test.YtojolpbpjimfgaaGreatDoorZz30
namespace Go.Proofs.YtojolpbpjimfgaaGreatDoor
open Go.RowKit
def lineP(c:Pt)(d:Nat):Int×Int :=
 match d with
 | 0=>(c.y,c.z)
 | 1=>(c.y,c.z)
 | 2=>(c.x,c.z)
 | 3=>(c.x,c.z)
 | _=>(c.x,c.y)
def farP(c:Pt)(d:Nat):Int :=
 match d with
 | 0=>c.x
 | 1=> -c.x
 | 2=>c.y
 | 3=> -c.y
 | 4=>c.z
 | _=> -c.z
theorem back_line{c p:Pt}{d:Nat}(hd:d<6):(∃t,1≤t∧backP d t c=p)↔lineP p d=lineP c d∧farP p d<farP c d:=by
 constructor
 ·rintro⟨t,h1,rfl⟩
  refine step_cases (P:=fun d=>lineP (backP d t c) d=lineP c d∧farP (backP d t c) d<farP c d) ?_ ?_ ?_ ?_ ?_ ?_ hd<;>(simp only[lineP,farP,backP,stepS,Prod.mk.injEq];omega)
 ·rintro⟨h1,h2⟩
  refine⟨(farP c d-farP p d).toNat,by omega,?_⟩
  obtain⟨x,y,z⟩:=c
  obtain⟨a,b,e⟩:=p
  revert h1 h2
  refine step_cases (P:=fun d=>lineP ⟨a,b,e⟩ d=lineP ⟨x,y,z⟩ d→farP ⟨a,b,e⟩ d<farP ⟨x,y,z⟩ d→backP d (farP ⟨x,y,z⟩ d-farP ⟨a,b,e⟩ d).toNat ⟨x,y,z⟩=⟨a,b,e⟩) ?_ ?_ ?_ ?_ ?_ ?_ hd<;>(simp only[lineP,farP,backP,stepS,Pt.mk.injEq,Prod.mk.injEq];omega)
theorem line_same{c p:Pt}{d:Nat}(hd:d<6)(h1:lineP c d=lineP p d)(h2:farP c d=farP p d):c=p:=by
 obtain⟨x,y,z⟩:=c
 obtain⟨a,b,e⟩:=p
 revert h1 h2
 refine step_cases (P:=fun d=>lineP ⟨x,y,z⟩ d=lineP ⟨a,b,e⟩ d→farP ⟨x,y,z⟩ d=farP ⟨a,b,e⟩ d→(⟨x,y,z⟩:Pt)=⟨a,b,e⟩) ?_ ?_ ?_ ?_ ?_ ?_ hd<;>(simp only[lineP,farP,Pt.mk.injEq,Prod.mk.injEq];omega)
structure FrontOf(d:Nat)(D:Nat→Pt→Prop)(m:List ((Int×Int)×(Nat×Int))):Prop where
 has: ∀i c,D i c→getK m (lineP c d)≠none
 is: ∀k v,getK m k=some v → ∃c,D v.1 c∧lineP c d=k∧farP c d=v.2 ∧ ∀j p,D j p→lineP p d=k→v.2≤farP p d
theorem FrontOf.nil(d:Nat):FrontOf d (fun _ _=>False) []:=⟨fun _ _ h=>h.elim,fun _ _ h=>by cases h⟩
theorem FrontOf.congr{d:Nat}{D D':Nat→Pt→Prop}{m:List ((Int×Int)×(Nat×Int))}(h:FrontOf d D m)(e: ∀i c,D i c↔D' i c):FrontOf d D' m :=
 ⟨fun i c hd=>h.has i c ((e i c).2 hd),fun k v hk=>by
  obtain⟨c,h1,h2,h3,h4⟩:=h.is k v hk
  exact⟨c,(e _ _).1 h1,h2,h3,fun j p hj=>h4 j p ((e j p).2 hj)⟩⟩
theorem FrontOf.put{d:Nat}{D:Nat→Pt→Prop}{m:List ((Int×Int)×(Nat×Int))}(h:FrontOf d D m)(i:Nat)(c:Pt)(hf: ∀v,getK m (lineP c d)=some v→farP c d<v.2):FrontOf d (fun j p=>D j p∨(j=i∧p=c)) (putK m (lineP c d) (i,farP c d)):=by
 refine⟨fun j p hj=> ?_,fun k v hk=> ?_⟩
 ·rw[getK_putK]
  by_cases e:lineP p d=lineP c d
  ·rw[if_pos e]
   simp
  ·rw[if_neg e]
   rcases hj with hj|⟨-,rfl⟩
   ·exact h.has j p hj
   ·exact absurd rfl e
 ·rw[getK_putK] at hk
  by_cases e:k=lineP c d
  ·subst e
   rw[if_pos rfl] at hk
   obtain rfl:=Option.some.inj hk
   refine⟨c,Or.inr ⟨rfl,rfl⟩,rfl,rfl,fun j p hj hp=> ?_⟩
   rcases hj with hj|⟨-,rfl⟩
   ·cases hg:getK m (lineP c d) with
    | none=>exact absurd (hp▸hg) (h.has j p hj)
    | some v =>
     obtain⟨c',-,-,-,h4⟩:=h.is _ _ hg
     have:=hf v hg
     have:=h4 j p hj hp
     show farP c d≤farP p d
     omega
   ·exact Int.le_refl _
  ·rw[if_neg e] at hk
   obtain⟨c',h1,h2,h3,h4⟩:=h.is k v hk
   refine⟨c',Or.inl h1,h2,h3,fun j p hj hp=> ?_⟩
   rcases hj with hj|⟨-,rfl⟩
   ·exact h4 j p hj hp
   ·exact absurd hp.symm e
theorem FrontOf.keep{d:Nat}{D:Nat→Pt→Prop}{m:List ((Int×Int)×(Nat×Int))}(h:FrontOf d D m)(i:Nat)(c:Pt){v:Nat×Int}(hg:getK m (lineP c d)=some v)(hf: ¬farP c d<v.2):FrontOf d (fun j p=>D j p∨(j=i∧p=c)) m:=by
 refine⟨fun j p hj=> ?_,fun k u hk=> ?_⟩
 ·rcases hj with hj|⟨-,rfl⟩
  ·exact h.has j p hj
  ·rw[hg]
   simp
 ·obtain⟨c',h1,h2,h3,h4⟩:=h.is k u hk
  refine⟨c',Or.inl h1,h2,h3,fun j p hj hp=> ?_⟩
  rcases hj with hj|⟨-,rfl⟩
  ·exact h4 j p hj hp
  ·subst hp
   rw[hg] at hk
   obtain rfl:=Option.some.inj hk
   omega
def DoneC(ks:List Knd)(bs:List Brk)(z q r:Nat)(i:Nat)(c:Pt):Prop:=(∃k,k<q∧i=memA z k∧c∈bcells ks (brkAt bs i))∨(i=memA z q∧c∈(bcells ks (brkAt bs (memA z q))).take r)
section
variable {ks:List Knd} {bs:List Brk} {z q r d:Nat}
theorem DoneC.zero(i:Nat)(c:Pt):False↔DoneC ks bs z 0 0 i c:=by
 constructor
 ·exact False.elim
 ·rintro(⟨k,h,-⟩|⟨-,h⟩)
  ·omega
  ·cases h
theorem DoneC.succ{c:Pt}(hc:(bcells ks (brkAt bs (memA z q)))[r]? = some c)(i:Nat)(p:Pt):(DoneC ks bs z q r i p∨(i=memA z q∧p=c))↔DoneC ks bs z q (r+1) i p:=by
 unfold DoneC
 rw[List.take_add_one,hc,Option.toList_some,List.mem_append,List.mem_singleton]
 constructor
 ·rintro((h|⟨h1,h2⟩)|⟨h1,h2⟩)
  ·exact Or.inl h
  ·exact Or.inr ⟨h1,Or.inl h2⟩
  ·exact Or.inr ⟨h1,Or.inr h2⟩
 ·rintro(h|⟨h1,h2|h2⟩)
  ·exact Or.inl (Or.inl h)
  ·exact Or.inl (Or.inr ⟨h1,h2⟩)
  ·exact Or.inr ⟨h1,h2⟩
theorem DoneC.next(i:Nat)(p:Pt):DoneC ks bs z q (bcells ks (brkAt bs (memA z q))).length i p↔DoneC ks bs z (q+1) 0 i p:=by
 unfold DoneC
 rw[List.take_length,List.take_zero]
 constructor
 ·rintro(⟨k,h1,h2,h3⟩|⟨h1,h2⟩)
  ·exact Or.inl ⟨k,by omega,h2,h3⟩
  ·exact Or.inl ⟨q,by omega,h1,by rw[h1];exact h2⟩
 ·rintro(⟨k,h1,h2,h3⟩|⟨-,h2⟩)
  ·rcases Nat.lt_or_ge k q with h|h
   ·exact Or.inl ⟨k,h,h2,h3⟩
   ·obtain rfl:k=q:=by omega
    exact Or.inr ⟨h2,by rw[←h2];exact h3⟩
  ·cases h2
theorem DoneC.all{n:Nat}(hz:SetB n z)(hn:n≤64)(i:Nat)(p:Pt):DoneC ks bs z (setL z).length 0 i p↔z.testBit i=true∧p∈bcells ks (brkAt bs i):=by
 unfold DoneC
 rw[List.take_zero]
 constructor
 ·rintro(⟨k,h1,h2,h3⟩|⟨-,h2⟩)
  ·exact⟨by rw[h2];exact(setL_of hz hn).1 (List.mem_of_getElem? (memA_get h1)),h3⟩
  ·cases h2
 ·rintro⟨h1,h2⟩
  obtain⟨k,hk⟩:=List.getElem?_of_mem ((setL_of hz hn).2 h1)
  exact Or.inl ⟨k,(List.getElem?_eq_some_iff.1 hk).1,(memA_eq hk).symm,h2⟩
theorem front_seen(hf:Fit ks bs)(hz:SetB bs.length z)(hd:d<6){m:List ((Int×Int)×(Nat×Int))}(h:FrontOf d (DoneC ks bs z (setL z).length 0) m)(i:Nat):(∃k v,getK m k=some v∧v.1=i)↔z.testBit i=true∧seeB ks bs z i d=true:=by
 have hn:bs.length≤64:=by have:=hf.n;omega
 constructor
 ·rintro⟨k,v,hk,rfl⟩
  obtain⟨c,h1,h2,h3,h4⟩:=h.is k v hk
  obtain⟨a1,a2⟩:=(DoneC.all hz hn _ _).1 h1
  refine⟨a1,seeB_iff.2 ⟨c,a2,fun j hj hne t ht hm=> ?_⟩⟩
  obtain⟨b1,b2⟩:=(back_line (c:=c) hd).1 ⟨t,ht,rfl⟩
  have:=h4 j _ ((DoneC.all hz hn _ _).2 ⟨hj,hm⟩) (by rw[b1,h2])
  omega
 ·rintro⟨h1,h2⟩
  obtain⟨c,hc,hv⟩:=seeB_iff.1 h2
  cases hg:getK m (lineP c d) with
  | none=>exact absurd hg (h.has i c ((DoneC.all hz hn _ _).2 ⟨h1,hc⟩))
  | some v =>
   refine⟨_,v,hg,?_⟩
   obtain⟨p,a1,a2,a3,a4⟩:=h.is _ _ hg
   obtain⟨b1,b2⟩:=(DoneC.all hz hn _ _).1 a1
   have hle:=a4 i c ((DoneC.all hz hn _ _).2 ⟨h1,hc⟩) rfl
   by_cases he:farP p d=farP c d
   ·obtain rfl:=line_same hd a2 he
    exact hf.o _ _ (hz _ b1) (hz _ h1) p b2 hc
   ·by_cases hi:v.1=i
    ·exact hi
    ·obtain⟨t,ht,hb⟩:=(back_line (p:=p) hd).2 ⟨a2,by omega⟩
     exact absurd (by rw[hb];exact b2) (hv v.1 b1 hi t ht)
end
set_option maxHeartbeats 1600000 in
theorem back6_c(d:Nat)(hd:d<6)(w:World) :
  Calls Tryz.prog 100 #[.int .i64 d] w fun e w'=>e = .returned (.agg #[.int .i64 (-(stepS d).x),.int .i64 (-(stepS d).y),.int .i64 (-(stepS d).z)])∧Ext w w':=by
 have hi: ∀(a b c:Int) (w:World),(Instr.index 234 (.agg #[.int .i64 a,.int .i64 0,.int .i64 0,.int .i64 0,.int .i64 b,.int .i64 0,.int .i64 0,.int .i64 0,.int .i64 c]) (.int .i64 0)).run Tryz.prog w = .ok (.agg #[.int .i64 a,.int .i64 0,.int .i64 0]) w:=fun _ _ _ _=>by kernel_rfl
 have hj: ∀(a b c:Int) (w:World),(Instr.index 234 (.agg #[.int .i64 a,.int .i64 0,.int .i64 0,.int .i64 0,.int .i64 b,.int .i64 0,.int .i64 0,.int .i64 0,.int .i64 c]) (.int .i64 1)).run Tryz.prog w = .ok (.agg #[.int .i64 0,.int .i64 b,.int .i64 0]) w:=fun _ _ _ _=>by kernel_rfl
 have hk: ∀(a b c:Int) (w:World),(Instr.index 234 (.agg #[.int .i64 a,.int .i64 0,.int .i64 0,.int .i64 0,.int .i64 b,.int .i64 0,.int .i64 0,.int .i64 0,.int .i64 c]) (.int .i64 2)).run Tryz.prog w = .ok (.agg #[.int .i64 0,.int .i64 0,.int .i64 c]) w:=fun _ _ _ _=>by kernel_rfl
 have e1:d=0∨d=1∨d=2∨d=3∨d=4∨d=5:=by omega
 rcases e1 with rfl|rfl|rfl|rfl|rfl|rfl
 all_goals
  go_enter Tryz.func100,Tryz.ntmps100
  go_wp2
  refine bodyPost_ret (v:= .agg #[.int .i64 (-(stepS _).x),.int .i64 (-(stepS _).y),.int .i64 (-(stepS _).z)]) ?_ rfl ⟨rfl,by apply_rules [Ext.refl,Ext.alloc]⟩
  simp[results,Tryz.results100,go_sem,stepS]
theorem index6(f:Nat→Nat)(o:Nat)(ho:o<6)(w:World):(Instr.index 138 (.agg #[.int .u64 (f 0:Nat),.int .u64 (f 1:Nat),.int .u64 (f 2:Nat),.int .u64 (f 3:Nat),.int .u64 (f 4:Nat),.int .u64 (f 5:Nat)]) (.int .i64 (o:Int))).run Tryz.prog w = .ok (.int .u64 (f o:Nat)) w:=by
 refine step_cases (P:=fun o:Nat=>(Instr.index 138 (.agg #[.int .u64 (f 0:Nat),.int .u64 (f 1:Nat),.int .u64 (f 2:Nat),.int .u64 (f 3:Nat),.int .u64 (f 4:Nat),.int .u64 (f 5:Nat)]) (.int .i64 (o:Int))).run Tryz.prog w = .ok (.int .u64 (f o:Nat)) w) ?_ ?_ ?_ ?_ ?_ ?_ ho <;> kernel_rfl
set_option maxRecDepth 100000 in
set_option maxHeartbeats 16000000 in
theorem free6_c(m:MB)(p:PlV)(hm:List (Int×Bool))(z b d:Nat)(w:World)(hp:PlanAt w m p hm)(hM:MBAt w m)(h0:checkErr m.ks m.bs=0)(hlow:m.tab≤lowZ m.ks m.bs b)(hz:SetB m.bs.length z)(hb:b<m.bs.length)(hd:d<6) :
  Calls Tryz.prog 71 #[.pointer (some ⟨p.X,0,none⟩),.int .u64 z,.int .i64 b,.int .i64 d] w fun e w'=>e = .returned (.bool (freeB m.ks m.bs m.tab z b d))∧Ext w w':=by
 have hf:=hM.fit h0
 have hnb:=hf.n
 obtain⟨cg,coff,hCA⟩:=hp.addr (by omega)
 have HFit:=h_ (fit_join hf (z:=z) (d:=d) hb)
 have HJz:=h_ (fun o=>(joinF_set (n:=m.bs.length) (fun x h=>⟨(lnk_lt h).1,(lnk_lt h).2.1⟩) (l:=linkL m.ks m.bs) (fun x h=>h) b o).mono (show m.bs.length≤64 by omega) |>.lt)
 have HP:=h_ hp
 have HZ:=h_ hz
 have HZ2:=h_ hnb
 have hzz:z<2 ^ 64:=(hz.mono (show m.bs.length≤64 by omega)).lt
 have Hnear:=h_ (show ∀q∈bcells m.ks (brkAt m.bs b),Pt.in_ 1015 q from cells_near hM.k hM.b.2 (check_model h0) hb)
 have HLow:=h_ (fun(c:Pt) (hc:c∈bcells m.ks (brkAt m.bs b))=>Int.le_trans hlow (low_le hc))
 have Hcl:=h_ (show clen m.ks m.bs b≤24 from(clen_pos hM.k hM.b.2 (check_model h0) hb).2)
 have hxb:=hp.x
 have r0:=hp.row hb hCA
 have HR:=h_ (hp.r b hb)
 have c0:=hp.j.cell hb (b:=0) (by decide)
 have c1:=hp.j.cell hb (b:=1) (by decide)
 have c2:=hp.j.cell hb (b:=2) (by decide)
 have c3:=hp.j.cell hb (b:=3) (by decide)
 have c4:=hp.j.cell hb (b:=4) (by decide)
 have c5:=hp.j.cell hb (b:=5) (by decide)
 simp only[Nat.add_zero] at c0
 obtain⟨J,hJ⟩:=nm (joinF m.ks m.bs (linkL m.ks m.bs) b)
 rw[hJ] at c0 c1 c2 c3 c4 c5 HFit HJz
 obtain⟨nb,hnbe⟩:=nm m.bs.length
 have Hnb:=h_ hnbe
 rw[hnbe] at hxb hb hnb
 obtain⟨L,hL⟩:=nm (bcells m.ks (brkAt m.bs b))
 obtain⟨n,hn⟩:=nm (clen m.ks m.bs b)
 have HL:=h_ (show L.length=n by rw[←hL,←hn];rfl)
 have HLe:=h_ hL
 have Hn:=h_ hn
 rw[hn] at r0 Hcl HR
 have Hnear2:=h_ (show ∀c∈L,Pt.in_ 1015 c from fun c hc=>Hnear.out c (by rw[hL];exact hc))
 have HLow2:=h_ (show ∀c∈L,m.tab≤c.z from fun c hc=>HLow.out c (by rw[hL];exact hc))
 rw[hL] at HR
 rw[hCA] at hxb
 have hx:=hxb.cell
 have HXB:=h_ hxb
 have HR0:=h_ r0
 have Hix:=h_ (index6 J)
 have hb0:(0:Int)≤b:=by omega
 have hb1:(b:Int)<nb:=by omega
 clear hxb hJ hnbe hL hn hp hM h0 hlow hz hf hCA Hnear HLow
 have hcl:=Hcl.out
 go_enter Tryz.func71,Tryz.ntmps71
 go_wp2_with fail
 clear c0 c1 c2 c3 c4 c5
 go_loopw [23] (fun ii wr=> ∃o:Nat,o≤6∧ii = .int .i64 o∧Ext w wr∧Hid (∀k,k<o→k≠d→J k&&&z=0)) (fun ii _=>6-(intOf ii).toNat)
 case atStart=>exact⟨0,by omega,rfl,Ext.refl w,h_ (fun k hk=>by omega)⟩
 case round =>
  obtain⟨o,ho,rfl,E,Ho⟩:=hrel
  by_cases hlt:o<6
  ·have hix:=fun w=>Hix.out o hlt w
   have o0:(0:Int)≤o:=by omega
   have o1:(o:Int)<6:=by omega
   by_cases hod:o=d
   ·have hne:((o:Int) != (d:Int))=false:=by simp[hod]
    have Ho2:=h_ (show ∀k,k<o+1→k≠d→J k&&&z=0 from fun k hk hkd=>Ho.out k (by omega) hkd)
    clear hod
    go_wp2_with fail
    go_roundw
    case rel=>exact⟨o+1,by omega,by go_num,E,Ho2⟩
    case measure=>simp only[intOf];omega
   ·have hne:((o:Int) != (d:Int))=true:=by simp;omega
    have hband:=bits_and_u64_nat (J o) z (HJz.out o) hzz
    obtain⟨v,hv⟩:=nm (J o&&&z)
    rw[hv] at hband
    by_cases hv0:v=0
    ·have hq:((v:Int) != 0)=false:=by simp[hv0]
     have Ho2:=h_ (show ∀k,k<o+1→k≠d→J k&&&z=0 from fun k hk hkd=>by
      rcases Nat.lt_or_ge k o with h|h
      ·exact Ho.out k h hkd
      ·obtain rfl:k=o:=by omega
       rw[hv,hv0])
     clear hv hv0 hod
     go_wp2_with fail
     go_roundw
     case rel=>exact⟨o+1,by omega,by go_num,E,Ho2⟩
     case measure=>simp only[intOf];omega
    ·have hq:((v:Int) != 0)=true:=by simp[hv0]
     have Hv:=h_ (show freeB m.ks m.bs m.tab z b d=false from freeB_not fun h=>hv0 (by rw[←hv];exact HFit.out.1 h.fit o hlt hod))
     clear hv hv0 hod
     go_wp2_with fail
     refine bodyPost_ret (v:= .bool false) (by simp[results,Tryz.results71,go_sem]) rfl ⟨by rw[Hv.out],E⟩
  ·obtain rfl:o=6:=by omega
   have Hfit:=h_ (HFit.out.2 Ho.out)
   have BK:=back6_c d hd wr
   obtain⟨sx,hsx⟩:=nm (-(stepS d).x)
   obtain⟨sy,hsy⟩:=nm (-(stepS d).y)
   obtain⟨sz,hsz⟩:=nm (-(stepS d).z)
   rw[hsx,hsy,hsz] at BK
   have Hstep:=h_ (show ∀(t:Nat) (c:Pt),(backP d t c).x+sx=(backP d (t+1) c).x∧(backP d t c).y+sy=(backP d (t+1) c).y∧(backP d t c).z+sz=(backP d (t+1) c).z from fun t c=>by
    rw[backP_succ,←hsx,←hsy,←hsz]
    refine⟨?_,?_,?_⟩ <;> simp only <;> omega)
   clear hsx hsy hsz
   go_wp2_with fail
   refine BK.mono ?_
   rintro e W1 ⟨rfl,E1⟩
   obtain⟨W2,hW2,E2,B2,hz2⟩:=mk_ W1 #[.int .i64 sx,.int .i64 sy,.int .i64 sz] 124
   obtain⟨S,hS⟩:=nm W1.heap.size
   rw[hS] at B2
   have HSw:=h_ (show w.heap.size≤S by have:=E.size;have:=E1.size;omega)
   have HS:=h_ hS
   have EW:=(E.trans E1).trans E2
   have HW2:=h_ hW2
   clear hS hz2 E E1 E2 BK hW2 hx r0
   go_upto_region 8 with(fail)
   rw[HW2.out,HS.out]
   have hx:=(HXB.out.ext EW).cell
   have r0:=EW.cell HR0.out
   go_wp2_with fail
   clear hx r0
   go_loopw [47] (fun ii wr=> ∃q:Nat,q≤n∧ii = .int .i64 q∧Ext w wr∧Blk wr S 124 #[.int .i64 sx,.int .i64 sy,.int .i64 sz]∧Hid (∀r,r<q → ∀c,L[r]? = some c → ∀t,1≤t→t≤64→m.tab≤(backP d t c).z ∧ ∀i,z.testBit i=true → ¬backP d t c∈bcells m.ks (brkAt m.bs i))) (fun ii _=>n-(intOf ii).toNat)
   case atStart=>exact⟨0,by omega,rfl,EW,B2,h_ (fun r hr=>by omega)⟩
   case round =>
    clear EW B2
    obtain⟨q,hq,rfl,E,BS,Hq⟩:=hrel
    by_cases hqt:q<n
    ·obtain⟨c,hc⟩: ∃c,L[q]? = some c:=⟨_,List.getElem?_eq_getElem (by rw[HL.out];exact hqt)⟩
     have hr:(L.map Pt.cs)[q]? = some (Pt.cs c):=by rw[List.getElem?_map,hc];rfl
     have RX:=HR.out.2.2.ext E
     have c0:=RX.cell (pts_wide' L) hr (j:=0) rfl
     have c1:=RX.cell (pts_wide' L) hr (j:=1) rfl
     have c2:=RX.cell (pts_wide' L) hr (j:=2) rfl
     simp only[Nat.add_zero] at c0
     have hcm:=List.mem_of_getElem? hc
     have HcB:=h_ (fun(t:Nat) (ht:t≤64)=>backP_near hd ht (Hnear2.out c hcm))
     have Hcz:=h_ (HLow2.out c hcm)
     have Hcm:=h_ hcm
     have Hc:=h_ hc
     obtain⟨W3,hW3,E3,B3,-⟩:=mk_ wr #[.int .i64 c.x,.int .i64 c.y,.int .i64 c.z] 124
     obtain⟨C,hC⟩:=nm wr.heap.size
     rw[hC] at B3
     have HCw:=h_ (show w.heap.size≤C by have:=E.size;omega)
     have HSC:=h_ (show S≠C by have:=BS.lt;omega)
     have HC:=h_ hC
     have EW:=E.trans E3
     have BS3:=BS.ext E3
     have HW3:=h_ hW3
     have q0:(0:Int)≤q:=by omega
     have q1:(q:Int)<n:=by omega
     have q2:(q:Int)<p.cp b:=by have:=HR.out.1;omega
     have b00:Blk W3 C 124 #[.int .i64 (backP d 0 c).x,.int .i64 (backP d 0 c).y,.int .i64 (backP d 0 c).z]:=by rw[backP_zero];exact B3
     clear hc hr RX hcm hC hW3 E E3 B3 BS
     go_upto_region 11 with(fail)
     rw[HW3.out,HC.out]
     clear c0 c1 c2
     go_wp2_with fail
     go_loopw [51] (fun ii wr'=> ∃t:Nat,t≤64∧ii = .int .i64 t∧Ext w wr'∧Blk wr' S 124 #[.int .i64 sx,.int .i64 sy,.int .i64 sz]∧Blk wr' C 124 #[.int .i64 (backP d t c).x,.int .i64 (backP d t c).y,.int .i64 (backP d t c).z]∧Hid (∀u,1≤u→u≤t→m.tab≤(backP d u c).z ∧ ∀i,z.testBit i=true → ¬backP d u c∈bcells m.ks (brkAt m.bs i))) (fun ii _=>64-(intOf ii).toNat)
     case atStart=>exact⟨0,by omega,rfl,EW,BS3,b00,h_ (fun u h1 h2=>by omega)⟩
     case round =>
      clear EW BS3 b00
      obtain⟨t,ht,rfl,E,BS,BC,Ht⟩:=hrel
      by_cases htt:t<64
      ·obtain⟨s1,s2,s3⟩:=Hstep.out t c
       obtain⟨⟨l1,l2⟩,⟨l3,l4⟩,⟨l5,l6⟩⟩:=HcB.out t ht
       obtain⟨⟨k1,k2⟩,⟨k3,k4⟩,⟨k5,k6⟩⟩:=HcB.out (t+1) htt
       obtain⟨⟨x1,y1,z1⟩,h1⟩:=nm (backP d t c)
       obtain⟨⟨x2,y2,z2⟩,h2⟩:=nm (backP d (t+1) c)
       rw[h1] at s1 s2 s3 BC l1 l2 l3 l4 l5 l6
       rw[h2] at s1 s2 s3 k1 k2 k3 k4 k5 k6
       simp only at s1 s2 s3 BC l1 l2 l3 l4 l5 l6 k1 k2 k3 k4 k5 k6
       have H2:=h_ h2
       have bS:=BS.cell
       have bC:=BC.cell
       have fC:=BC.frozen
       obtain⟨V,hV⟩:=nm (((wr.setCell ⟨C,0,none⟩ (.int .i64 x2)).setCell ⟨C,1,none⟩ (.int .i64 y2)).setCell ⟨C,2,none⟩ (.int .i64 z2))
       have BV:Blk V C 124 #[.int .i64 x2,.int .i64 y2,.int .i64 z2]:=hV▸((BC.set_ 0 _).set_ 1 _).set_ 2 _
       have BSV:Blk V S 124 #[.int .i64 sx,.int .i64 sy,.int .i64 sz]:=hV▸((BS.far (p:=⟨C,0,none⟩) HSC.out _).far (p:=⟨C,1,none⟩) HSC.out _).far (p:=⟨C,2,none⟩) HSC.out _
       have EV:Ext w V:=hV▸((E.setCell (p:=⟨C,0,none⟩) HCw.out _).setCell (p:=⟨C,1,none⟩) HCw.out _).setCell (p:=⟨C,2,none⟩) HCw.out _
       have t0:(0:Int)≤t:=by omega
       have t1:(t:Int)<64:=by omega
       clear h1 h2 E BS BC
       go_upto_region 14 with(fail)
       clear bS bC fC hV s1 s2 s3 l1 l2 l3 l4 l5 l6
       obtain⟨v,hv⟩:=nm (getK p.mm ⟨x2,y2,z2⟩)
       have lk:=h_ (fun x=>show(Instr.lookup 117 (.map (some p.M)) (.agg #[.int .i64 x2,.int .i64 y2,.int .i64 z2]) true).run Tryz.prog (grow V x) = .ok (.tuple #[.int .i64 (v.getD 0),.bool v.isSome]) (grow V x) by
        have:=look_ok (HP.out.at_.ext (EV.trans ((Ext.refl V).grow x))) x2 y2 z2
        rwa [hv] at this)
       have Hv:=h_ hv
       have bV:=BV.cell
       have hx:=(HXB.out.ext EV).cell
       clear hv
       refine wp_region_grow (by kernel_rfl) (by kernel_rfl) ?_
       repeat (go_big_quiet_step ((rw[lk.out];exact⟨rfl,rfl⟩)))
       refine wpQuiet_nil ?_
       intro W5 hW5
       have E5:Ext V W5:=by
        obtain⟨x,rfl⟩:=hW5
        exact(Ext.refl _).grow x
       clear hW5
       obtain⟨hcW5,hfW5,hzW5⟩:=ext_facts E5
       clear hcW5 hfW5 hzW5 bV hx lk
       have BV5:=BV.ext E5
       have BS5:=BSV.ext E5
       have EV5:=EV.trans E5
       have bV:=BV5.cell
       have hx:=(HXB.out.ext EV5).cell
       clear BV BSV EV E5
       go_upto_region 15 with(fail)
       by_cases hA:z2<m.tab
       ·have Hno:=h_ (show freeB m.ks m.bs m.tab z b d=false from freeB_not fun h=>tab_way hd (show 1≤t+1 by omega) htt Hcz.out (by rw[H2.out];simp only;omega) (h.tab c (by rw[HLe.out];exact Hcm.out)))
        refine wp_region_grow (by kernel_rfl) (by kernel_rfl) ?_
        repeat (go_big_quiet_step ((fail)))
        refine wpQuiet_nil ?_
        intro W6 hW6
        have E6:Ext W5 W6:=by
         obtain⟨x,rfl⟩:=hW6
         exact(Ext.refl _).grow x
        clear hW6
        obtain⟨hcW6,hfW6,hzW6⟩:=ext_facts E6
        clear hcW6 hfW6 hzW6 bV hx
        have HE6:=h_ (EV5.trans E6)
        clear E6
        go_wp2_with fail
        refine bodyPost_ret (v:= .bool false) (by simp[results,Tryz.results71,go_sem]) rfl ⟨by rw[Hno.out],HE6.out⟩
       have hA':decide (z2<m.tab)=false:=by simpa using hA
       cases v with
       | none =>
        simp only[Option.getD_none,Option.isSome_none]
        have Ht2:=h_ (show ∀u,1≤u→u≤t+1→m.tab≤(backP d u c).z ∧ ∀i,z.testBit i=true → ¬backP d u c∈bcells m.ks (brkAt m.bs i) from fun u hu1 hu2=>by
         rcases Nat.lt_or_ge u (t+1) with h|h
         ·exact Ht.out u hu1 (by omega)
         ·obtain rfl:u=t+1:=by omega
          rw[H2.out]
          refine⟨by simp only;omega,fun i hi hmem=> ?_⟩
          have:=(HP.out.k ⟨x2,y2,z2⟩ (i:Int)).2 ⟨i,HZ.out i hi,rfl,hmem⟩
          rw[Hv.out] at this
          cases this)
        refine wp_region_grow (by kernel_rfl) (by kernel_rfl) ?_
        repeat (go_big_quiet_step ((fail)))
        refine wpQuiet_nil ?_
        intro W6 hW6
        have E6:Ext W5 W6:=by
         obtain⟨x,rfl⟩:=hW6
         exact(Ext.refl _).grow x
        clear hW6
        obtain⟨hcW6,hfW6,hzW6⟩:=ext_facts E6
        clear hcW6 hfW6 hzW6 bV hx hA hA'
        have BV6:=BV5.ext E6
        have BS6:=BS5.ext E6
        have EV6:=EV5.trans E6
        clear E6 BV5 BS5
        go_wp2_with fail
        go_roundw
        case rel=>exact⟨t+1,by omega,by go_num,EV6,BS6,by rw[H2.out];exact BV6,Ht2⟩
        case measure=>simp only[intOf];omega
       | some k =>
        obtain⟨i,hi,rfl,hmem⟩:=(HP.out.k ⟨x2,y2,z2⟩ k).1 Hv.out
        simp only[Option.getD_some,Option.isSome_some]
        have HSc:=h_ (fun W=>has6_c z i hzz (by have:=HZ2.out;omega) W)
        obtain⟨r,hr⟩:=nm (z.testBit i)
        rw[hr] at HSc
        refine wp_region_grow (by kernel_rfl) (by kernel_rfl) ?_
        repeat (go_big_quiet_step ((go_at_call 33;exact quiet_ext (HSc.out _))))
        refine wpQuiet_nil ?_
        intro W6 hW6
        have E6:Ext W5 W6:=by
         obtain⟨x,rfl⟩:=hW6
         exact(Ext.refl _).grow x
        clear hW6
        obtain⟨hcW6,hfW6,hzW6⟩:=ext_facts E6
        clear hcW6 hfW6 hzW6 bV hx hA'
        cases r
        ·have Ht2:=h_ (show ∀u,1≤u→u≤t+1→m.tab≤(backP d u c).z ∧ ∀i,z.testBit i=true → ¬backP d u c∈bcells m.ks (brkAt m.bs i) from fun u hu1 hu2=>by
          rcases Nat.lt_or_ge u (t+1) with h|h
          ·exact Ht.out u hu1 (by omega)
          ·obtain rfl:u=t+1:=by omega
           rw[H2.out]
           refine⟨by simp only;omega,fun i' hi' hmem'=> ?_⟩
           have:=(HP.out.k ⟨x2,y2,z2⟩ (i':Int)).2 ⟨i',HZ.out i' hi',rfl,hmem'⟩
           rw[Hv.out] at this
           have e:=Option.some.inj this
           have e2:i=i':=by omega
           rw[←e2,hr] at hi'
           cases hi')
         clear hr hA hmem hi
         have BV6:=BV5.ext E6
         have BS6:=BS5.ext E6
         have EV6:=EV5.trans E6
         clear E6 BV5 BS5
         go_wp2_with fail
         go_roundw
         case rel=>exact⟨t+1,by omega,by go_num,EV6,BS6,by rw[H2.out];exact BV6,Ht2⟩
         case measure=>simp only[intOf];omega
        ·have Hno:=h_ (show freeB m.ks m.bs m.tab z b d=false from freeB_not fun h=>h.way i hr c (by rw[HLe.out];exact Hcm.out) (t+1) (by omega) htt (by rw[H2.out];exact hmem))
         have HE6:=h_ (EV5.trans E6)
         clear E6 hr hA hmem hi
         go_wp2_with fail
         refine bodyPost_ret (v:= .bool false) (by simp[results,Tryz.results71,go_sem]) rfl ⟨by rw[Hno.out],HE6.out⟩
      ·obtain rfl:t=64:=by omega
       have Hq2:=h_ (show ∀r,r<q+1 → ∀c,L[r]? = some c → ∀t,1≤t→t≤64→m.tab≤(backP d t c).z ∧ ∀i,z.testBit i=true → ¬backP d t c∈bcells m.ks (brkAt m.bs i) from fun r hr c' hc' u hu1 hu2=>by
        rcases Nat.lt_or_ge r q with h|h
        ·exact Hq.out r h c' hc' u hu1 hu2
        ·obtain rfl:r=q:=by omega
         rw[Hc.out] at hc'
         cases hc'
         exact Ht.out u hu1 hu2)
       clear BC
       go_wp2_with fail
       go_roundw
       case rel=>exact⟨q+1,by omega,by go_num,E,BS,Hq2⟩
       case measure=>simp only[intOf];omega
    ·obtain rfl:q=n:=by omega
     have Hyes:=h_ (show freeB m.ks m.bs m.tab z b d=true from freeB_iff.2 ⟨Hfit.out,fun c hc=>by
      rw[HLe.out] at hc
      obtain⟨r,hr⟩:=List.getElem?_of_mem hc
      exact(Hq.out r (by have:=(List.getElem?_eq_some_iff.1 hr).1;rw[HL.out] at this;exact this) c hr 64 (by omega) (by omega)).1,fun i hi c hc t ht1 ht2=>by
      rw[HLe.out] at hc
      obtain⟨r,hr⟩:=List.getElem?_of_mem hc
      exact(Hq.out r (by have:=(List.getElem?_eq_some_iff.1 hr).1;rw[HL.out] at this;exact this) c hr t ht1 ht2).2 i hi⟩)
     have HEr:=h_ E
     clear E BS
     go_wp2_with fail
     refine bodyPost_ret (v:= .bool true) (by simp[results,Tryz.results71,go_sem]) rfl ⟨by rw[Hyes.out],HEr.out⟩
set_option maxRecDepth 100000 in
set_option maxHeartbeats 8000000 in
theorem ways6_c(m:MB)(p:PlV)(hm:List (Int×Bool))(z b:Nat)(w:World)(hp:PlanAt w m p hm)(hM:MBAt w m)(h0:checkErr m.ks m.bs=0)(hlow:m.tab≤lowZ m.ks m.bs b)(hz:SetB m.bs.length z)(hb:b<m.bs.length) :
  Calls Tryz.prog 34 #[.pointer (some ⟨p.X,0,none⟩),.int .u64 z,.int .i64 b] w (IntsPost (wayQ m.ks m.bs m.tab z b 6) w):=by
 have HF:=h_ (fun(d:Nat) (hd:d<6) (W:World) (E:Ext w W)=>free6_c m p hm z b d W (hp.ext E) (hM.ext E) h0 hlow hz hb hd)
 obtain⟨i9,hi9,hz9,hz91,hz92⟩:=info_parts infoI6
 obtain⟨U,hU⟩:=nm w.heap.size
 have HU:=h_ hU
 clear hp hM h0 hlow hz hb hU
 go_enter Tryz.func34,Tryz.ntmps34
 go_wp2_with fail
 go_loopw [7,9] (fun v ii wr=> ∃(d:Nat) (u:Value),d≤6∧ii = .int .i64 d∧v=u∧Ext w wr∧wr.ownsRow U 3 1 u (wayQ m.ks m.bs m.tab z b d).length ((wayQ m.ks m.bs m.tab z b d).map (Value.int .i64))) (fun _ ii _=>6-(intOf ii).toNat)
 case atStart=>exact⟨0,_,by omega,rfl,rfl,Ext.refl _,World.ownsRow_nil _ _ _ _⟩
 case round =>
  obtain⟨d,v,hd,rfl,rfl,Er,own⟩:=hrel
  by_cases hlt:d<6
  ·have FC:=HF.out d hlt wr Er
   obtain⟨r,hr⟩:=nm (freeB m.ks m.bs m.tab z b d)
   rw[hr] at FC
   have hsn:=wayQ_succ m.ks m.bs m.tab z b d
   rw[hr] at hsn
   have hln:=wayQ_len m.ks m.bs m.tab z b d
   have d0:(0:Int)≤d:=by omega
   have d1:(d:Int)<6:=by omega
   clear hr
   cases r
   ·have hf2:wayQ m.ks m.bs m.tab z b (d+1)=wayQ m.ks m.bs m.tab z b d:=by rw[hsn];exact List.append_nil _
    rw[←hf2] at own
    have Hown:=h_ own
    clear own hsn hln hf2
    go_wp2_with fail
    refine FC.mono ?_
    rintro e W1 ⟨rfl,E1⟩
    go_wp2_with fail
    go_roundw
    case rel=>exact⟨d+1,_,by omega,by go_num,rfl,Er.trans E1,own_ext Hown.out E1⟩
    case measure=>simp only[intOf];omega
   ·have hf2:wayQ m.ks m.bs m.tab z b (d+1)=wayQ m.ks m.bs m.tab z b d ++ [(d:Int)]:=by rw[hsn];rfl
    have Hf2:=h_ hf2
    have hjl:(wayQ m.ks m.bs m.tab z b d).length+1≤maxLen:=by unfold maxLen;omega
    obtain⟨fl,hfe⟩:=nm (wayQ m.ks m.bs m.tab z b d)
    rw[hfe] at own hjl hln Hf2
    obtain⟨fn,hfn⟩:=nm fl.length
    rw[hfn] at own hjl hln
    have Hfn:=h_ hfn
    clear hsn hf2 hfe hfn
    go_wp2_with fail
    refine FC.mono ?_
    rintro e W1 ⟨rfl,E1⟩
    have EW:=Er.trans E1
    have ow1:=own_ext own E1
    have hU4:U≤W1.heap.size:=by have:=HU.out;have:=EW.size;omega
    clear own E1 Er FC
    go_wp2_with (at_builtin;refine wpList_append_one #[.int .i64 d] rfl (.tmp 17) (.tmp 19) 26 rfl U 3 3 i9 _ 1 8 Tryz.underlying26 hi9 hz9 hz91 hz92 rfl (by decide) _ fn _ _ rfl ow1 rfl rfl (by simp[Value.oneCell']) hjl (by omega) hU4 ?_;intro g7 cap7 w7 own7 hg7)
    go_roundw
    case rel =>
     refine⟨d+1,_,by omega,by go_num,rfl,(EW.alloc _).grown hg7 (fun k hk=>by have:=(ow1.lt k hk).1;have:=HU.out;omega),?_⟩
     rw[Hf2.out,List.map_append,List.length_append,Hfn.out]
     exact own7
    case measure=>simp only[intOf];omega
  ·obtain rfl:d=6:=by omega
   obtain⟨FA,fc,rfl,hFI⟩:=ints_own6 own
   have HFI:=h_ hFI
   have HR:=h_ Er
   clear hFI own Er
   go_wp2_with fail
   refine bodyPost_ret (v:= .slice FA (wayQ m.ks m.bs m.tab z b 6).length fc) (by simp[results,Tryz.results34,go_sem]) rfl ⟨FA,fc,rfl,HFI.out,HR.out⟩
end Go.Proofs.YtojolpbpjimfgaaGreatDoor
