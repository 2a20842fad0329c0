/- Texts of the proof: Holds. -/
import Derived.Test.YtojolpbpjimfgaaGreatDoorZy27
import Derived.Test.YtojolpbpjimfgaaGreatDoorZy29
import Derived.Test.YtojolpbpjimfgaaGreatDoorZy43
set_option maxHeartbeats 16000000
set_option maxRecDepth 100000
namespace Go.Proofs.YtojolpbpjimfgaaGreatDoor
open Go.RowKit Go.Shelf
attribute [local go_sem] Oper.semAt_some
theorem stepIn_append{F:Fence}{n:Nat}{P:Program}(w:World){l:List Oper}{ts:Array Value}{o:Oper}{a:Act}{K:Act→World→Prop}{Q:Exit→Act→World→Prop}{R:Prop}
  (hg:o.guard=none) (s x:Operand) (t:TypeId) (hop:o.op=Op.call { callee:=Callee.builtin Builtin.append,args:= #[s,x],argTypes:= #[t,t] })
  (base:Nat) (e:TypeId) (i:TypeInfo) (z:Value) (size bytes:Nat) (h1:P.underlying t=some (.slice e)) (h2:P.info? e=some i) (h3:i.zero=some z) (h4:i.size=size) (h5:i.bytes=bytes) (h6:z.cells.size=size) (h7:0<size)
  (v:Value) (k:Nat) (xs:List Value) (hs:a.eval s=v) (hown:w.ownsRow base e size v k xs) (g m c:Nat) (news:Array Value) (te:TypeId) (hx:a.eval x = .slice (some ⟨g,0,none⟩) m c) (hB:Blk w g te news) (hn:news.size=m*size)
  (h1c: ∀u∈news.toList,u.oneCell'=true) (b1:k+m≤maxLen) (b2:(k+m)*bytes≤140737488355328) (b3:base≤w.heap.size)
  (hK: ∀v' w',w'.ownsRow base e size v' (k+m) (xs++news.toList)→w.grownBy w' v.ownBlock→K (a.put o.dst v') w') :
  if Region.wanted o (yielded l.toArray ts)=true then Oper.wpIn F n P o a w K Q else R:=by
 rw[if_pos (by simp[Region.wanted,hg])];obtain⟨v',w',hrun,r1,r2,-⟩:=run_append_own (P:=P) w base t o.type e i z size bytes h1 h2 h3 h4 h5 h6 h7 v k xs hown ⟨g,0,none⟩ m c news.toList (by simpa using hn) (fun j u hu=>by rw[add_zero_addr,hB.cell];simpa using hu) h1c b1 b2 b3;unfold Oper.wpIn;refine⟨?_,?_⟩
 ·simp[Oper.about,hop,resolve,Target.leads,Sem.run_pure]
 ·rw[Oper.semAt_plain F _ _ (by rw[hop];intro c hc';cases hc')];simp[execOp,hop,resolve,invoke,builtin,hs,hx,hrun,Result.andThen];exact hK v' w' r1 r2
theorem infoBrk6:(Tryz.prog.info? 126).map (fun i=>(i.zero,i.size,i.bytes))=some (some (.agg #[.int .i64 0,.int .i64 0,.int .i64 0,.int .i64 0,.int .u8 0,.int .u8 0]),6,40):=by kernel_rfl
def iz6(l:List Int):List Value:=l.map (Value.int .i64)
def bz6(l:List Brk):List Value:=(l.map Brk.cs).flatten
def cpOf6:Value→Nat
 | .slice _ _ c=>c
 | _=>0
structure Hd10(W0 Y:World)(Tp T7 T8 b U X xi nb bg boff cb k kh:Nat)(v hv u pv tab:Value)(bx:Array Value)(xs hs:List Value)(L:Nat→Bool)(us:Nat→Value)(w:World):Prop where
 x:Ext W0 w
 g0:KeepsOthers Y w
 g1:Blk w Tp 67 #[pv]
 g2:Blk w T8 28 #[tab,hv]
 g3:w.ownsRow U 3 1 hv kh hs
 g4:Blk w b 64 #[u]
 g5:L 11=false→w.ownsRow U 126 6 v k xs
 g6:L 11=true→w.ownsRow U 126 6 (us 11) (k+1) (xs++bx.toList)
 g7:L 13=false→Blk w T7 25 #[v]
 g8:L 13=true→Blk w T7 25 #[us 11]
 g9:L 10=true→L 11=false→Blk w (bk (us 10)) 126 bx
 f0:L 0=true→us 0 = .pointer (some ⟨T7,0,none⟩)
 f1:L 1=true→us 1=v
 f2:L 2=true→us 2 = .pointer (some ⟨X,0,none⟩)
 f3:L 3=true→us 3 = .pointer (some ⟨X,0,none⟩)
 f4:L 4=true→us 4 = .pointer (some ⟨X,1,none⟩)
 f5:L 5=true→us 5 = .pointer (some ⟨X,1,none⟩)
 f6:L 6=true→us 6 = .slice (some ⟨bg,boff,none⟩) nb cb
 f7:L 7=true→us 7 = .int .i64 xi
 f8:L 8=true→us 8 = .pointer (some ⟨bg,boff+xi*6,none⟩)
 f9:L 9=true→us 9 = .agg bx
 f10:L 10=true→us 10 = .slice (some ⟨bk (us 10),0,none⟩) 1 1
 f11:L 11=true→us 11 = .slice (some ⟨bk (us 11),0,none⟩) (k+1) (cpOf6 (us 11))
 f12:L 12=true→us 12 = .pointer (some ⟨T7,0,none⟩)
def HoldsPost(m:MB)(p:PlV)(z:Nat)(w:World)(e:Ending)(w':World):Prop:=e = .returned (.bool (holdB m.ks m.bs m.tab m.hands z))∧(∃hm,PlanAt w' m p hm)∧Only (fun k=>k=p.H) w w'
theorem keeps_own{w w':World}{b:Nat}{e:TypeId}{sz:Nat}{v:Value}{n:Nat}{xs:List Value}(own:w.ownsRow b e sz v n xs)(hg:w.grownBy w' v.ownBlock):KeepsOthers w w':=KeepsOthers.of_grownBy hg fun j o ej hj=>by
 rcases own.2 with⟨rfl,_⟩|⟨g,cap,cur,rfl,_,hgb,_⟩
 ·simp[Value.ownBlock] at ej
 ·obtain rfl:g=j:=by simpa [Value.ownBlock] using ej
  rw[hgb] at hj;cases hj;rfl
theorem bz6_snoc(l:List Brk)(b:Brk):bz6 (l ++ [b])=bz6 l++b.cs:=by simp[bz6]
def FallV(w:World)(ks:List Knd)(bs:List Brk)(tab:Int)(hands:List Int)(v:Value):Prop:= ∃A cap l,v = .tuple #[.slice A l.length cap,.int .i64 0]∧IntsZ w A cap l∧FallOf ks bs tab hands l
def FallS(w:World)(ks:List Knd)(bs:List Brk)(tab:Int)(hands:List Int)(v:Value):Prop:= ∃A cap l,v = .slice A l.length cap∧IntsZ w A cap l∧FallOf ks bs tab hands l
theorem FallV.ext{w w':World}{ks:List Knd}{bs:List Brk}{tab:Int}{hands:List Int}{v:Value}(h:FallV w ks bs tab hands v)(E:Ext w w'):FallV w' ks bs tab hands v:=by
 obtain⟨A,cap,l,h1,h2,h3⟩:=h;exact⟨A,cap,l,h1,h2.ext E,h3⟩
theorem FallS.ext{w w':World}{ks:List Knd}{bs:List Brk}{tab:Int}{hands:List Int}{v:Value}(h:FallS w ks bs tab hands v)(E:Ext w w'):FallS w' ks bs tab hands v:=by
 obtain⟨A,cap,l,h1,h2,h3⟩:=h;exact⟨A,cap,l,h1,h2.ext E,h3⟩
def FallPost0(ks:List Knd)(bs:List Brk)(tab:Int)(hands:List Int)(w:World)(e:Ending)(w':World):Prop:= ∃A cap l,e = .returned (.tuple #[.slice A l.length cap,.int .i64 0])∧IntsZ w' A cap l∧FallOf ks bs tab hands l∧Ext w w'
structure Hd11(W0:World)(X:Nat)(Q mv rv:Value)(ks:List Knd)(bs:List Brk)(tab:Int)(hands:List Int)(L:Nat→Bool)(us:Nat→Value)(w:World):Prop where
 x:Ext W0 w
 f0:L 0=true→us 0 = .pointer (some ⟨X,0,none⟩)
 f1:L 1=true→us 1 = .pointer (some ⟨X,0,none⟩)
 f2:L 2=true→us 2 = .pointer (some ⟨X,0,none⟩)
 f3:L 3=true→us 3=Q
 f4:L 4=true→us 4=mv
 f5:L 5=true→us 5=rv
 f6:L 6=true→FallV w ks bs tab hands (us 6)
 f7:L 7=true→FallV w ks bs tab hands (us 7)
 f8:L 8=true→FallS w ks bs tab hands (us 8)
 f9:L 9=true→us 9 = .int .i64 0
 f10:L 10=true→FallS w ks bs tab hands (us 10)
 f11:L 11=true→us 11 = .int .i64 0
structure HdI(m:MB)(p:PlV)(z:Nat)(w0:World)(Tp T7 T8 U k:Nat)(w:World):Prop where
 e:Ext w0 w
 bp:Blk w Tp 67 #[.pointer (some ⟨p.X,0,none⟩)]
 r: ∃v hv,Blk w T7 25 #[v]∧Blk w T8 28 #[.int .i64 m.tab,hv]∧w.ownsRow U 126 6 v k (bz6 (partQ m.bs z k))∧w.ownsRow U 3 1 hv (handQ m.hands z k).length (iz6 (handQ m.hands z k))
theorem holds6_c(m:MB)(p:PlV)(hm:List (Int×Bool))(z:Nat)(w:World)(hp:PlanAt w m p hm)(hM:MBAt w m)(h0:restErr m.ks m.bs m.tab m.hands=0)(hz:SetB m.bs.length z)(hT:Tz6Tab w) :
  Calls Tryz.prog 29 #[.pointer (some ⟨p.X,0,none⟩),.int .u64 z] w (HoldsPost m p z w):=by
 have hcm:=(restErr_zero h0).1;have hnb:=(hM.fit hcm).n;have hz64:z<2 ^ 64:=(hz.mono (show m.bs.length≤64 by omega)).lt;refine(callsIn_wide (n:=5)).1 ?_;refine callsIn_of_wp_marks Tryz.func29 rfl trivial ?_ rfl;simp only[Tryz.ntmps29,List.size_toArray,List.length_cons,List.length_nil,Nat.reduceAdd,Nat.reduceSub,Array.replicate_succ,Array.replicate_zero,List.push_toArray,List.append_toArray,List.nil_append,List.cons_append];refine wpIn_wide.2 ?_;obtain⟨W1,hW1,E1,B1,hz1⟩:=mk_ w #[.pointer (some ⟨p.X,0,none⟩)] 67;obtain⟨Tp,hTp⟩:=nm w.heap.size;rw[hTp] at B1 hz1;have HP1:=h_ (hp.ext E1);have hx:=HP1.out.x.cell;have b1:=B1.cell;obtain⟨v,hv⟩:=nm (getK hm (z:Int));have lk:(Instr.lookup 104 (.map (some p.H)) (.int .u64 (z:Int)) true).run Tryz.prog W1 = .ok (.tuple #[.bool (v.getD false),.bool v.isSome]) W1:=by
  have:=lookup6_run Tryz.underlying104 (z:= .bool false) (by kernel_rfl) HP1.out.h (z:Int) true;rw[hv] at this;rw[show Value.int .u64 (z:Int)=enc6 (z:Int) from rfl,this];cases v <;> rfl
 have HTp:=h_ hTp;cases v with
 | some b =>
  have Hb:=h_ (hp.hk z b hv);have HE1:=h_ E1;simp only[Option.getD_some,Option.isSome_some] at lk;clear hp hM h0 hz hT hcm hnb hv hz1 E1 hTp
  go_upto_region 1 with(fail)
  rw[HTp.out];go_wp2_with fail;exact⟨.bool b,by simp[results,Tryz.results29,go_sem],by rw[Hb.out],⟨hm,HP1.out⟩,Only.of_ext _ HE1.out⟩
 | none =>
  simp only[Option.getD_none,Option.isSome_none] at lk;obtain⟨W2,hW2,E2,B2,hz2⟩:=mk_ W1 #[.slice none 0 0] 25;obtain⟨W3,hW3,E3,B3,hz3⟩:=mk_ W2 #[.int .i64 m.tab,.slice none 0 0] 28;rw[hz1] at B2 hz2;rw[hz2] at B3 hz3;have b12:=(B1.ext E2).cell;have hx2:=(HP1.out.ext E2).x.cell;have HW2:=h_ hW2;have HW3:=h_ hW3;have Hz1:=h_ hz1;have Hz2:=h_ hz2;clear hW2 hW3
  go_upto_region 4 with(fail)
  clear lk hx b1 hW1
  go_upto_region 5 with(fail)
  rw[HW2.out]
  go_upto_region 6 with(fail)
  rw[HW3.out];clear b12 hx2;go_wp2_with fail;refine(all6_c z W3).mono ?_;rintro e W4 ⟨rfl,E4,B4,hz4⟩;rw[hz3] at B4 hz4;have E14:=((E1.trans E2).trans E3).trans E4;have BP:=((B1.ext E2).ext E3).ext E4;have B74:=(B2.ext E3).ext E4;have B84:=B3.ext E4;have Hz3:=h_ hz3;clear B1 B2 B3 E1 E2 E3 E4;go_wp2_with fail;have hE04:Ext w W4:=E14;have HM:=h_ hM;have HZ:=h_ hz;have Hh0:=h_ h0;have Hnb:=h_ hnb;have HT:=h_ hT;have HP:=h_ hp;have HP4:=h_ hz4;have hTw:w.heap.size=Tp:=HTp.out;clear hp hM h0 hz hT hcm hnb hv hz1 hz2 hz3 hTp HP1 E14;refine(wpIn_wide (n:=5)).1 ?_;refine wpIn_range_boxU (by omega) (gf:=86) (lb:= #[.pointer (some ⟨Tp+1+1+1,0,none⟩)]) rfl (enters_of Tryz.func86 (by kernel_rfl) rfl)
   (all61_c z hz64 _ (Tp+1+1+1) (by omega)) B4 (fun _=>rfl)
   (fun pre Y=>HdI m p z w Tp (Tp+1) (Tp+1+1) (Tp+1+1+1+1) pre.length Y)
   ⟨fun pre X Y h E=>by
     obtain⟨h1,h2,v,hv,h3,h4,h5,h6⟩:=h;exact⟨h1.trans E,h2.ext E,v,hv,h3.ext E,h4.ext E,own_ext h5 E,own_ext h6 E⟩,
    fun pre X u h=>by
     obtain⟨h1,h2,v,hv,h3,h4,h5,h6⟩:=h;exact⟨h1.setCell (by show w.heap.size≤Tp+1+1+1;omega) u,h2.far (by show Tp≠Tp+1+1+1;omega) u,v,hv,h3.far (by show Tp+1≠Tp+1+1+1;omega) u,h4.far (by show Tp+1+1≠Tp+1+1+1;omega) u,own_setCell h5 (by show Tp+1+1+1<Tp+1+1+1+1;omega) u,own_setCell h6 (by show Tp+1+1+1<Tp+1+1+1+1;omega) u⟩,
    fun pre X h=>HT.out.ext h.e⟩
   (fun pre X l o o' h hl ho hc=>by
     obtain⟨h1,h2,v,hv,h3,h4,h5,h6⟩:=h
     exact⟨Ext.grown h1 (grownBy_putObj' X l o') (fun k e=>by cases e;have:=HP4.out;omega),blk_put6 h2 ho hc o',v,hv,blk_put6 h3 ho hc o',blk_put6 h4 ho hc o',ownsRow_putObj h5 o' ho hc,ownsRow_putObj h6 o' ho hc⟩)
   ⟨hE04,BP,_,_,B74,B84,World.ownsRow_nil _ _ _ _,World.ownsRow_nil _ _ _ _⟩
   (fun x ts=>(ts.setIfInBounds 31 (.int .i64 (x:Int))).setIfInBounds 9 (.int .i64 (x:Int))) ?assign ?body ?done
  case assign =>
   rintro l' x X K hK;dsimp only[encB6]
   gi_wp2
   exact hK
  case body =>
   rintro l' pre x Y u hl ⟨hE,BPY,v,hv,B7,B8,own,oh⟩ hbx hpre;have hql:=hpre.length_le;rw[List.length_append,List.length_singleton] at hql;obtain⟨q,hq⟩:=nm pre.length;rw[hq] at own oh hql;have hxq:(setL z)[q]? = some x:=by
    obtain⟨tl,ht⟩:=hpre;rw[←ht,←hq];simp
   have Hxm:=h_ (memA_eq hxq);have Hq:=h_ hq;have Hql:=h_ (show q<(setL z).length by omega);have hxn:x<m.bs.length:=HZ.out x (mem_setL.1 (List.mem_of_getElem? hxq)).2;have hq40:q≤64:=by have:=setL_len z;omega
   have HMY:=h_ (HM.out.ext hE);obtain⟨VA,vc,rfl⟩:=ownForm own;obtain⟨bg,boff,hBA⟩:=bricks_addr HM.out.b (by omega);have HBc0:=h_ (fun(W:World) (E:Ext w W)=>bricks_cell ((HM.out.ext E).b) hxn hBA);have CZ:=contZ_c m.HA m.hc m.hands x Y HMY.out.h;have HPx0:=h_ HP.out.x;obtain⟨⟨kd,⟨x1,x2,x3⟩,tn,cl⟩,hbk⟩:=nm (brkAt m.bs x);rw[hbk] at HBc0;have Hbk:=h_ hbk;obtain⟨nb,hnbe⟩:=nm m.bs.length;rw[hBA,hnbe] at HPx0;rw[hnbe] at hxn;have HPx:=HPx0;have HBc:=HBc0;have hx:=(HPx.out.ext hE).cell;have bp:=BPY.cell;have x0:(0:Int)≤x:=by omega
   have xn:(x:Int)<nb:=by omega
   obtain⟨r,hr⟩:=nm (hasZ m.hands (x:Int));rw[hr] at CZ;have hsn:=handQ_succ m.hands z q;rw[Hxm.out,hr] at hsn;obtain⟨i9,hi9,hz9,hz91,hz92⟩:=info_parts infoBrk6;obtain⟨i8,hi8,hz8,hz81,hz82⟩:=info_parts infoI6;clear hxq hbk hnbe hr hpre hq HBc0 HPx0 hBA;gi_wp2_with fail;refine⟨trivial,?_⟩;gi_at_call 65;refine(CallsIn.inRound l' (callsIn_wide.2 CZ)).mono ?_;rintro e Y1 ⟨rfl,E1⟩;have hE1:=hE.trans E1;have BP1:=BPY.ext E1;have B71:=B7.ext E1;have B81:=B8.ext E1;have own1:=own_ext own E1;have oh1:=own_ext oh E1;have hb1:=hbx.ext E1;have KO1:=ext_keeps E1;clear BPY B7 B8 own oh hbx E1 CZ hx bp hE;cases r
   ·have Hh:=h_ (show handQ m.hands z (q+1)=handQ m.hands z q by rw[hsn];exact List.append_nil _);clear hsn;gi_wp2_with fail;have HKO:=h_ KO1;have HBP:=h_ BP1;have HB7:=h_ B71;have HB8:=h_ B81;have Hown:=h_ own1;have Hoh:=h_ oh1;have Hbx:=h_ hb1;clear BP1 B71 B81 own1 oh1 hb1;refine wpIn_region_by (Hd10 w Y Tp (Tp+1) (Tp+1+1) (Tp+1+1+1) (Tp+1+1+1+1) p.X x nb bg boff m.cb q (handQ m.hands z q).length (.slice VA q vc) hv u (.pointer (some ⟨p.X,0,none⟩)) (.int .i64 m.tab) #[.int .i64 kd,.int .i64 x1,.int .i64 x2,.int .i64 x3,.int .u8 tn,.int .u8 cl] (bz6 (partQ m.bs z q)) (iz6 (handQ m.hands z q))) (by kernel_rfl) (by kernel_rfl) (by kernel_rfl) (fun us=>⟨hE1.drew,HKO.out.trans (ext_keeps (Ext.refl _).drew),HBP.out.ext (Ext.refl _).drew,HB8.out.ext (Ext.refl _).drew,own_ext Hoh.out (Ext.refl _).drew,Hbx.out.ext (Ext.refl _).drew,(fun _=>own_ext Hown.out (Ext.refl _).drew),(nofun),(fun _=>HB7.out.ext (Ext.refl _).drew),(nofun),(nofun),(nofun),(nofun),(nofun),(nofun),(nofun),(nofun),(nofun),(nofun),(nofun),(nofun),(nofun),(nofun),(nofun)⟩) ⟨?_,?_,?_,?_,?_,?_,?_,?_,?_,?_,?_,?_,?_,?_,trivial⟩ ?_
    any_goals (intro L us wx K a ha hp hd hun hI hK;replace hp:=h_ hp;replace hd:=h_ hd;simp only[putAll,Act.put,zs,Nat.reduceAdd] at ha;subst ha;simp only[Act.put,zs] at hK)
    ·go_simp;exact hK _ _ {hI with f0:=fun _=>rfl}
    ·have bb:=(hI.g7 (bfl (hd.out 13 1 · (by kernel_rfl)) hun)).cell;rw[hI.f0 (h_p hp 0)] at hK ⊢;go_simp;exact hK _ _ {hI with f1:=fun _=>rfl}
    ·have bb:=hI.g1.cell;go_simp;exact hK _ _ {hI with f2:=fun _=>rfl}
    ·rw[hI.f2 (h_p hp 2)] at hK ⊢;go_simp;exact hK _ _ {hI with f3:=fun _=>rfl}
    ·rw[hI.f3 (h_p hp 3)] at hK ⊢;go_simp;exact hK _ _ {hI with f4:=fun _=>rfl}
    ·rw[hI.f4 (h_p hp 4)] at hK ⊢;go_simp;exact hK _ _ {hI with f5:=fun _=>rfl}
    ·have bb:=(HPx.out.ext hI.x).cell;rw[hI.f5 (h_p hp 5)] at hK ⊢;go_simp;exact hK _ _ {hI with f6:=fun _=>rfl}
    ·go_simp;exact hK _ _ {hI with f7:=fun _=>rfl}
    ·rw[hI.f6 (h_p hp 6),hI.f7 (h_p hp 7)] at hK ⊢;go_simp;exact hK _ _ {hI with f8:=fun _=>rfl}
    ·obtain⟨d0,d1,d2,d3,d4,d5⟩:=HBc.out wx hI.x;rw[hI.f8 (h_p hp 8)] at hK ⊢;go_simp;exact hK _ _ {hI with f9:=fun _=>rfl}
    ·have EW:Ext wx (wx.alloc (.cells #[.int .i64 kd,.int .i64 x1,.int .i64 x2,.int .i64 x3,.int .u8 tn,.int .u8 cl] 126)):=(Ext.refl wx).alloc _;rw[hI.f9 (h_p hp 9)] at hK ⊢;go_simp;exact hK _ _ ⟨hI.x.trans EW,hI.g0.trans (KeepsOthers.alloc _ _),hI.g1.ext EW,hI.g2.ext EW,own_ext hI.g3 EW,hI.g4.ext EW,(fun h=>own_ext (hI.g5 h) EW),(fun h=>own_ext (hI.g6 h) EW),(fun h=>(hI.g7 h).ext EW),(fun h=>(hI.g8 h).ext EW),(fun _ _=>Blk.new _ _ _),hI.f0,hI.f1,hI.f2,hI.f3,hI.f4,hI.f5,hI.f6,hI.f7,hI.f8,hI.f9,(fun _=>rfl),hI.f11,hI.f12⟩
    ·have h10:=h_p hp 10;have u10:=hI.f10 h10;have own:=hI.g5 hun;have hb10:=hI.g9 h10 hun;have h13:L 13=false:=bfl (hd.out 13 11 · (by kernel_rfl)) hun;have hUx:Tp+1+1+1+1≤wx.heap.size:=by have:=hI.g4.lt;omega
     obtain⟨g10,hg10⟩:=nm (bk (us 10));rw[hg10] at u10 hb10;rw[hI.f1 (h_p hp 1),u10] at hK ⊢;refine stepIn_append wx rfl (.tmp 48) (.tmp 57) 23 rfl (Tp+1+1+1+1) 126 i9 _ 6 40 Tryz.underlying23 hi9 hz9 hz91 hz92 rfl (by decide) (.slice VA q vc) q (bz6 (partQ m.bs z q)) rfl own g10 1 1 #[.int .i64 kd,.int .i64 x1,.int .i64 x2,.int .i64 x3,.int .u8 tn,.int .u8 cl] 126 rfl hb10 rfl (fun v hv=>by simp only[List.mem_cons,List.not_mem_nil,or_false] at hv;rcases hv with rfl|rfl|rfl|rfl|rfl|rfl <;> rfl) (by unfold maxLen;omega) (by omega) hUx ?_;intro v' w' own' hg';obtain⟨g11,c11,rfl⟩:=own_form own' (by omega);exact hK _ _ ⟨hI.x.grown hg' (fun k hk=>by have:=(own.lt k hk).1;omega),hI.g0.trans (keeps_own own hg'),blkGrown hI.g1 own hg' (by decide),blkGrown hI.g2 own hg' (by decide),ownGrown hI.g3 hg' (ownApart hI.g3 own (by decide)),blkGrown hI.g4 own hg' (by decide),(fun h=>nomatch (show true=false from h)),(fun _=>own'),(fun h=>blkGrown (hI.g7 h) own hg' (by decide)),(fun h=>absurd (show L 13=true from h) (by rw[h13];decide)),(fun _ h=>nomatch (show true=false from h)),hI.f0,hI.f1,hI.f2,hI.f3,hI.f4,hI.f5,hI.f6,hI.f7,hI.f8,hI.f9,hI.f10,(fun _=>rfl),hI.f12⟩
    ·go_simp;exact hK _ _ {hI with f12:=fun _=>rfl}
    ·have h11:=h_p hp 11;have u11:=hI.f11 h11;have u12:=hI.f12 (h_p hp 12);have own:=hI.g6 h11;have B7:=hI.g7 hun;obtain⟨g11,hg11⟩:=nm (bk (us 11));obtain⟨c11,hc11⟩:=nm (cpOf6 (us 11));rw[hg11,hc11] at u11;have bb:=B7.cell;have fb:=B7.frozen;have BV:Blk (wx.setCell ⟨Tp+1,0,none⟩ (.slice (some ⟨g11,0,none⟩) (q+1) c11)) (Tp+1) 25 #[us 11]:=by
      rw[u11];exact B7.set_ 0 _
     rw[u11,u12] at hK ⊢;clear hg11 hc11 u11 u12;go_simp;exact hK undef _ ⟨hI.x.setCell (p:=⟨Tp+1,0,none⟩) (by show w.heap.size≤Tp+1;omega) _,hI.g0.trans (KeepsOthers.setCell _ _ _),hI.g1.far (p:=⟨Tp+1,0,none⟩) (by show Tp≠Tp+1;omega) _,hI.g2.far (p:=⟨Tp+1,0,none⟩) (by show Tp+1+1≠Tp+1;omega) _,own_setCell hI.g3 (p:=⟨Tp+1,0,none⟩) (by show Tp+1<Tp+1+1+1+1;omega) _,hI.g4.far (p:=⟨Tp+1,0,none⟩) (by show Tp+1+1+1≠Tp+1;omega) _,(fun h=>absurd (show L 11=false from h) (by rw[h11];decide)),(fun _=>own_setCell own (p:=⟨Tp+1,0,none⟩) (by show Tp+1<Tp+1+1+1+1;omega) _),(fun h=>nomatch (show true=false from h)),(fun _=>BV),(fun _ h=>absurd (show L 11=false from h) (by rw[h11];decide)),hI.f0,hI.f1,hI.f2,hI.f3,hI.f4,hI.f5,hI.f6,hI.f7,hI.f8,hI.f9,hI.f10,hI.f11,hI.f12⟩
    intro L us Y2 hall hI;have own2:=hI.g6 (hall 11 (by simp));have B72:=hI.g8 (hall 13 (by simp));have hnx:bz6 (partQ m.bs z q) ++ [.int .i64 kd,.int .i64 x1,.int .i64 x2,.int .i64 x3,.int .u8 tn,.int .u8 cl]=bz6 (partQ m.bs z (q+1)):=by
     rw[partQ_succ m.bs Hql.out,Hxm.out,bz6_snoc,Hbk.out];rfl
    rw[hnx] at own2;have HF:=h_ (show KeepsFrom W4.heap.size Y Y2∧HdI m p z w Tp (Tp+1) (Tp+1+1) (Tp+1+1+1+1) (q+1) Y2∧Blk Y2 (Tp+1+1+1) 64 #[u] from⟨hI.g0.from _,⟨hI.x,hI.g1,_,_,B72,hI.g2,own2,by rw[Hh.out];exact hI.g3⟩,hI.g4⟩);clear hall hI own2 B72 hnx;simp only[putAll,Act.put,zs,Nat.reduceAdd];gi_wp2_with fail;rw[List.length_append,List.length_singleton,Hq.out];exact HF.out
   ·have Hh:=h_ (show handQ m.hands z (q+1)=handQ m.hands z q ++ [(q:Int)] by rw[hsn];rfl);obtain⟨hl,hhl⟩:=nm (handQ m.hands z q);have hlq:=handQ_len m.hands z q;rw[hhl] at oh1 Hh hlq;obtain⟨nh,hnh⟩:=nm hl.length;rw[hnh] at oh1 hlq;have Hnh:=h_ hnh;have c7:=B71.cell;have c8:=B81.cell;have hUx:Tp+1+1+1+1≤Y1.heap.size:=by have:=hb1.lt;omega
    clear hsn hhl hnh;gi_wp2_with (gi_at_builtin;refine wpListIn_append_own _ rfl (.tmp 40) (.tmp 44) 26 rfl (Tp+1+1+1+1) 3 i8 _ 1 8 Tryz.underlying26 hi8 hz8 hz81 hz82 rfl (by decide) hv _ _ rfl (own_ext oh1 ((Ext.refl _).alloc _)) _ 1 1 [.int .i64 (q:Int)] rfl rfl ?nc (by simp[Value.oneCell']) (by unfold maxLen;omega) (by omega) (by simp;omega) ?_)
    case nc=>exact cell_one_new Y1 (.int .i64 (q:Int)) 3
    intro v' w' own2 hg2 _;have EA:Ext Y1 (Y1.alloc (.cells #[.int .i64 (q:Int)] 3)):=(Ext.refl Y1).alloc _;have ohA:=own_ext oh1 EA;obtain⟨g',cap',rfl⟩:=ownsRow_succ own2;have B82:=blkGrown (B81.ext EA) ohA hg2 (by decide);have c82:=B82.cell;have f82:=B82.frozen;obtain⟨V,hV⟩:=nm (w'.setCell ⟨Tp+1+1,1,none⟩ (.slice (some ⟨g',0,none⟩) (nh+1) cap'));have B8V:Blk V (Tp+1+1) 28 #[.int .i64 m.tab,.slice (some ⟨g',0,none⟩) (nh+1) cap']:=hV▸B82.set_ 1 _;have BPV:=hV▸(blkGrown (BP1.ext EA) ohA hg2 (by decide)).far (p:=⟨Tp+1+1,1,none⟩) (by show Tp≠Tp+1+1;omega) (.slice (some ⟨g',0,none⟩) (nh+1) cap');have B7V:=hV▸(blkGrown (B71.ext EA) ohA hg2 (by decide)).far (p:=⟨Tp+1+1,1,none⟩) (by show Tp+1≠Tp+1+1;omega) (.slice (some ⟨g',0,none⟩) (nh+1) cap');have hbV:=hV▸(blkGrown (hb1.ext EA) ohA hg2 (by decide)).far (p:=⟨Tp+1+1,1,none⟩) (by show Tp+1+1+1≠Tp+1+1;omega) (.slice (some ⟨g',0,none⟩) (nh+1) cap');have ownV:=hV▸own_setCell (ownGrown (own_ext own1 EA) hg2 (ownApart (own_ext own1 EA) ohA (by decide))) (p:=⟨Tp+1+1,1,none⟩) (by show Tp+1+1<Tp+1+1+1+1;omega) (.slice (some ⟨g',0,none⟩) (nh+1) cap');have ohV:=hV▸own_setCell own2 (p:=⟨Tp+1+1,1,none⟩) (by show Tp+1+1<Tp+1+1+1+1;omega) (.slice (some ⟨g',0,none⟩) (nh+1) cap');have hEV:=hV▸((hE1.trans EA).grown hg2 (fun k hk=>by have:=(ohA.lt k hk).1;omega)).setCell (p:=⟨Tp+1+1,1,none⟩) (by show w.heap.size≤Tp+1+1;omega) (.slice (some ⟨g',0,none⟩) (nh+1) cap');have KOV:=hV▸((KO1.trans (ext_keeps EA)).trans (keeps_own ohA hg2)).trans (KeepsOthers.setCell _ ⟨Tp+1+1,1,none⟩ (.slice (some ⟨g',0,none⟩) (nh+1) cap'));have Hh2:=h_ (show handQ m.hands z (q+1)=hl ++ [(q:Int)] from Hh.out);have ohW:V.ownsRow (Tp+1+1+1+1) 3 1 (.slice (some ⟨g',0,none⟩) (nh+1) cap') (hl ++ [(q:Int)]).length (iz6 (hl ++ [(q:Int)])):=by
     rw[List.length_append,List.length_singleton,Hnh.out];unfold iz6;rw[List.map_append];exact ohV
    clear Hh c7 c8 EA B81 B82 hg2 own2 ohA BP1 B71 hb1 own1 oh1 hE1 KO1 ohV;gi_wp2_with fail;clear c82 f82 hV;have HKO:=h_ KOV;have HBP:=h_ BPV;have HB7:=h_ B7V;have HB8:=h_ B8V;have Hown:=h_ ownV;have Hoh:=h_ ohW;have Hbx:=h_ hbV;clear BPV B7V B8V ownV ohW hbV;refine wpIn_region_by (Hd10 w Y Tp (Tp+1) (Tp+1+1) (Tp+1+1+1) (Tp+1+1+1+1) p.X x nb bg boff m.cb q (hl ++ [(q:Int)]).length (.slice VA q vc) (.slice (some ⟨g',0,none⟩) (nh+1) cap') u (.pointer (some ⟨p.X,0,none⟩)) (.int .i64 m.tab) #[.int .i64 kd,.int .i64 x1,.int .i64 x2,.int .i64 x3,.int .u8 tn,.int .u8 cl] (bz6 (partQ m.bs z q)) (iz6 (hl ++ [(q:Int)]))) (by kernel_rfl) (by kernel_rfl) (by kernel_rfl) (fun us=>⟨hEV.drew,HKO.out.trans (ext_keeps (Ext.refl _).drew),HBP.out.ext (Ext.refl _).drew,HB8.out.ext (Ext.refl _).drew,own_ext Hoh.out (Ext.refl _).drew,Hbx.out.ext (Ext.refl _).drew,(fun _=>own_ext Hown.out (Ext.refl _).drew),(nofun),(fun _=>HB7.out.ext (Ext.refl _).drew),(nofun),(nofun),(nofun),(nofun),(nofun),(nofun),(nofun),(nofun),(nofun),(nofun),(nofun),(nofun),(nofun),(nofun),(nofun)⟩) ⟨?_,?_,?_,?_,?_,?_,?_,?_,?_,?_,?_,?_,?_,?_,trivial⟩ ?_
    any_goals (intro L us wx K a ha hp hd hun hI hK;replace hp:=h_ hp;replace hd:=h_ hd;simp only[putAll,Act.put,zs,Nat.reduceAdd] at ha;subst ha;simp only[Act.put,zs] at hK)
    ·go_simp;exact hK _ _ {hI with f0:=fun _=>rfl}
    ·have bb:=(hI.g7 (bfl (hd.out 13 1 · (by kernel_rfl)) hun)).cell;rw[hI.f0 (h_p hp 0)] at hK ⊢;go_simp;exact hK _ _ {hI with f1:=fun _=>rfl}
    ·have bb:=hI.g1.cell;go_simp;exact hK _ _ {hI with f2:=fun _=>rfl}
    ·rw[hI.f2 (h_p hp 2)] at hK ⊢;go_simp;exact hK _ _ {hI with f3:=fun _=>rfl}
    ·rw[hI.f3 (h_p hp 3)] at hK ⊢;go_simp;exact hK _ _ {hI with f4:=fun _=>rfl}
    ·rw[hI.f4 (h_p hp 4)] at hK ⊢;go_simp;exact hK _ _ {hI with f5:=fun _=>rfl}
    ·have bb:=(HPx.out.ext hI.x).cell;rw[hI.f5 (h_p hp 5)] at hK ⊢;go_simp;exact hK _ _ {hI with f6:=fun _=>rfl}
    ·go_simp;exact hK _ _ {hI with f7:=fun _=>rfl}
    ·rw[hI.f6 (h_p hp 6),hI.f7 (h_p hp 7)] at hK ⊢;go_simp;exact hK _ _ {hI with f8:=fun _=>rfl}
    ·obtain⟨d0,d1,d2,d3,d4,d5⟩:=HBc.out wx hI.x;rw[hI.f8 (h_p hp 8)] at hK ⊢;go_simp;exact hK _ _ {hI with f9:=fun _=>rfl}
    ·have EW:Ext wx (wx.alloc (.cells #[.int .i64 kd,.int .i64 x1,.int .i64 x2,.int .i64 x3,.int .u8 tn,.int .u8 cl] 126)):=(Ext.refl wx).alloc _;rw[hI.f9 (h_p hp 9)] at hK ⊢;go_simp;exact hK _ _ ⟨hI.x.trans EW,hI.g0.trans (KeepsOthers.alloc _ _),hI.g1.ext EW,hI.g2.ext EW,own_ext hI.g3 EW,hI.g4.ext EW,(fun h=>own_ext (hI.g5 h) EW),(fun h=>own_ext (hI.g6 h) EW),(fun h=>(hI.g7 h).ext EW),(fun h=>(hI.g8 h).ext EW),(fun _ _=>Blk.new _ _ _),hI.f0,hI.f1,hI.f2,hI.f3,hI.f4,hI.f5,hI.f6,hI.f7,hI.f8,hI.f9,(fun _=>rfl),hI.f11,hI.f12⟩
    ·have h10:=h_p hp 10;have u10:=hI.f10 h10;have own:=hI.g5 hun;have hb10:=hI.g9 h10 hun;have h13:L 13=false:=bfl (hd.out 13 11 · (by kernel_rfl)) hun;have hUx:Tp+1+1+1+1≤wx.heap.size:=by have:=hI.g4.lt;omega
     obtain⟨g10,hg10⟩:=nm (bk (us 10));rw[hg10] at u10 hb10;rw[hI.f1 (h_p hp 1),u10] at hK ⊢;refine stepIn_append wx rfl (.tmp 48) (.tmp 57) 23 rfl (Tp+1+1+1+1) 126 i9 _ 6 40 Tryz.underlying23 hi9 hz9 hz91 hz92 rfl (by decide) (.slice VA q vc) q (bz6 (partQ m.bs z q)) rfl own g10 1 1 #[.int .i64 kd,.int .i64 x1,.int .i64 x2,.int .i64 x3,.int .u8 tn,.int .u8 cl] 126 rfl hb10 rfl (fun v hv=>by simp only[List.mem_cons,List.not_mem_nil,or_false] at hv;rcases hv with rfl|rfl|rfl|rfl|rfl|rfl <;> rfl) (by unfold maxLen;omega) (by omega) hUx ?_;intro v' w' own' hg';obtain⟨g11,c11,rfl⟩:=own_form own' (by omega);exact hK _ _ ⟨hI.x.grown hg' (fun k hk=>by have:=(own.lt k hk).1;omega),hI.g0.trans (keeps_own own hg'),blkGrown hI.g1 own hg' (by decide),blkGrown hI.g2 own hg' (by decide),ownGrown hI.g3 hg' (ownApart hI.g3 own (by decide)),blkGrown hI.g4 own hg' (by decide),(fun h=>nomatch (show true=false from h)),(fun _=>own'),(fun h=>blkGrown (hI.g7 h) own hg' (by decide)),(fun h=>absurd (show L 13=true from h) (by rw[h13];decide)),(fun _ h=>nomatch (show true=false from h)),hI.f0,hI.f1,hI.f2,hI.f3,hI.f4,hI.f5,hI.f6,hI.f7,hI.f8,hI.f9,hI.f10,(fun _=>rfl),hI.f12⟩
    ·go_simp;exact hK _ _ {hI with f12:=fun _=>rfl}
    ·have h11:=h_p hp 11;have u11:=hI.f11 h11;have u12:=hI.f12 (h_p hp 12);have own:=hI.g6 h11;have B7:=hI.g7 hun;obtain⟨g11,hg11⟩:=nm (bk (us 11));obtain⟨c11,hc11⟩:=nm (cpOf6 (us 11));rw[hg11,hc11] at u11;have bb:=B7.cell;have fb:=B7.frozen;have BV:Blk (wx.setCell ⟨Tp+1,0,none⟩ (.slice (some ⟨g11,0,none⟩) (q+1) c11)) (Tp+1) 25 #[us 11]:=by
      rw[u11];exact B7.set_ 0 _
     rw[u11,u12] at hK ⊢;clear hg11 hc11 u11 u12;go_simp;exact hK undef _ ⟨hI.x.setCell (p:=⟨Tp+1,0,none⟩) (by show w.heap.size≤Tp+1;omega) _,hI.g0.trans (KeepsOthers.setCell _ _ _),hI.g1.far (p:=⟨Tp+1,0,none⟩) (by show Tp≠Tp+1;omega) _,hI.g2.far (p:=⟨Tp+1,0,none⟩) (by show Tp+1+1≠Tp+1;omega) _,own_setCell hI.g3 (p:=⟨Tp+1,0,none⟩) (by show Tp+1<Tp+1+1+1+1;omega) _,hI.g4.far (p:=⟨Tp+1,0,none⟩) (by show Tp+1+1+1≠Tp+1;omega) _,(fun h=>absurd (show L 11=false from h) (by rw[h11];decide)),(fun _=>own_setCell own (p:=⟨Tp+1,0,none⟩) (by show Tp+1<Tp+1+1+1+1;omega) _),(fun h=>nomatch (show true=false from h)),(fun _=>BV),(fun _ h=>absurd (show L 11=false from h) (by rw[h11];decide)),hI.f0,hI.f1,hI.f2,hI.f3,hI.f4,hI.f5,hI.f6,hI.f7,hI.f8,hI.f9,hI.f10,hI.f11,hI.f12⟩
    intro L us Y2 hall hI;have own2:=hI.g6 (hall 11 (by simp));have B72:=hI.g8 (hall 13 (by simp));have hnx:bz6 (partQ m.bs z q) ++ [.int .i64 kd,.int .i64 x1,.int .i64 x2,.int .i64 x3,.int .u8 tn,.int .u8 cl]=bz6 (partQ m.bs z (q+1)):=by
     rw[partQ_succ m.bs Hql.out,Hxm.out,bz6_snoc,Hbk.out];rfl
    rw[hnx] at own2;have HF:=h_ (show KeepsFrom W4.heap.size Y Y2∧HdI m p z w Tp (Tp+1) (Tp+1+1) (Tp+1+1+1+1) (q+1) Y2∧Blk Y2 (Tp+1+1+1) 64 #[u] from⟨hI.g0.from _,⟨hI.x,hI.g1,_,_,B72,hI.g2,own2,by rw[Hh2.out];exact hI.g3⟩,hI.g4⟩);clear hall hI own2 B72 hnx;simp only[putAll,Act.put,zs,Nat.reduceAdd];gi_wp2_with fail;rw[List.length_append,List.length_singleton,Hq.out];exact HF.out
  case done =>
   rintro D D0 hD ⟨hE,BPX,v,hv,B7,B8,own,oh⟩ hKd;have hr0:=rest_part HZ.out Hh0.out;have hbyte: ∀x∈partB m.bs z,x.byte:=fun x hx=>by
    obtain⟨i,hi,rfl⟩:=List.mem_map.1 hx;have hin:=HZ.out i (mem_setL.1 hi).2;rw[brkAt_eq (List.getElem?_eq_getElem hin)];exact HM.out.b.2 _ (List.getElem_mem hin)
   rw[partQ_all,←partB_len m.bs z] at own;obtain⟨VA,vc,rfl,BR⟩:=bricks_own6 own hbyte;obtain⟨UA,uc,rfl,IR⟩:=ints_own6 (l:=handP m.hands z) oh;have FC:=h_ (fun(W:World) (E:Ext D0 W)=>show Calls Tryz.prog 66 #[.slice m.QA m.qs.length m.qc,.agg #[.slice VA (partB m.bs z).length vc],.agg #[.int .i64 m.tab,.slice UA (handP m.hands z).length uc]] W (FallPost0 m.ks (partB m.bs z) m.tab (handP m.hands z) W) from
    (falling_c m.qs m.QA m.qc (partB m.bs z) VA vc m.tab UA uc (handP m.hands z) W ((HM.out.ext hE).ext E).k (BR.ext E) (IR.ext E)).mono fun e w' h=>by
     obtain⟨A,cap,l,h1,h2,h3,h4⟩:=h;rw[show restErr (m.qs.map (·.1)) (partB m.bs z) m.tab (handP m.hands z)=0 from hr0] at h1
     exact⟨A,cap,l,h1,h2,h3,h4⟩)
   obtain⟨pl,hpl⟩:=nm ((partB m.bs z).length);obtain⟨ph,hph⟩:=nm ((handP m.hands z).length);rw[hpl] at B7;rw[hph] at B8;rw[hpl,hph] at FC;have HBP:=h_ BPX;have HB7:=h_ B7;have HB8:=h_ B8;have HE:=h_ hE;have HKd:=h_ hKd;have HD:=h_ hD;clear BPX B7 B8 own oh hE hr0 hbyte BR IR hpl hph hKd hD
   go_upto_region 11 with(fail)
   refine wp_region_by (Hd11 D0 p.X (.slice m.QA m.qs.length m.qc) (.agg #[.slice VA pl vc]) (.agg #[.int .i64 m.tab,.slice UA ph uc]) m.ks (partB m.bs z) m.tab (handP m.hands z)) (by kernel_rfl) (by kernel_rfl) (by kernel_rfl) (fun us=>⟨(Ext.refl D0).drew,(nofun),(nofun),(nofun),(nofun),(nofun),(nofun),(nofun),(nofun),(nofun),(nofun),(nofun),(nofun)⟩) ⟨?_,?_,?_,?_,?_,?_,?_,?_,?_,?_,?_,?_,trivial⟩ ?_
   any_goals (intro L us wx K a ha hp hd hun hI hK;replace hp:=h_ hp;replace hd:=h_ hd;simp only[putAll,Act.put,zs,Nat.reduceAdd] at ha;subst ha;simp only[Act.put,zs] at hK)
   ·have bb:=(HBP.out.ext hI.x).cell;go_simp;exact hK _ _ {hI with f0:=fun _=>rfl}
   ·rw[hI.f0 (h_p hp 0)] at hK ⊢;go_simp;exact hK _ _ {hI with f1:=fun _=>rfl}
   ·rw[hI.f1 (h_p hp 1)] at hK ⊢;go_simp;exact hK _ _ {hI with f2:=fun _=>rfl}
   ·have bb:=(HP.out.x.ext (HE.out.trans hI.x)).cell;rw[hI.f2 (h_p hp 2)] at hK ⊢;go_simp;exact hK _ _ {hI with f3:=fun _=>rfl}
   ·have bb:=(HB7.out.ext hI.x).cell;go_simp;exact hK _ _ {hI with f4:=fun _=>rfl}
   ·have bb:=(HB8.out.ext hI.x).cell;go_simp;exact hK _ _ {hI with f5:=fun _=>rfl}
   ·have HFx:=FC.out wx hI.x;rw[hI.f3 (h_p hp 3),hI.f4 (h_p hp 4),hI.f5 (h_p hp 5)] at hK ⊢;go_simp;go_at_call 66;refine(HFx).mono ?_;rintro e wn ⟨A0,cp0,l0,rfl,hz0,hf0,En⟩;go_simp;refine hK _ _ ?_;refine {hI with x:=hI.x.trans En,f6:= ?_,f7:= ?_,f8:= ?_,f10:= ?_}<;>(first|exact fun h=>(hI.f6 h).ext En|exact fun h=>own_ext (hI.f6 h) En|exact fun h=>(hI.f7 h).ext En|exact fun h=>own_ext (hI.f7 h) En|exact fun h=>(hI.f8 h).ext En|exact fun h=>own_ext (hI.f8 h) En|exact fun h=>(hI.f10 h).ext En|exact fun h=>own_ext (hI.f10 h) En|exact fun _=>rfl|skip)
    all_goals exact fun _=>⟨A0,cp0,l0,rfl,hz0,hf0⟩
   ·obtain⟨A0,cp0,l0,u6,hz0,hf0⟩:=hI.f6 (h_p hp 6);rw[u6] at hK ⊢;clear u6;go_simp;exact hK _ _ {hI with f7:=fun _=>⟨A0,cp0,l0,rfl,hz0,hf0⟩}
   ·obtain⟨A0,cp0,l0,u6,hz0,hf0⟩:=hI.f7 (h_p hp 7);rw[u6] at hK ⊢;clear u6;go_simp;exact hK _ _ {hI with f8:=fun _=>⟨A0,cp0,l0,rfl,hz0,hf0⟩}
   ·obtain⟨A0,cp0,l0,u6,hz0,hf0⟩:=hI.f7 (h_p hp 7);rw[u6] at hK ⊢;clear u6;go_simp;exact hK _ _ {hI with f9:=fun _=>rfl}
   ·obtain⟨A0,cp0,l0,u6,hz0,hf0⟩:=hI.f8 (h_p hp 8);rw[u6] at hK ⊢;clear u6;go_simp;exact hK _ _ {hI with f10:=fun _=>⟨A0,cp0,l0,rfl,hz0,hf0⟩}
   ·rw[hI.f9 (h_p hp 9)] at hK ⊢;go_simp;exact hK _ _ {hI with f11:=fun _=>rfl}
   intro L us V hall hI;obtain⟨FA,fc,fl,u10,hZ,hF⟩:=hI.f10 (hall 10 (by simp));have u11:=hI.f11 (hall 11 (by simp));have hHv:=holdB_of hF;have HEV:=h_ (HE.out.trans hI.x);have HKV:=h_ ((ext_keeps hI.x).same _ _ HKd.out rfl);have HBV:=h_ (HBP.out.ext hI.x);have hlf:=hZ.len;simp only[putAll,Act.put,zs,Nat.reduceAdd,u10,u11];clear hall hI u10 u11 hF FC;obtain⟨nf,hnf⟩:=nm fl.length;rw[hnf] at hHv hlf;obtain⟨r,hr⟩:=nm (holdB m.ks m.bs m.tab m.hands z);have hq:((nf:Int)==0)=r:=by
    rw[←hr,hHv];by_cases h:nf=0
    ·simp[h]
    ·have:((nf:Int)==0)=false:=by simp;omega
     rw[this,decide_eq_false h]
   have Hr:=h_ hr;simp only[hnf];clear hZ hnf hHv hr;have hx:=(HP.out.x.ext HEV.out).cell;have bp:=HBV.out.cell;have MH:=HP.out.h.ext HEV.out;have HMH:=h_ MH
   go_upto_region 12 with(fail)
   go_upto_region 13 with(at_mapUpdate;refine wpList_put6 rfl _ _ _ 104 rfl 4 Tryz.underlying104 p.H hm (z:Int) r rfl MH rfl (by simp only[evB];rw[←hq];rfl) ?_;intro V6 M6 hg6 hz6;have bp6:=(HBV.out.grown hg6 (fun e=>HMH.out.blk_ne HBV.out (Option.some.inj e).symm)).cell;have hx6:=((HP.out.x.ext HEV.out).grown hg6 (fun e=>HMH.out.blk_ne (HP.out.x.ext HEV.out) (Option.some.inj e).symm)).cell;clear bp hx)
   simp only[Act.put];have lk6:(Instr.lookup 104 (.map (some p.H)) (.int .u64 (z:Int)) false).run Tryz.prog V6 = .ok (.bool r) V6:=by
    have:=lookup6_run Tryz.underlying104 (z:= .bool false) (by kernel_rfl) M6 (z:Int) false;rw[getK_putK,if_pos rfl] at this;exact this
   have hHw:=HP.out.h.lt;have hDs:=HD.out;have hsz4:=HP4.out;have O6:Only (fun k=>k=p.H) w V6:=(Only.of_ext _ HEV.out).grown hg6 (fun r hr _=>by cases hr;rfl);have hKd6:V6.heap[D]? = some (.deferred (some [])):=((Only.of_grown (K:=fun k=>k=p.H) hg6 (fun r hr=>by cases hr;rfl)).block D (Array.getElem?_eq_some_iff.1 HKV.out).1 (by omega)).trans HKV.out;have O7:Only (fun k=>k=p.H) w (V6.putObj D (.deferred none)):=O6.grown (grownBy_putObj' V6 D _) (fun r hr hlt=>by cases hr;omega);have M7:=M6.grown (grownBy_putObj' V6 D (.deferred none)) (fun e=>by have:=Option.some.inj e;omega);have HF:=h_ (show HoldsPost m p z w (.returned (.bool r)) (V6.putObj D (.deferred none)) from⟨by rw[Hr.out],⟨_,HP.out.only O7 M7 (fun y b hb=>by
    rw[getK_putK] at hb;by_cases e:(y:Int)=(z:Int)
    ·rw[if_pos e] at hb;have e2:y=z:=by omega
     rw[e2,Hr.out];exact(Option.some.inj hb).symm
    ·rw[if_neg e] at hb
     exact HP.out.hk y b hb)⟩,O7⟩)
   have HK6:=h_ hKd6;clear O6 O7 M7 M6 hg6 hz6 hKd6 hHw hDs hsz4 MH hq;go_wp2_with fail;refine⟨by simp,.inl ⟨_,_,rfl,run_takeDeferred HK6.out,?_⟩⟩;exact⟨.bool r,by simp[results,Tryz.results29,go_sem],HF.out⟩
end Go.Proofs.YtojolpbpjimfgaaGreatDoor
