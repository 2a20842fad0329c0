/- Texts of the proof: RPart, RWays6, Chosen6, Ways6, Tops6, RTops6. -/
import Derived.Test.YtojolpbpjimfgaaGreatDoorZy7
import Derived.Test.YtojolpbpjimfgaaGreatDoorZy25
import Derived.Test.YtojolpbpjimfgaaGreatDoorZy26
import Derived.Test.YtojolpbpjimfgaaGreatDoorZy27
import Derived.Test.YtojolpbpjimfgaaGreatDoorZy30
import Derived.Test.YtojolpbpjimfgaaGreatDoorZy34
import Derived.Test.YtojolpbpjimfgaaGreatDoorZy43
import Derived.Test.YtojolpbpjimfgaaGreatDoorZy44
import Derived.Test.YtojolpbpjimfgaaGreatDoorZy45
import Derived.Test.YtojolpbpjimfgaaGreatDoorZy46
import Derived.Test.YtojolpbpjimfgaaGreatDoorZy48
import Derived.Test.YtojolpbpjimfgaaGreatDoorZy49
set_option maxHeartbeats 16000000
set_option maxRecDepth 100000
namespace Go.Proofs.YtojolpbpjimfgaaGreatDoor
open Go.RowKit
structure PtK(m:MB)(w0:World)(T:Nat)(hv:Value)(kh:Nat)(hs:List Value)(w:World):Prop where
 e:Ext w0 w
 s:T+6≤w.heap.size
 t3:Blk w T 25 #[.slice m.B m.bs.length m.cb]
 t4:Blk w (T+1) 28 #[.int .i64 m.tab,.slice m.HA m.hands.length m.hc]
 t6:Blk w (T+2) 25 #[.slice none 0 0]
 t7:Blk w (T+3) 28 #[.int .i64 0,.slice none 0 0]
 t9:Blk w (T+5) 28 #[.int .i64 m.tab,hv]
 oh:w.ownsRow (T+6) 3 1 hv kh hs
section
variable {m:MB} {w0 w w':World} {T kh:Nat} {hv:Value} {hs:List Value}
theorem PtK.ext(h:PtK m w0 T hv kh hs w)(E:Ext w w'):PtK m w0 T hv kh hs w':=⟨h.e.trans E,Nat.le_trans h.s E.size,h.t3.ext E,h.t4.ext E,h.t6.ext E,h.t7.ext E,h.t9.ext E,own_ext h.oh E⟩
theorem PtK.own(h:PtK m w0 T hv kh hs w)(hT:w0.heap.size=T){v:Value}{k:Nat}{xs:List Value}(own:w.ownsRow (T+6) 126 6 v k xs)(hg:w.grownBy w' v.ownBlock):PtK m w0 T hv kh hs w' :=
 ⟨h.e.grown hg (fun k hk=>by have:=(own.lt k hk).1;omega),Nat.le_trans h.s hg.size,blkGrown h.t3 own hg (by decide),blkGrown h.t4 own hg (by decide),blkGrown h.t6 own hg (by decide),blkGrown h.t7 own hg (by decide),blkGrown h.t9 own hg (by decide),ownGrown h.oh hg (ownApart h.oh own (by decide))⟩
theorem PtK.hand(h:PtK m w0 T hv kh hs w)(hT:w0.heap.size=T){v':Value}{k':Nat}{xs':List Value}(hg:w.grownBy w' hv.ownBlock)(own':w'.ownsRow (T+6) 3 1 v' k' xs'):PtK m w0 T v' k' xs' (w'.setCell ⟨T+5,1,none⟩ v') :=
 ⟨(h.e.grown hg (fun k hk=>by have:=(h.oh.lt k hk).1;omega)).setCell (p:=⟨T+5,1,none⟩) (by show w0.heap.size≤T+5;omega) _,by rw[World.size_setCell];exact Nat.le_trans h.s hg.size,(blkGrown h.t3 h.oh hg (by decide)).far (p:=⟨T+5,1,none⟩) (by show T≠T+5;omega) _,(blkGrown h.t4 h.oh hg (by decide)).far (p:=⟨T+5,1,none⟩) (by show T+1≠T+5;omega) _,(blkGrown h.t6 h.oh hg (by decide)).far (p:=⟨T+5,1,none⟩) (by show T+2≠T+5;omega) _,(blkGrown h.t7 h.oh hg (by decide)).far (p:=⟨T+5,1,none⟩) (by show T+3≠T+5;omega) _,(blkGrown h.t9 h.oh hg (by decide)).set_ 1 _,own_setCell own' (p:=⟨T+5,1,none⟩) (by show T+5<T+6;omega) _⟩
theorem PtK.brk(h:PtK m w0 T hv kh hs w)(hT:w0.heap.size=T)(u:Value):PtK m w0 T hv kh hs (w.setCell ⟨T+4,0,none⟩ u) :=
 ⟨h.e.setCell (p:=⟨T+4,0,none⟩) (by show w0.heap.size≤T+4;omega) _,by rw[World.size_setCell];exact h.s,h.t3.far (p:=⟨T+4,0,none⟩) (by show T≠T+4;omega) _,h.t4.far (p:=⟨T+4,0,none⟩) (by show T+1≠T+4;omega) _,h.t6.far (p:=⟨T+4,0,none⟩) (by show T+2≠T+4;omega) _,h.t7.far (p:=⟨T+4,0,none⟩) (by show T+3≠T+4;omega) _,h.t9.far (p:=⟨T+4,0,none⟩) (by show T+5≠T+4;omega) _,own_setCell h.oh (p:=⟨T+4,0,none⟩) (by show T+4<T+6;omega) _⟩
end
structure Pt6(W0:World)(m:MB)(T T4 k kh j zn tc:Nat)(v hv:Value)(bx:Array Value)(xs hs:List Value)(TA B:Option Addr)(nb:Nat)(p p2:Addr)(L:Nat→Bool)(us:Nat→Value)(w:World):Prop where
 x:Ext W0 w
 g0:PtK m W0 T hv kh hs w
 g1:L 11=false→w.ownsRow (T+6) 126 6 v k xs
 g2:L 11=true→w.ownsRow (T+6) 126 6 (us 11) (k+1) (xs++bx.toList)
 g3:L 13=false→Blk w T4 25 #[v]
 g4:L 13=true→Blk w T4 25 #[us 11]
 g5:L 10=true→L 11=false→Blk w (bk (us 10)) 126 bx
 f0:L 0=true→us 0 = .pointer (some ⟨T4,0,none⟩)
 f1:L 1=true→us 1=v
 f2:L 2=true→us 2 = .pointer (some ⟨T,0,none⟩)
 f3:L 3=true→us 3 = .slice B nb m.cb
 f4:L 4=true→us 4 = .slice TA zn tc
 f5:L 5=true→us 5 = .int .i64 k
 f6:L 6=true→us 6 = .pointer (some p2)
 f7:L 7=true→us 7 = .int .i64 j
 f8:L 8=true→us 8 = .pointer (some p)
 f9:L 9=true→us 9 = .agg bx
 f10:L 10=true→us 10 = .slice (some ⟨bk (us 10),0,none⟩) 1 1
 f11:L 11=true→us 11 = .slice (some ⟨bk (us 11),0,none⟩) (k+1) (cpOf6 (us 11))
 f12:L 12=true→us 12 = .pointer (some ⟨T4,0,none⟩)
structure Pt9(W0:World)(T T4 T9 k kh:Nat)(v hv:Value)(tab:Int)(xs hs:List Value)(L:Nat→Bool)(us:Nat→Value)(w:World):Prop where
 x:Ext W0 w
 g0:Blk w T4 25 #[v]
 g1:Blk w T9 28 #[.int .i64 tab,hv]
 g2:w.ownsRow (T+6) 126 6 v k xs
 g3:w.ownsRow (T+6) 3 1 hv kh hs
 g4:L 2=false→Blk w (T+2) 25 #[.slice none 0 0]
 g5:L 2=true→Blk w (T+2) 25 #[v]
 g6:L 3=false→Blk w (T+3) 28 #[.int .i64 0,.slice none 0 0]
 g7:L 3=true→Blk w (T+3) 28 #[.int .i64 tab,hv]
 f0:L 0=true→us 0 = .agg #[v]
 f1:L 1=true→us 1 = .agg #[.int .i64 tab,hv]
def PartPost(m:MB)(z:Nat)(w:World)(e:Ending)(w':World):Prop:= ∃VA vc UA uc,e = .returned (.tuple #[.agg #[.slice VA (partB m.bs z).length vc],.agg #[.int .i64 m.tab,.slice UA (handP m.hands z).length uc]])∧Bricks w' VA vc (partB m.bs z)∧IntsZ w' UA uc (handP m.hands z)∧Ext w w'
theorem rPart_c(m:MB)(TA:Option Addr)(tc z:Nat)(w:World)(hM:MBAt w m)(hby: ∀b∈m.bs,b.byte)(hn40:m.bs.length≤40)(hz:SetB m.bs.length z)(hT:IntsZ w TA tc (setI z)) :
  Calls Tryz.prog 69 #[.agg #[.slice m.B m.bs.length m.cb],.agg #[.int .i64 m.tab,.slice m.HA m.hands.length m.hc],.slice TA (setL z).length tc] w (PartPost m z w):=by
 obtain⟨T,hT0⟩:=nm w.heap.size;obtain⟨W1,hW1,E1,B1,hz1⟩:=mk_ w #[.slice m.B m.bs.length m.cb] 25;obtain⟨W2,hW2,E2,B2,hz2⟩:=mk_ W1 #[.int .i64 m.tab,.slice m.HA m.hands.length m.hc] 28;obtain⟨W3,hW3,E3,B3,hz3⟩:=mk_ W2 #[.slice none 0 0] 25;obtain⟨W4,hW4,E4,B4,hz4⟩:=mk_ W3 #[.int .i64 0,.slice none 0 0] 28;obtain⟨W5,hW5,E5,B5,hz5⟩:=mk_ W4 #[.slice none 0 0] 25;obtain⟨W6,hW6,E6,B6,hz6⟩:=mk_ W5 #[.int .i64 m.tab,.slice none 0 0] 28;rw[hT0] at B1 hz1;rw[hz1] at B2 hz2;rw[hz2] at B3 hz3;rw[hz3] at B4 hz4;rw[hz4] at B5 hz5;rw[hz5] at B6 hz6;have K:=h_ (show PtK m w T (.slice none 0 0) 0 [] W6 from⟨((((E1.trans E2).trans E3).trans E4).trans E5).trans E6,by omega,((((B1.ext E2).ext E3).ext E4).ext E5).ext E6,(((B2.ext E3).ext E4).ext E5).ext E6,((B3.ext E4).ext E5).ext E6,(B4.ext E5).ext E6,B6,World.ownsRow_nil _ _ _ _⟩);have B85:=h_ (B5.ext E6);have b25:=(((B2.ext E3).ext E4).ext E5).cell;have HT0:=h_ hT0;have Hz1:=h_ hz1;have Hz2:=h_ hz2;have Hz3:=h_ hz3;have Hz4:=h_ hz4;have Hz5:=h_ hz5;have HW1:=h_ hW1;have HW2:=h_ hW2;have HW3:=h_ hW3;have HW4:=h_ hW4;have HW5:=h_ hW5;have HW6:=h_ hW6;have hzl:(setL z).length≤64:=setL_len z;have HIn:=h_ (fun(W:World) (E:Ext w W) (j:Nat)=>rIn6_c m.HA m.hc m.hands j W (IntsZ.ext hM.h E));have HTs:=h_ hT;have HMe:=h_ (fun(k:Nat) (hk:k<(setL z).length)=>memA_lt hz (by omega) hk);have HBr:=h_ hM.b;have Hby:=h_ hby;clear hW1 hW2 hW3 hW4 hW5 hW6 hz1 hz2 hz3 hz4 hz5 hz6 E1 E2 E3 E4 E5 E6 B1 B2 B3 B4 B5 B6 hT0 hM hz hT hby;obtain⟨zn,hzn⟩:=nm ((setL z).length);have Hzn:=h_ hzn;rw[hzn] at hzl HMe ⊢;clear hzn;go_enter Tryz.func69,Tryz.ntmps69
 go_upto_region 1 with(fail)
 rw[HW1.out,HW2.out,HW3.out,HW4.out,HT0.out]
 go_upto_region 2 with(fail)
 rw[HW5.out,Hz4.out]
 go_upto_region 3 with(fail)
 rw[HW6.out,Hz5.out];simp only[Nat.add_assoc,Nat.reduceAdd];clear b25;go_wp2_with fail;obtain⟨i9,hi9,hz9,hz91,hz92⟩:=info_parts infoBrk6;obtain⟨i8,hi8,hz8,hz81,hz82⟩:=info_parts infoI6;go_loopw [10] (fun i wr=> ∃(k:Nat) (v hv:Value),k≤zn∧i = .int .i64 k∧PtK m w T hv (handQ m.hands z k).length (iz6 (handQ m.hands z k)) wr∧Blk wr (T+4) 25 #[v]∧wr.ownsRow (T+6) 126 6 v k (bz6 (partQ m.bs z k))) (fun i _=>zn-(intOf i).toNat)
 case atStart=>exact⟨0,_,_,by omega,rfl,K.out,B85.out,World.ownsRow_nil _ _ _ _⟩
 case round =>
  obtain⟨k,v,hv,hk,rfl,PK,B8,own⟩:=hrel;by_cases hkn:k<zn
  ·have TT:=IntsZ.ext HTs.out PK.e;obtain⟨tb,t9,kv,rfl,hkv,-,-⟩:=TT.at_ (show k<(setI z).length by rw[setI_len,Hzn.out];exact hkn);have hg:=memA_get (show k<(setL z).length by rw[Hzn.out];exact hkn);obtain rfl:kv=(memA z k:Int):=by
    rw[setI_get hg] at hkv;exact(Option.some.inj hkv).symm
   have hjn:=HMe.out k hkn;obtain⟨j,hj⟩:=nm (memA z k);rw[hj] at hkv hjn;have Hj:=h_ hj;have Hkv:=h_ hkv;have HTc:=h_ (fun(W:World) (E':Ext w W)=>show W.cell? ⟨tb,t9+k,none⟩=some (.int .i64 j) from by
    obtain⟨tb',t9',kv',h1,h2,-,h3⟩:=(IntsZ.ext HTs.out E').at_ (show k<(setI z).length by rw[setI_len,Hzn.out];exact hkn);cases h1;rw[Hkv.out] at h2;cases h2
    exact h3)
   have hle:=TT.le;rw[setI_len,Hzn.out] at hle;obtain⟨g,off,hB⟩:=bricks_addr HBr.out (by omega);have HBc:=h_ (fun(W:World) (E:Ext w W)=>bricks_cell (HBr.out.ext E) hjn hB);have HPK:=h_ PK;have HB8:=h_ B8;have Hown:=h_ own;have HB:=h_ hB;obtain⟨nb,hnb⟩:=nm m.bs.length;have Hnb:=h_ hnb;rw[hnb] at hjn hn40;have hcb:nb≤m.cb:=by have:=HBr.out.1.le;omega
   obtain⟨⟨kd,⟨x1,x2,x3⟩,tn,cl⟩,hbk⟩:=nm (brkAt m.bs j);rw[hbk] at HBc;have Hbk:=h_ hbk;obtain⟨VA,vc,rfl⟩:=ownForm own;have k0:(0:Int)≤k:=by omega
   have k1:(k:Int)<zn:=by omega
   have j0:(0:Int)≤j:=by omega
   have j1:(j:Int)<nb:=by omega
   clear TT hg hj hkv hB hnb hbk PK B8 own
   go_upto_region 6 with(fail)
   refine wp_region_by (Pt6 w m T (T+4) k (handQ m.hands z k).length j zn tc (.slice VA k vc) hv #[.int .i64 kd,.int .i64 x1,.int .i64 x2,.int .i64 x3,.int .u8 tn,.int .u8 cl] (bz6 (partQ m.bs z k)) (iz6 (handQ m.hands z k)) (some ⟨tb,t9,none⟩) (some ⟨g,off,none⟩) nb ⟨g,off+j*6,none⟩ ⟨tb,t9+k,none⟩) (by kernel_rfl) (by kernel_rfl) (by kernel_rfl) (fun us=>⟨HPK.out.e.drew,HPK.out.ext (Ext.refl _).drew,(fun _=>own_ext Hown.out (Ext.refl _).drew),(nofun),(fun _=>HB8.out.ext (Ext.refl _).drew),(nofun),(nofun),(nofun),(nofun),(nofun),(nofun),(nofun),(nofun),(nofun),(nofun),(nofun),(nofun),(nofun),(nofun),(nofun)⟩) ⟨?_,?_,?_,?_,?_,?_,?_,?_,?_,?_,?_,?_,?_,?_,trivial⟩ ?_
   any_goals (intro L us wx K a ha hp hd hun hI hK;replace hp:=h_ hp;replace hd:=h_ hd;simp only[putAll,Act.put,zs,Nat.reduceAdd] at ha;subst ha;simp only[Act.put,zs] at hK)
   ·go_simp;exact hK _ _ {hI with f0:=fun _=>rfl}
   ·have bb:=(hI.g3 (bfl (hd.out 13 1 · (by kernel_rfl)) hun)).cell;rw[hI.f0 (h_p hp 0)] at hK ⊢;go_simp;exact hK _ _ {hI with f1:=fun _=>rfl}
   ·go_simp;exact hK _ _ {hI with f2:=fun _=>rfl}
   ·have bb:=hI.g0.t3.cell;rw[HB.out,Hnb.out] at bb;rw[hI.f2 (h_p hp 2)] at hK ⊢;go_simp;exact hK _ _ {hI with f3:=fun _=>rfl}
   ·go_simp;exact hK _ _ {hI with f4:=fun _=>rfl}
   ·go_simp;exact hK _ _ {hI with f5:=fun _=>rfl}
   ·rw[hI.f4 (h_p hp 4),hI.f5 (h_p hp 5)] at hK ⊢;go_simp;exact hK _ _ {hI with f6:=fun _=>rfl}
   ·have tt:=HTc.out wx hI.x;rw[hI.f6 (h_p hp 6)] at hK ⊢;go_simp;exact hK _ _ {hI with f7:=fun _=>rfl}
   ·rw[hI.f3 (h_p hp 3),hI.f7 (h_p hp 7)] at hK ⊢;go_simp;exact hK _ _ {hI with f8:=fun _=>rfl}
   ·obtain⟨d0,d1,d2,d3,d4,d5⟩:=HBc.out wx hI.x;rw[hI.f8 (h_p hp 8)] at hK ⊢;go_simp;exact hK _ _ {hI with f9:=fun _=>rfl}
   ·have u9:=hI.f9 (h_p hp 9);have EW:Ext wx (wx.alloc (.cells #[.int .i64 kd,.int .i64 x1,.int .i64 x2,.int .i64 x3,.int .u8 tn,.int .u8 cl] 126)):=(Ext.refl wx).alloc _;rw[u9] at hK ⊢;clear u9;go_simp;exact hK _ _ ⟨hI.x.trans EW,hI.g0.ext EW,(fun h=>own_ext (hI.g1 h) EW),(fun h=>own_ext (hI.g2 h) EW),(fun h=>(hI.g3 h).ext EW),(fun h=>(hI.g4 h).ext EW),(fun _ _=>Blk.new _ _ _),hI.f0,hI.f1,hI.f2,hI.f3,hI.f4,hI.f5,hI.f6,hI.f7,hI.f8,hI.f9,(fun _=>rfl),hI.f11,hI.f12⟩
   ·have h10:=h_p hp 10;have u10:=hI.f10 h10;have own:=hI.g1 hun;have hb10:=hI.g5 h10 hun;have h13:L 13=false:=bfl (hd.out 13 11 · (by kernel_rfl)) hun;have hUx:=hI.g0.s;obtain⟨g10,hg10⟩:=nm (bk (us 10));rw[hg10] at u10 hb10;have hS:SliceIs wx (some ⟨g10,0,none⟩) 1 1 6 [Brk.cs ⟨kd,⟨x1,x2,x3⟩,tn,cl⟩]:=(rowX_of_blk (rows:= [Brk.cs ⟨kd,⟨x1,x2,x3⟩,tn,cl⟩]) hb10).slice (fun r hr=>by rw[List.mem_singleton] at hr;subst hr;rfl) rfl (Nat.le_refl _) (by unfold maxLen;omega);rw[hI.f1 (h_p hp 1),u10] at hK ⊢;refine step_append_any rfl (.tmp 21) (.tmp 30) 23 rfl (T+6) 126 i9 _ 6 40 Tryz.underlying23 hi9 hz9 hz91 hz92 rfl (by decide) (.slice VA k vc) k (bz6 (partQ m.bs z k)) rfl own (some ⟨g10,0,none⟩) 1 1 [Brk.cs ⟨kd,⟨x1,x2,x3⟩,tn,cl⟩] rfl hS (nofun) (fun u hu=> ?_) (by unfold maxLen;omega) (by omega) hUx ?_
    ·obtain⟨r,hr,hu⟩:=List.mem_flatten.1 hu;rw[List.mem_singleton] at hr;subst hr;simp only[Brk.cs,List.mem_cons,List.not_mem_nil,or_false] at hu;rcases hu with rfl|rfl|rfl|rfl|rfl|rfl <;> rfl
    intro v' w' own' hg';obtain⟨g11,c11,rfl⟩:=own_form own' (by omega);exact hK _ _ ⟨hI.x.grown hg' (fun k hk=>by have:=(own.lt k hk).1;have:=HT0.out;omega),hI.g0.own HT0.out own hg',(fun h=>nomatch (show true=false from h)),(fun _=>own'),(fun h=>blkGrown (hI.g3 h) own hg' (by decide)),(fun h=>absurd (show L 13=true from h) (by rw[h13];decide)),(fun _ h=>nomatch (show true=false from h)),hI.f0,hI.f1,hI.f2,hI.f3,hI.f4,hI.f5,hI.f6,hI.f7,hI.f8,hI.f9,hI.f10,(fun _=>rfl),hI.f12⟩
   ·go_simp;exact hK _ _ {hI with f12:=fun _=>rfl}
   ·have h11:=h_p hp 11;have u11:=hI.f11 h11;have u12:=hI.f12 (h_p hp 12);have own:=hI.g2 h11;have B7:=hI.g3 hun;obtain⟨g11,hg11⟩:=nm (bk (us 11));obtain⟨c11,hc11⟩:=nm (cpOf6 (us 11));rw[hg11,hc11] at u11;have bb:=B7.cell;have fb:=B7.frozen;have BV:Blk (wx.setCell ⟨T+4,0,none⟩ (.slice (some ⟨g11,0,none⟩) (k+1) c11)) (T+4) 25 #[us 11]:=by
     rw[u11];exact B7.set_ 0 _
    rw[u11,u12] at hK ⊢;clear hg11 hc11 u11 u12;go_simp;exact hK undef _ ⟨hI.x.setCell (p:=⟨T+4,0,none⟩) (by have:=HT0.out;show w.heap.size≤T+4;omega) _,hI.g0.brk HT0.out _,(fun h=>absurd (show L 11=false from h) (by rw[h11];decide)),(fun _=>own_setCell own (p:=⟨T+4,0,none⟩) (by show T+4<T+6;omega) _),(fun h=>nomatch (show true=false from h)),(fun _=>BV),(fun _ h=>absurd (show L 11=false from h) (by rw[h11];decide)),hI.f0,hI.f1,hI.f2,hI.f3,hI.f4,hI.f5,hI.f6,hI.f7,hI.f8,hI.f9,hI.f10,hI.f11,hI.f12⟩
   intro L us V hall hI;have own2:=hI.g2 (hall 11 (by simp));have B82:=hI.g4 (hall 13 (by simp));have hnx:bz6 (partQ m.bs z k) ++ [.int .i64 kd,.int .i64 x1,.int .i64 x2,.int .i64 x3,.int .u8 tn,.int .u8 cl]=bz6 (partQ m.bs z (k+1)):=by
    rw[partQ_succ m.bs (by rw[Hzn.out];exact hkn),Hj.out,bz6_snoc,Hbk.out];rfl
   rw[hnx] at own2;have hsn:=handQ_succ m.hands z k;rw[Hj.out] at hsn;have IN:=h_ (fun(W:World) (E:Ext V W)=>HIn.out W (hI.g0.e.trans E) j);obtain⟨r,hr⟩:=nm (hasZ m.hands (j:Int));rw[hr] at IN hsn;have tt:=HTc.out V hI.g0.e;have b4:=hI.g0.t4.cell;have HP2:=h_ hI.g0;have HB82:=h_ B82;have Hown2:=h_ own2;obtain⟨v2,hv2⟩:=nm (us 11);rw[hv2] at HB82 Hown2;have hkl:=handQ_len m.hands z k;clear hall hI own2 B82 hnx hr hv2 HPK HB8 Hown HBc;simp only[putAll,Act.put,zs,Nat.reduceAdd]
   go_upto_region 7 with(fail)
   refine w_g ?_
   repeat (go_big_quiet_step ((go_at_call 36;exact quiet_ext (IN.out _ (by first|exact Ext.refl _|exact(Ext.refl _).grow _)))))
   refine wpQuiet_nil ?_;intro V7 hV7;have E7:Ext V V7:=by
    obtain⟨x,rfl⟩:=hV7;exact(Ext.refl _).grow x
   clear hV7;obtain⟨hcV7,hfV7,hzV7⟩:=ext_facts E7;clear tt b4 hcV7 hfV7 hzV7;have HP7:=h_ (HP2.out.ext E7);have HB87:=h_ (HB82.out.ext E7);have Hown7:=h_ (own_ext Hown2.out E7);clear E7 HP2 HB82 Hown2;cases r
   ·have hf2:handQ m.hands z (k+1)=handQ m.hands z k:=by rw[hsn];exact List.append_nil _
    have HR:=h_ (show PtK m w T hv (handQ m.hands z (k+1)).length (iz6 (handQ m.hands z (k+1))) V7 from hf2▸HP7.out);clear hsn hf2;go_wp2_with fail;go_roundw
    case rel=>exact⟨k+1,v2,hv,by omega,by go_num,HR.out,HB87.out,Hown7.out⟩
    case measure=>simp only[intOf];omega
   ·have hf2:handQ m.hands z (k+1)=handQ m.hands z k ++ [(k:Int)]:=by rw[hsn];rfl
    have Hf2:=h_ hf2;have c9:=HP7.out.t9.cell;have ow1:=HP7.out.oh;have hU:=HP7.out.s;obtain⟨fl,hfe⟩:=nm (handQ m.hands z k);rw[hfe] at ow1 hkl Hf2 HP7;obtain⟨fn,hfn⟩:=nm fl.length;rw[hfn] at ow1 hkl HP7;have Hfn:=h_ hfn;have hjl:fn+1≤maxLen:=by unfold maxLen;omega
    clear hsn hf2 hfe hfn;go_wp2_with (at_builtin;refine wpList_append_one #[.int .i64 k] rfl (.tmp 41) (.tmp 43) 26 rfl (T+6) 3 3 i8 _ 1 8 Tryz.underlying26 hi8 hz8 hz81 hz82 rfl (by decide) hv fn _ _ rfl ow1 rfl rfl (by simp[Value.oneCell']) hjl (by omega) hU ?_;intro g7 cap7 w7 own7 hg7;have EA:Ext V7 (V7.alloc (.cells #[.int .i64 k] 3)):=(Ext.refl _).alloc _;have B97:=blkGrown (HP7.out.t9.ext EA) (own_ext ow1 EA) hg7 (by decide);have c97:=B97.cell;have f97:=B97.frozen);go_roundw
    case rel =>
     have P3:=(HP7.out.ext EA).hand HT0.out hg7 own7;refine⟨k+1,v2,.slice (some ⟨g7,0,none⟩) (fn+1) cap7,by omega,by go_num,?_,(blkGrown (HB87.out.ext EA) (own_ext ow1 EA) hg7 (by decide)).far (p:=⟨T+5,1,none⟩) (by show T+4≠T+5;omega) _,own_setCell (ownGrown (own_ext Hown7.out EA) hg7 (ownApart (own_ext Hown7.out EA) (own_ext ow1 EA) (by decide))) (p:=⟨T+5,1,none⟩) (by show T+5<T+6;omega) _⟩;rw[Hf2.out,List.length_append,List.length_singleton,Hfn.out];unfold iz6 at P3 ⊢;rw[List.map_append];exact P3
    case measure=>simp only[intOf];omega
  ·obtain rfl:k=zn:=by omega
   have HPK:=h_ PK;have HB8:=h_ B8;have Hown:=h_ own;obtain⟨nh,hnh⟩:=nm ((handQ m.hands z k).length);obtain⟨xh,hxh⟩:=nm (iz6 (handQ m.hands z k));obtain⟨xb,hxb⟩:=nm (bz6 (partQ m.bs z k));rw[hnh,hxh] at HPK;rw[hxb] at Hown;have Hnh:=h_ hnh;have Hxh:=h_ hxh;have Hxb:=h_ hxb;obtain⟨VA,vc,rfl⟩:=ownForm own;obtain⟨UA,uc,rfl⟩:=ownForm HPK.out.oh;clear PK B8 own hnh hxh hxb
   go_upto_region 9 with(fail)
   refine wp_region_by (Pt9 w T (T+4) (T+5) k nh (.slice VA k vc) (.slice UA nh uc) m.tab xb xh) (by kernel_rfl) (by kernel_rfl) (by kernel_rfl) (fun us=>⟨HPK.out.e.drew,HB8.out.ext (Ext.refl _).drew,HPK.out.t9.ext (Ext.refl _).drew,own_ext Hown.out (Ext.refl _).drew,own_ext HPK.out.oh (Ext.refl _).drew,(fun _=>HPK.out.t6.ext (Ext.refl _).drew),(nofun),(fun _=>HPK.out.t7.ext (Ext.refl _).drew),(nofun),(nofun),(nofun)⟩) ⟨?_,?_,?_,?_,trivial⟩ ?_
   any_goals (intro L us wx K a ha hp hd hun hI hK;replace hp:=h_ hp;replace hd:=h_ hd;simp only[putAll,Act.put,zs,Nat.reduceAdd] at ha;subst ha;simp only[Act.put,zs] at hK)
   ·have bb:=hI.g0.cell;go_simp;exact hK _ _ {hI with f0:=fun _=>rfl}
   ·have bb:=hI.g1.cell;go_simp;exact hK _ _ {hI with f1:=fun _=>rfl}
   ·have u0:=hI.f0 (h_p hp 0);have B:=hI.g4 hun;have bb:=B.cell;have fb:=B.frozen;rw[u0] at hK ⊢;clear u0;go_simp;exact hK undef _ ⟨hI.x.setCell (p:=⟨T+2,0,none⟩) (by have:=HT0.out;show w.heap.size≤T+2;omega) _,hI.g0.far (p:=⟨T+2,0,none⟩) (by show T+4≠T+2;omega) _,hI.g1.far (p:=⟨T+2,0,none⟩) (by show T+5≠T+2;omega) _,own_setCell hI.g2 (p:=⟨T+2,0,none⟩) (by show T+2<T+6;omega) _,own_setCell hI.g3 (p:=⟨T+2,0,none⟩) (by show T+2<T+6;omega) _,(fun h=>nomatch (show true=false from h)),(fun _=>B.set_ 0 _),(fun h=>(hI.g6 h).far (p:=⟨T+2,0,none⟩) (by show T+3≠T+2;omega) _),(fun h=>(hI.g7 h).far (p:=⟨T+2,0,none⟩) (by show T+3≠T+2;omega) _),hI.f0,hI.f1⟩
   ·have u1:=hI.f1 (h_p hp 1);have B:=hI.g6 hun;have bb:=B.cell;have fb:=B.frozen;rw[u1] at hK ⊢;clear u1;go_simp;exact hK undef _ ⟨(hI.x.setCell (p:=⟨T+3,0,none⟩) (by have:=HT0.out;show w.heap.size≤T+3;omega) _).setCell (p:=⟨T+3,1,none⟩) (by have:=HT0.out;show w.heap.size≤T+3;omega) _,(hI.g0.far (p:=⟨T+3,0,none⟩) (by show T+4≠T+3;omega) _).far (p:=⟨T+3,1,none⟩) (by show T+4≠T+3;omega) _,(hI.g1.far (p:=⟨T+3,0,none⟩) (by show T+5≠T+3;omega) _).far (p:=⟨T+3,1,none⟩) (by show T+5≠T+3;omega) _,own_setCell (own_setCell hI.g2 (p:=⟨T+3,0,none⟩) (by show T+3<T+6;omega) _) (p:=⟨T+3,1,none⟩) (by show T+3<T+6;omega) _,own_setCell (own_setCell hI.g3 (p:=⟨T+3,0,none⟩) (by show T+3<T+6;omega) _) (p:=⟨T+3,1,none⟩) (by show T+3<T+6;omega) _,(fun h=>((hI.g4 h).far (p:=⟨T+3,0,none⟩) (by show T+2≠T+3;omega) _).far (p:=⟨T+3,1,none⟩) (by show T+2≠T+3;omega) _),(fun h=>((hI.g5 h).far (p:=⟨T+3,0,none⟩) (by show T+2≠T+3;omega) _).far (p:=⟨T+3,1,none⟩) (by show T+2≠T+3;omega) _),(fun h=>nomatch (show true=false from h)),(fun _=>(B.set_ 0 _).set_ 1 _),hI.f0,hI.f1⟩
   intro L us V hall hI;have c6:=(hI.g5 (hall 2 (by simp))).cell;have c7:=(hI.g7 (hall 3 (by simp))).cell;have hown:=hI.g2;have hoh:=hI.g3;have HX:=h_ hI.x;rw[←Hxb.out,←Hzn.out,partQ_all,←partB_len m.bs z] at hown;rw[←Hnh.out,←Hxh.out,←Hzn.out] at hoh;have hbyte: ∀x∈partB m.bs z,x.byte:=fun x hx=>by
    obtain⟨i,hi,rfl⟩:=List.mem_map.1 hx;obtain⟨q,hq⟩:=List.getElem?_of_mem hi;have hin:=HMe.out q (by rw[←Hzn.out];exact(List.getElem?_eq_some_iff.1 hq).1);rw[memA_eq hq] at hin;rw[brkAt_eq (List.getElem?_eq_getElem hin)];exact Hby.out _ (List.getElem_mem hin)
   obtain⟨VA',vc',e1,BR⟩:=bricks_own6 hown hbyte;obtain⟨UA',uc',e2,IR⟩:=ints_own6 (l:=handP m.hands z) hoh;obtain⟨rfl,-,rfl⟩:=Value.slice.inj e1;obtain⟨rfl,-,rfl⟩:=Value.slice.inj e2;have HBR:=h_ BR;have HIR:=h_ IR;have HLn:=h_ (show(k=(partB m.bs z).length∧nh=(handP m.hands z).length) from⟨by rw[partB_len,Hzn.out],by rw[←Hnh.out,←Hzn.out];rfl⟩);clear hall hI hown hoh hbyte BR IR e1 e2;simp only[putAll,Act.put,zs,Nat.reduceAdd];go_wp2_with fail;refine bodyPost_ret (v:= .tuple #[.agg #[.slice VA k vc],.agg #[.int .i64 m.tab,.slice UA nh uc]]) ?_ rfl ⟨VA,vc,UA,uc,by rw[←HLn.out.1,←HLn.out.2],HBR.out,HIR.out,HX.out⟩;simp[results,Tryz.results69,go_sem,c6,c7]
def ChPost(l:List Int)(n:Nat)(w:World)(e:Ending)(w':World):Prop:=e = .returned (.tuple #[.int .u64 ((if chosenB l n then numOf l else 0:Nat):Int),.bool (chosenB l n)])∧Ext w w'
def holdE(m:MB)(th:List Int):Int:=if restErr m.ks m.bs m.tab m.hands=0 then(if chosenB th m.bs.length=true then 0 else 2) else restErr m.ks m.bs m.tab m.hands
noncomputable def holdA(m:MB)(th:List Int):Bool:=if holdE m th=0 then holdB m.ks m.bs m.tab m.hands (numOf th) else false
def wayBad(m:MB)(th:List Int)(b:Int):Bool:= !chosenB th m.bs.length||(decide (b<0)||(decide ((m.bs.length:Int)≤b)||(numOf th).testBit b.toNat))
def wayE(m:MB)(th:List Int)(b:Int):Int:=if restErr m.ks m.bs m.tab m.hands=0 then(if wayBad m th b=true then 2 else 0) else restErr m.ks m.bs m.tab m.hands
noncomputable def wayA(m:MB)(th:List Int)(b:Int):List Int:=if wayE m th b=0 then wayQ m.ks m.bs m.tab (numOf th) b.toNat 6 else []
def seenBad(m:MB)(th:List Int)(d:Int):Bool:= !chosenB th m.bs.length||(decide (d<0)||decide (5<d))
def seenE(m:MB)(th:List Int)(d:Int):Int:=if checkErr m.ks m.bs=0 then(if seenBad m th d=true then 2 else 0) else checkErr m.ks m.bs
noncomputable def seenA(m:MB)(th:List Int)(d:Int):List Int:=if seenE m th d=0 then seenQ m.ks m.bs (numOf th) d.toNat (setL (numOf th)).length else []
def ListPost(l:List Int)(er:Int)(w:World)(e:Ending)(w':World):Prop:= ∃A cap,e = .returned (.tuple #[.slice A l.length cap,.int .i64 er])∧IntsZ w' A cap l∧Ext w w'
theorem rHolds0_c(m:MB)(TA:Option Addr)(tc z:Nat)(w:World)(hM:MBAt w m)(h0:restErr m.ks m.bs m.tab m.hands=0)(hz:SetB m.bs.length z)(hT:IntsZ w TA tc (setI z)) :
  Calls Tryz.prog 32 #[.slice m.QA m.qs.length m.qc,.agg #[.slice m.B m.bs.length m.cb],.agg #[.int .i64 m.tab,.slice m.HA m.hands.length m.hc],.slice TA (setL z).length tc] w fun e w'=>e = .returned (.bool (holdB m.ks m.bs m.tab m.hands z))∧Ext w w':=by
 obtain⟨W1,hW1,E1,B1,hz1⟩:=mk_ w #[.slice m.B m.bs.length m.cb] 25;obtain⟨W2,hW2,E2,B2,hz2⟩:=mk_ W1 #[.int .i64 m.tab,.slice m.HA m.hands.length m.hc] 28;have E:=E1.trans E2;have b1:=(B1.ext E2).cell;have b2:=B2.cell;have hcm:=(restErr_zero h0).1;have hn:=(hM.fit hcm).n;have PC:=rPart_c m TA tc z W2 (hM.ext E) hM.b.2 hn hz (IntsZ.ext hT E);have HM:=h_ hM;have Hr0:=h_ (rest_part hz h0);have HE:=h_ E;clear hM h0 hz hT hcm hn hz1 hz2 B1 B2 E1 E2 E;go_enter Tryz.func32,Tryz.ntmps32;go_wp2_with fail;clear b1 b2 hW1 hW2;refine PC.mono ?_;rintro e W3 ⟨VA,vc,UA,uc,rfl,hV,hU,E3⟩;have HE3:=h_ (HE.out.trans E3);obtain⟨W4,hW4,E4,B4,hz4⟩:=mk_ W3 #[.slice VA (partB m.bs z).length vc] 25;obtain⟨W5,hW5,E5,B5,hz5⟩:=mk_ W4 #[.int .i64 0,.slice none 0 0] 28;rw[hz4] at B5;obtain⟨pl,hpl⟩:=nm ((partB m.bs z).length);obtain⟨ph,hph⟩:=nm ((handP m.hands z).length);obtain⟨V,hVe⟩:=nm ((W5.setCell ⟨W3.heap.size+1,0,none⟩ (.int .i64 m.tab)).setCell ⟨W3.heap.size+1,1,none⟩ (.slice UA ph uc));have E45:Ext W3 V:=hVe▸((E4.trans E5).setCell (p:=⟨W3.heap.size+1,0,none⟩) (by show W3.heap.size≤W3.heap.size+1;omega) _).setCell (p:=⟨W3.heap.size+1,1,none⟩) (by show W3.heap.size≤W3.heap.size+1;omega) _;have b4:=(hVe▸((B4.ext E5).far (p:=⟨W3.heap.size+1,0,none⟩) (by show W3.heap.size≠W3.heap.size+1;omega) _).far (p:=⟨W3.heap.size+1,1,none⟩) (by show W3.heap.size≠W3.heap.size+1;omega) _:Blk V W3.heap.size 25 #[.slice VA (partB m.bs z).length vc]).cell;have b5:=(hVe▸(B5.set_ 0 _).set_ 1 _:Blk V (W3.heap.size+1) 28 #[.int .i64 m.tab,.slice UA ph uc]).cell;have c5:=B5.cell;have f5:=B5.frozen;have HV:=h_ hVe;have HE5:=h_ (HE3.out.trans E45);have FC:=rFallen_c m.qs m.QA m.qc (partB m.bs z) VA vc m.tab UA uc (handP m.hands z) V (HM.out.ext HE5.out).k (hV.ext E45) (IntsZ.ext hU E45) Hr0.out;rw[hpl] at b4 FC hW4;rw[hph] at FC;rw[hpl,hph];clear hpl hph E3 E4 E5 B4 B5 hz4 hz5 E45 hV hU PC hVe
 go_upto_region 2 with(fail)
 rw[HV.out];clear c5 f5;go_wp2_with fail;clear b4 b5;refine FC.mono ?_;rintro e W6 ⟨FA,fc,fl,rfl,hZ,hF,E6⟩;have hHv:=holdB_of (show FallOf m.ks (partB m.bs z) m.tab (handP m.hands z) fl from hF);have hlf:=hZ.len;have HE6:=h_ (HE5.out.trans E6);obtain⟨nf,hnf⟩:=nm fl.length;rw[hnf] at hHv hlf ⊢;obtain⟨r,hr⟩:=nm (holdB m.ks m.bs m.tab m.hands z);have hq:((nf:Int)==0)=r:=by
  rw[←hr,hHv];by_cases h:nf=0
  ·simp[h]
  ·have:((nf:Int)==0)=false:=by simp;omega
   rw[this,decide_eq_false h]
 have Hr:=h_ hr;clear hnf hZ hF hHv hr E6 FC hW4 hW5;go_wp2_with fail;go_ret;exact⟨by rw[Hr.out,←hq];rfl,HE6.out⟩
end Go.Proofs.YtojolpbpjimfgaaGreatDoor
