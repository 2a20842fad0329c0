/- Texts of the proof: Seen6, View6. -/
import Derived.Test.YtojolpbpjimfgaaGreatDoorZy26
import Derived.Test.YtojolpbpjimfgaaGreatDoorZy27
import Derived.Test.YtojolpbpjimfgaaGreatDoorZy28
import Derived.Test.YtojolpbpjimfgaaGreatDoorZy29
set_option maxHeartbeats 16000000
set_option maxRecDepth 100000
namespace Go.Proofs.YtojolpbpjimfgaaGreatDoor
open Go.RowKit Go.Shelf
attribute [local go_sem] Oper.semAt_some
theorem wpListIn_put{F:Fence}{n:Nat}{P:Program}{k:TypeId}{K V:Type}[DecidableEq K]{enc:K→Value}{ev:V→Value}(E:KeyEnc P k enc){w:World}{ops:Array Oper}{rest:List Oper}{o:Oper}{a:Act}{Q:Exit→Act→World→Prop}
  (hg:o.guard=none) (mo xo vo:Operand) (t:TypeId) (hop:o.op=Op.mapUpdate t mo xo vo) (e:TypeId) (ht:P.underlying t=some (.map k e)) (b:Nat) (m:List (K×V)) (x:K) (v:V)
  (hm:a.eval mo = .map (some b)) (hown:MapOf enc ev w b m) (hx:a.eval xo=enc x) (hv:a.eval vo=ev v)
  (hK: ∀w',MapOf enc ev w' b (putK m x v)→w.grownBy w' (some b)→w'.heap.size=w.heap.size→wpListIn F n P ops Q rest (a.put o.dst undef) w'):wpListIn F n P ops Q (o::rest) a w:=by
 refine wpListIn_plain hg fun K' hK'=> ?_;obtain⟨w',hrun,r1,r2,r3⟩:=update_run E ht hown x v;unfold Oper.wpIn;refine⟨?_,?_⟩
 ·simp[Oper.about,hop]
 ·rw[Oper.semAt_plain F _ _ (by rw[hop];intro c hc';cases hc')];simp[execOp,hop,hm,hx,hv,hrun,Result.andThen];exact hK' _ _ (hK w' r1 r2 r3)
theorem atIn_put{F:Fence}{n:Nat}{P:Program}{w:World}{ops:Array Oper}{rest:List Oper}{o:Oper}{a:Act}{Q:Exit→Act→World→Prop}(t:TypeId)(mo xo vo:Operand)(_:o.op=Op.mapUpdate t mo xo vo)(h:wpListIn F n P ops Q (o::rest) a w):wpListIn F n P ops Q (o::rest) a w:=h
structure SnI(m:MB)(p:PlV)(z d:Nat)(w0:World)(Tp T5 T7 M k r:Nat)(mm:List ((Int×Int)×(Nat×Int)))(w:World):Prop where
 e:Ext w0 w
 bp:Blk w Tp 67 #[.pointer (some ⟨p.X,0,none⟩)]
 b5:Blk w T5 3 #[.int .i64 d]
 b7:Blk w T7 150 #[.map (some M)]
 mp:MapOf encPr evF w M mm
 f:FrontOf d (DoneC m.ks m.bs z k r) mm
 nd:(mm.map (·.1)).Nodup
theorem SnI.ext{m:MB}{p:PlV}{z d:Nat}{w0:World}{Tp T5 T7 M k r:Nat}{mm:List ((Int×Int)×(Nat×Int))}{w w':World}(h:SnI m p z d w0 Tp T5 T7 M k r mm w)(E:Ext w w'):SnI m p z d w0 Tp T5 T7 M k r mm w':=⟨h.e.trans E,h.bp.ext E,h.b5.ext E,h.b7.ext E,h.mp.ext E,h.f,h.nd⟩
theorem SnI.far{m:MB}{p:PlV}{z d:Nat}{w0:World}{Tp T5 T7 M k r:Nat}{mm:List ((Int×Int)×(Nat×Int))}{w:World}(h:SnI m p z d w0 Tp T5 T7 M k r mm w){b:Nat}(h0:w0.heap.size≤b)(h1:Tp≠b)(h2:T5≠b)(h3:T7≠b)(h4:M≠b)(o:Nat)(u:Value):SnI m p z d w0 Tp T5 T7 M k r mm (w.setCell ⟨b,o,none⟩ u) :=
 ⟨h.e.setCell (p:=⟨b,o,none⟩) h0 u,h.bp.far (p:=⟨b,o,none⟩) h1 u,h.b5.far (p:=⟨b,o,none⟩) h2 u,h.b7.far (p:=⟨b,o,none⟩) h3 u,h.mp.far2 (p:=⟨b,o,none⟩) h4 u,h.f,h.nd⟩
theorem SnI.put{m:MB}{p:PlV}{z d:Nat}{w0:World}{Tp T5 T7 M k r:Nat}{mm mm':List ((Int×Int)×(Nat×Int))}{w w':World}(h:SnI m p z d w0 Tp T5 T7 M k r mm w)(hM:w0.heap.size≤M)(hg:w.grownBy w' (some M))(M':MapOf encPr evF w' M mm'){r':Nat}(f':FrontOf d (DoneC m.ks m.bs z k r') mm')(nd':(mm'.map (·.1)).Nodup):SnI m p z d w0 Tp T5 T7 M k r' mm' w' :=
 ⟨h.e.grown hg (fun k hk=>by cases hk;exact hM),h.bp.grown hg (fun e=>h.mp.blk_ne h.bp (Option.some.inj e).symm),h.b5.grown hg (fun e=>h.mp.blk_ne h.b5 (Option.some.inj e).symm),h.b7.grown hg (fun e=>h.mp.blk_ne h.b7 (Option.some.inj e).symm),M',f',nd'⟩
def SeenPost(m:MB)(z d:Nat)(w:World)(e:Ending)(w':World):Prop:= ∃s,e = .returned (.int .u64 (s:Nat))∧SetB m.bs.length s∧(∀j,s.testBit j=true↔z.testBit j=true∧seeB m.ks m.bs z j d=true)∧Ext w w'
theorem seen6_c(m:MB)(p:PlV)(hm:List (Int×Bool))(z d:Nat)(w:World)(hp:PlanAt w m p hm)(hM:MBAt w m)(h0:checkErr m.ks m.bs=0)(hz:SetB m.bs.length z)(hd:d<6)(hT:Tz6Tab w) :
  Calls Tryz.prog 39 #[.pointer (some ⟨p.X,0,none⟩),.int .u64 z,.int .i64 d] w (SeenPost m z d w):=by
 have hf:=hM.fit h0;have hnb:=hf.n;have hz64:z<2 ^ 64:=(hz.mono (show m.bs.length≤64 by omega)).lt;have hmm:= @run_makeMap Tryz.prog;refine(callsIn_wide (n:=5)).1 ?_;refine callsIn_of_wp_marks Tryz.func39 rfl trivial ?_ rfl;simp only[Tryz.ntmps39,List.size_toArray,List.length_cons,List.length_nil,Nat.reduceAdd,Nat.reduceSub,Array.replicate_succ,Array.replicate_zero,List.push_toArray,List.append_toArray,List.nil_append,List.cons_append];refine wpIn_wide.2 ?_;obtain⟨W1,hW1,E1,B1,hz1⟩:=mk_ w #[.pointer (some ⟨p.X,0,none⟩)] 67;obtain⟨W2,hW2,E2,B2,hz2⟩:=mk_ W1 #[.int .i64 d] 3;obtain⟨W3,hW3,E3,M3,hz3⟩:=mapbox_ encPr evF W2;obtain⟨W4,hW4,E4,B4,hz4⟩:=mk_ W3 #[.map (some W2.heap.size)] 150;obtain⟨Tp,hTp⟩:=nm w.heap.size;have HW3:=h_ hW3;rw[hTp] at B1 hz1;rw[hz1] at B2 hz2;rw[hz2] at M3 hz3 B4 hW4;have HW4:=h_ hW4;rw[hz3] at B4 hz4;clear hW3 hW4
 go_upto_region 1 with(fail)
 clear hW1 hW2
 go_upto_region 2 with(fail)
 rw[HW3.out,HW4.out];go_wp2_with fail;refine(all6_c z W4).mono ?_;rintro e W5 ⟨rfl,E5,B5,hz5⟩;rw[hz4] at B5 hz5;have E15:=(((E1.trans E2).trans E3).trans E4).trans E5;have BP:=(((B1.ext E2).ext E3).ext E4).ext E5;have BD:=((B2.ext E3).ext E4).ext E5;have M5:=(M3.ext E4).ext E5;have B75:=B4.ext E5;have HM:=h_ hM;have HZ:=h_ hz;have Hf:=h_ hf;have Hcm:=h_ h0;have HT:=h_ hT;have HP:=h_ hp;have Hz5:=h_ hz5;have hTw:w.heap.size=Tp:=hTp;clear hp hM h0 hz hT hf hz1 hz2 hz3 hz5 hTp B1 B2 M3 B4 E1 E2 E3 E4 E5 hmm;go_wp2_with fail;clear hz4;refine(wpIn_wide (n:=5)).1 ?_;refine wpIn_range_boxU (by omega) (gf:=86) (lb:= #[.pointer (some ⟨Tp+1+1+1+1,0,none⟩)]) rfl (enters_of Tryz.func86 (by kernel_rfl) rfl)
  (all61_c z hz64 _ (Tp+1+1+1+1) (by omega)) B5 (fun _=>rfl)
  (fun pre Y=> ∃mm,SnI m p z d w Tp (Tp+1) (Tp+1+1+1) (Tp+1+1) pre.length 0 mm Y)
  ⟨fun pre X Y h E=>by
    obtain⟨mm,h⟩:=h;exact⟨mm,h.ext E⟩,
   fun pre X u h=>by
    obtain⟨mm,h⟩:=h;exact⟨mm,h.far (by omega) (by omega) (by omega) (by omega) (by omega) 0 u⟩,
   fun pre X h=>by
    obtain⟨mm,h⟩:=h
    exact HT.out.ext h.e⟩
  (fun pre X l o o' h hl ho hc=>by
    obtain⟨mm,h⟩:=h;have hs:=Hz5.out
    exact⟨mm,Ext.grown h.e (grownBy_putObj' X l o') (fun k e=>by cases e;omega),blk_put6 h.bp ho hc o',blk_put6 h.b5 ho hc o',blk_put6 h.b7 ho hc o',h.mp.grown (grownBy_putObj' X l o') (fun e=>by have:=Option.some.inj e;omega),h.f,h.nd⟩)
  ⟨[],E15,BP,BD,B75,M5,(FrontOf.nil d).congr DoneC.zero,by simp⟩
  (fun x ts=>(ts.setIfInBounds 21 (.int .i64 (x:Int))).setIfInBounds 8 (.int .i64 (x:Int))) ?assign ?body ?done
 case assign =>
  rintro l' x X K hK;dsimp only[encB6]
  gi_wp2
  exact hK
 case body =>
  rintro l' pre x Y u hl ⟨mm,SI⟩ hbx hpre;have hql:=hpre.length_le;rw[List.length_append,List.length_singleton] at hql;obtain⟨q,hq⟩:=nm pre.length;rw[hq] at SI hql;have hxq:(setL z)[q]? = some x:=by
   obtain⟨tl,ht⟩:=hpre;rw[←ht,←hq];simp
  have Hxm:=h_ (memA_eq hxq);have Hq:=h_ hq;have hxn:x<m.bs.length:=HZ.out x (mem_setL.1 (List.mem_of_getElem? hxq)).2;obtain⟨cg,coff,hCA⟩:=HP.out.addr (by omega);have r0:=HP.out.row hxn hCA;have HR:=h_ (HP.out.r x hxn);have hcl:=(clen_pos HM.out.k HM.out.b.2 (check_model Hcm.out) hxn).2;have Hnear:=h_ (show ∀q∈bcells m.ks (brkAt m.bs x),Pt.in_ 1015 q from cells_near HM.out.k HM.out.b.2 (check_model Hcm.out) hxn);have HPx:=h_ HP.out.x;obtain⟨nb,hnbe⟩:=nm m.bs.length;rw[hCA,hnbe] at HPx;rw[hnbe] at hxn;replace hcl:clen m.ks m.bs x≤24:=hcl;obtain⟨L,hL⟩:=nm (bcells m.ks (brkAt m.bs x));obtain⟨n,hn⟩:=nm (clen m.ks m.bs x);have HL:=h_ (show L.length=n by rw[←hL,←hn];rfl);have HLe:=h_ hL;rw[hn] at r0 HR hcl;rw[hL] at HR Hnear;have HR0:=h_ r0;have hx:=(HPx.out.ext SI.e).cell;have bp:=SI.bp.cell;have r1:=SI.e.cell r0;have x0:(0:Int)≤x:=by omega
  have xn:(x:Int)<nb:=by omega
  clear hxq hnbe hq hL hn hpre hCA r0;gi_wp2_with fail;clear hx bp r1;gi_loopw [30] (fun ii wr=> ∃(r:Nat) (mm':List ((Int×Int)×(Nat×Int))),r≤n∧ii = .int .i64 r∧SnI m p z d w Tp (Tp+1) (Tp+1+1+1) (Tp+1+1) q r mm' wr∧Blk wr (Tp+1+1+1+1) 64 #[u]∧KeepsFrom W5.heap.size Y wr) (fun ii _=>n-(intOf ii).toNat)
  case atStart=>exact⟨0,mm,by omega,rfl,SI,hbx,KeepsFrom.refl _ _⟩
  case round =>
   clear SI hbx;obtain⟨r,mm',hr,rfl,SI,hbx,KO⟩:=hrel;by_cases hlt:r<n
   ·obtain⟨⟨c1,c2,c3⟩,hc⟩: ∃c,L[r]? = some c:=⟨_,List.getElem?_eq_getElem (by rw[HL.out];exact hlt)⟩;have hrr:(L.map Pt.cs)[r]? = some (Pt.cs ⟨c1,c2,c3⟩):=by rw[List.getElem?_map,hc];rfl
    have RX:=HR.out.2.2.ext SI.e;have e0:=RX.cell (pts_wide' L) hrr (j:=0) rfl;have e1:=RX.cell (pts_wide' L) hrr (j:=1) rfl;have e2:=RX.cell (pts_wide' L) hrr (j:=2) rfl;simp only[Nat.add_zero] at e0;obtain⟨⟨l1,l2⟩,⟨l3,l4⟩,⟨l5,l6⟩⟩:=Hnear.out _ (List.mem_of_getElem? hc);simp only at l1 l2 l3 l4 l5 l6;obtain⟨W6,hW6,E6,B6,-⟩:=mk_ wr #[.int .i64 c1,.int .i64 c2,.int .i64 c3] 124;have AL:=along6_c c1 c2 c3 d hd ⟨⟨by omega,by omega⟩,⟨by omega,by omega⟩,⟨by omega,by omega⟩⟩ W6;have Hc:=h_ hc;have Hcc:=h_ (show(bcells m.ks (brkAt m.bs (memA z q)))[r]? = some ⟨c1,c2,c3⟩ by rw[Hxm.out,HLe.out];exact hc);have S6:=SI.ext E6;have b6:=B6.cell;have b5:=S6.b5.cell;have hb6:=hbx.ext E6;have KO6:=KO.trans ((ext_keeps E6).from _);have r0:(0:Int)≤r:=by omega
    have rn:(r:Int)<n:=by omega
    have rc:(r:Int)<p.cp x:=by have:=HR.out.1;omega
    obtain⟨la,hla⟩:=nm ((lineP ⟨c1,c2,c3⟩ d).1);obtain⟨lb,hlb⟩:=nm ((lineP ⟨c1,c2,c3⟩ d).2);obtain⟨fa,hfa⟩:=nm (farP ⟨c1,c2,c3⟩ d);rw[hla,hlb,hfa] at AL;have HLn:=h_ (show lineP ⟨c1,c2,c3⟩ d=(la,lb) by rw[←hla,←hlb]);have HFa:=h_ hfa;clear hc hrr RX SI hbx KO E6 B6 hla hlb hfa l1 l2 l3 l4 l5 l6;gi_wp2_with fail;clear e0 e1 e2 hW6;refine⟨trivial,?_⟩;gi_at_call 75;refine(CallsIn.inRound l' (callsIn_wide.2 AL)).mono ?_;rintro e W7 ⟨rfl,E7⟩;obtain⟨W8,hW8,E8,B8,-⟩:=mk_ W7 #[.int .i64 la,.int .i64 lb] 152;have S8:=(S6.ext E7).ext E8;have hb8:=(hb6.ext E7).ext E8;have KO8:=(KO6.trans ((ext_keeps E7).from _)).trans ((ext_keeps E8).from _);obtain⟨v,hv⟩:=nm (getK mm' (la,lb));have lk:=look_line S8.mp la lb;rw[hv] at lk;obtain⟨fb,hfb⟩:=nm (frB v);obtain⟨fc,hfc⟩:=nm (frA v);rw[hfb,hfc] at lk;obtain⟨W9,hW9,E9,B9,-⟩:=mk_ W8 #[.int .i64 fb,.int .i64 fc] 156;have S9:=S8.ext E9;have hb9:=hb8.ext E9;have KO9:=KO8.trans ((ext_keeps E9).from _);have b7:=S8.b7.cell;have b8:=B8.cell;have b9:=B9.cell;have b79:=S9.b7.cell;have b89:=(B8.ext E9).cell;have Hv:=h_ hv;have M9:=S9.mp;clear b6 b5 S6 hb6 KO6 AL E7 E8 E9 B8 B9 S8 hb8 KO8 hv;cases v with
    | none =>
     simp only[Option.isSome_none] at lk;gi_wp2_with (refine atIn_put 150 (.tmp 54) (.tmp 55) (.tmp 58) rfl ?_;refine wpListIn_put lnKey (ev:=evF) rfl _ _ _ 150 rfl 156 Tryz.underlying150 (Tp+1+1) mm' (la,lb) (x,fa) rfl M9 rfl rfl ?_;intro w6 M10 hg6 hz6);go_roundw
     case rel =>
      have FN:=(FrontOf.put S9.f x ⟨c1,c2,c3⟩ (fun u hu=>absurd (show getK mm' (la,lb)=some u by rw[←HLn.out];exact hu) (by rw[Hv.out];simp))).congr (D':=DoneC m.ks m.bs z q (r+1)) (fun i p=>by rw[←Hxm.out];exact DoneC.succ Hcc.out i p);rw[HLn.out,HFa.out] at FN;exact⟨r+1,_,by omega,by go_num,S9.put (by omega) hg6 M10 FN (nodup_put S9.nd _ _),hb9.grown hg6 (fun e=>by have:=Option.some.inj e;omega),KO9.trans (KeepsFrom.of_grownBy hg6 fun j ej=>by have:=Option.some.inj ej;have:=Hz5.out;omega)⟩
     case measure=>simp only[intOf];omega
    | some f =>
     simp only[Option.isSome_some] at lk;have Hfc:=h_ (show f.2=fc by rw[←hfc];rfl);by_cases hlt2:fa<fc
     ·gi_wp2_with (refine atIn_put 150 (.tmp 54) (.tmp 55) (.tmp 58) rfl ?_;refine wpListIn_put lnKey (ev:=evF) rfl _ _ _ 150 rfl 156 Tryz.underlying150 (Tp+1+1) mm' (la,lb) (x,fa) rfl M9 rfl rfl ?_;intro w6 M10 hg6 hz6);go_roundw
      case rel =>
       have FN:=(FrontOf.put S9.f x ⟨c1,c2,c3⟩ (fun u hu=>(by have e:getK mm' (la,lb)=some u:=(by rw[←HLn.out];exact hu);rw[Hv.out] at e;obtain rfl:=Option.some.inj e;rw[HFa.out,Hfc.out];exact hlt2))).congr (D':=DoneC m.ks m.bs z q (r+1)) (fun i p=>by rw[←Hxm.out];exact DoneC.succ Hcc.out i p);rw[HLn.out,HFa.out] at FN;exact⟨r+1,_,by omega,by go_num,S9.put (by omega) hg6 M10 FN (nodup_put S9.nd _ _),hb9.grown hg6 (fun e=>by have:=Option.some.inj e;omega),KO9.trans (KeepsFrom.of_grownBy hg6 fun j ej=>by have:=Option.some.inj ej;have:=Hz5.out;omega)⟩
      case measure=>simp only[intOf];omega
     ·have FN:=(FrontOf.keep S9.f x ⟨c1,c2,c3⟩ (v:=f) (by rw[HLn.out];exact Hv.out) (by rw[HFa.out,Hfc.out];exact hlt2)).congr (D':=DoneC m.ks m.bs z q (r+1)) (fun i p=>by rw[←Hxm.out];exact DoneC.succ Hcc.out i p);have SN:SnI m p z d w Tp (Tp+1) (Tp+1+1+1) (Tp+1+1) q (r+1) mm' W9:=⟨S9.e,S9.bp,S9.b5,S9.b7,S9.mp,FN,S9.nd⟩;have HSN:=h_ SN;clear M9 S9 FN SN
      gi_wp2
      go_roundw
      case rel=>exact⟨r+1,_,by omega,by go_num,HSN.out,hb9,KO9⟩
      case measure=>simp only[intOf];omega
   ·obtain rfl:r=n:=by omega
    have FN:=SI.f.congr (D':=DoneC m.ks m.bs z (q+1) 0) (fun i p=>by
     have h:=DoneC.next (ks:=m.ks) (bs:=m.bs) (z:=z) (q:=q) i p;rw[show(bcells m.ks (brkAt m.bs (memA z q))).length=r from by rw[Hxm.out,HLe.out,HL.out]] at h
     exact h)
    have HF:=h_ (show KeepsFrom W5.heap.size Y wr∧(∃mm,SnI m p z d w Tp (Tp+1) (Tp+1+1+1) (Tp+1+1) (q+1) 0 mm wr)∧Blk wr (Tp+1+1+1+1) 64 #[u] from⟨KO,⟨mm',SI.e,SI.bp,SI.b5,SI.b7,SI.mp,FN,SI.nd⟩,hbx⟩);clear SI FN hbx KO;gi_wp2_with fail;rw[List.length_append,List.length_singleton,Hq.out];exact HF.out
 case done =>
  rintro D D0 hD ⟨mm,SI⟩ hKd;have b7:=SI.b7.cell;have HSI:=h_ SI;have MP:=SI.mp;obtain⟨R,hR⟩:=nm D0.heap.size;have HR:=h_ hR;have Hbd:=h_ (fun(x:Int×Int) (v:Nat×Int) (h:getK mm x=some v)=>show v.1<m.bs.length from by
   obtain⟨c,h1,-⟩:=SI.f.is x v h
   exact HZ.out _ ((DoneC.all HZ.out (by omega) _ _).1 h1).1)
  have Hfin:=h_ (fun j=>front_seen Hf.out HZ.out hd SI.f j);clear SI hR;go_wp2_with (at_range;refine wpList_rng (enc:=encPr) (ev:=evF) rfl _ 150 rfl 156 Tryz.underlying150 (Tp+1+1) mm rfl MP ?_;intro w6 R6 g6 z6;rw[HR.out] at R6 z6);rw[HR.out];simp only[Act.put,zs];have E6:=HSI.out.e.grown g6 (fun k hk=>nomatch hk);have hDR:D<R:=by have:=(Array.getElem?_eq_some_iff.1 hKd).1;have:=HR.out;omega
  have hwR:w.heap.size≤R:=by have:=HSI.out.e.size;have:=HR.out;omega
  have hK6:w6.heap[D]? = some (.deferred (some [])):=(g6.block D (Array.getElem?_eq_some_iff.1 hKd).1 (by simp)).trans hKd;clear g6 z6 hKd MP b7;go_loopw [15] (fun ov wr=> ∃(s:Nat) (done left:List (Int×Int)),ov = .int .u64 (s:Nat)∧SetB m.bs.length s∧Hid (∀j,s.testBit j=true ↔ ∃x∈done,∃v,getK mm x=some v∧v.1=j)∧RngOf encPr evF wr (Tp+1+1) R mm done left∧Ext w wr∧wr.heap[D]? = some (.deferred (some []))) (fun _ wr=>wr.rangeLeft (Tp+1+1) R)
  case atStart=>exact⟨0,[],_,rfl,SetB.zero _,h_ (fun j=>by simp),R6,E6,hK6⟩
  case round =>
   clear R6 E6 hK6;obtain⟨s,done,left,rfl,hsB,Hs,RR,Er,hKr⟩:=hrel;have Hle:=h_ RR.left_eq;by_cases hle:left = []
   ·subst hle;have HKr:=h_ hKr;have HF:=h_ (show SeenPost m z d w (.returned (.int .u64 (s:Nat))) (wr.putObj D (.deferred none)) from⟨s,rfl,hsB,fun j=>by
     rw[Hs.out,←Hfin.out j];constructor
     ·rintro⟨x,-,v,h1,h2⟩;exact⟨x,v,h1,h2⟩
     ·rintro⟨x,v,h1,h2⟩
      exact⟨x,(RR.perm x).2 (key_of_getK h1),v,h1,h2⟩,Below.trans Er (belowK_b (w:=w) (Nat.le_refl _) wr D _ _ (by have:=Hz5.out;omega) hKr rfl rfl)⟩)
    clear hsB Er hKr;go_wp2_with (at_next;refine wpList_nxtKV (enc:=encPr) (ev:=evF) encPr_inj rfl _ rfl (Tp+1+1) R mm done [] rfl RR (fun _=> ?_) (fun x u left' w' _ h1 h2=>absurd h2 (by simp)));refine⟨by simp,.inl ⟨_,_,rfl,run_takeDeferred HKr.out,?_⟩⟩;exact⟨.int .u64 (s:Nat),by simp[results,Tryz.results39,go_sem],HF.out⟩
   ·go_upto_region 15 with(at_next;refine wpList_nxtKV (enc:=encPr) (ev:=evF) encPr_inj rfl _ rfl (Tp+1+1) R mm done left rfl RR (fun h=>absurd h hle) ?_;intro x v left' w7 hmem R7 hlt7 g7 z7 ent;obtain⟨vb,va⟩:=v;unfold evF at ent ⊢)
    have hgk:=getK_of_mem HSI.out.nd _ hmem;simp only at hgk;have hvb:=Hbd.out _ _ hgk;simp only at hvb;have WC:=fun W=>with6_c s vb ((hsB.mono (show m.bs.length≤64 by omega)).lt) (by omega) W;have E7:=Er.grown g7 (fun k hk=>by have:=Option.some.inj hk;omega);have hK7:w7.heap[D]? = some (.deferred (some [])):=(g7.block D (Array.getElem?_eq_some_iff.1 hKr).1 (fun e=>by have:=Option.some.inj e;omega)).trans hKr;obtain⟨W8,hW8,E8,B8,-⟩:=mk_ w7 #[.int .i64 vb,.int .i64 va] 156;have b8:=B8.cell;have R8:=R7.ext E8;have E78:=E7.trans E8;have hK8:=(E8.block D (Array.getElem?_eq_some_iff.1 hK7).1).trans hK7;have hsB2:=hsB.put hvb;have Hs2:=h_ (show ∀j,(putN s vb).testBit j=true ↔ ∃y∈done ++ [x],∃v,getK mm y=some v∧v.1=j from fun j=>by
     rw[putN_bit,Bool.or_eq_true,Hs.out];constructor
     ·rintro(⟨y,h1,h2⟩|h)
      ·exact⟨y,by simp[h1],h2⟩
      ·exact⟨x,by simp,(vb,va),hgk,of_decide_eq_true h⟩
     ·rintro⟨y,h1,v,h2,h3⟩;rcases List.mem_append.1 h1 with h1|h1
      ·exact Or.inl ⟨y,h1,v,h2,h3⟩
      ·rw[List.mem_singleton] at h1;subst h1;rw[hgk] at h2;cases h2
       exact Or.inr (decide_eq_true h3))
    clear hmem hgk g7 z7 Er hKr RR E7 hK7 E8 B8 R7 hsB Hs;go_wp2_with fail;refine(WC _).mono ?_;rintro e W9 ⟨rfl,E9⟩;have HRel:=h_ (show RngOf encPr evF W9 (Tp+1+1) R mm (done ++ [x]) left'∧Ext w W9∧W9.heap[D]? = some (.deferred (some [])) from⟨R8.ext E9,E78.trans E9,(E9.block D (Array.getElem?_eq_some_iff.1 hK8).1).trans hK8⟩);clear R8 E78 hK8 E9 b8 hW8 WC ent;go_wp2_with fail;go_roundw
    case rel=>exact⟨_,_,left',rfl,hsB2,Hs2,HRel.out⟩
    case measure =>
     rw[HRel.out.1.left_eq,Hle.out];exact hlt7
end Go.Proofs.YtojolpbpjimfgaaGreatDoor
namespace Go.Proofs.YtojolpbpjimfgaaGreatDoor
open Go.RowKit
theorem seen_lt{n s:Nat}(h:SetB n s)(hn:n≤64):s<2 ^ 64:=(h.mono hn).lt
theorem view6_c(m:MB)(p:PlV)(hm:List (Int×Bool))(z y:Nat)(l:List PutV)(w:World)(hp:PlanAt w m p hm)(hM:MBAt w m)(h0:checkErr m.ks m.bs=0)(hz:SetB m.bs.length z)(hT:Tz6Tab w)
  (hy64:y<2 ^ 64) (hl: ∀p∈l,0≤p.b∧p.b<m.bs.length) (hd:(putsB l).Nodup) (hin: ∀p∈l,z.testBit p.b.toNat=true) (hy: ∀j,y.testBit j=true ↔ ∃p∈l,p.b.toNat=j) :
  Calls Tryz.prog 53 #[.pointer (some ⟨p.X,0,none⟩),.int .u64 z,.int .u64 y] w fun e w'=>e = .returned (.int .u8 (viewQ m.ks m.bs z l:Nat))∧Ext w w':=by
 have hnb:=(hM.fit h0).n;have HS:Hid (∀(d:Nat),d<6 → ∀(W:World),Ext w W→Calls Tryz.prog 39 #[.pointer (some ⟨p.X,0,none⟩),.int .u64 z,.int .i64 d] W fun e w'=> ∃s:Nat,e = .returned (.int .u64 s)∧s<2 ^ 64∧(setL (s&&&y)).length=seeC m.ks m.bs z l d∧Ext W w') :=
  h_ fun d hd6 W E=>(seen6_c m p hm z d W (hp.ext E) (hM.ext E) h0 hz hd6 (hT.ext E)).mono fun e w' ⟨s,e1,e2,e3,e4⟩=>⟨s,e1,seen_lt e2 (by omega),seeC_set (show m.bs.length≤64 by omega) hl hd hin e3 hy,e4⟩
 have hvl:=viewF_lt (seeC m.ks m.bs z l) 6;have Hw:=h_ (show((viewQ m.ks m.bs z l:Nat):Int) % 256=(viewQ m.ks m.bs z l:Nat) from by
  unfold viewQ
  omega)
 have hvm:=h_ (viewF_most (seeC m.ks m.bs z l) (seeC_le m.ks m.bs z l));have Hq:=h_ (show(viewF (seeC m.ks m.bs z l) 6).1=viewQ m.ks m.bs z l from rfl);obtain⟨vq,hvq⟩:=nm (viewQ m.ks m.bs z l);rw[hvq] at Hw Hq;rw[hvq];obtain⟨f,hf⟩:=nm (seeC m.ks m.bs z l);rw[hf] at HS Hq hvm;have Hy64:=h_ hy64;clear hp hM h0 hz hT hl hd hin hy hvl hvq hf hnb hy64;go_enter Tryz.func53,Tryz.ntmps53;go_wp2_with fail;go_loopw [7,8,11] (fun vb vm ii wr=> ∃(d b:Nat) (t:Int),d≤6∧ii = .int .i64 d∧vb = .int .i64 b∧vm = .int .i64 t∧Hid (viewF f d=(b,t))∧Ext w wr) (fun _ _ ii _=>6-(intOf ii).toNat)
 case atStart=>exact⟨0,0,-1,by omega,rfl,rfl,rfl,h_ rfl,Ext.refl _⟩
 case round =>
  obtain⟨d,b,t,hd,rfl,rfl,rfl,Hv,Er⟩:=hrel;by_cases hlt:d<6
  ·have SC:=HS.out d hlt wr Er;have d0:(0:Int)≤d:=by omega
   have d1:(d:Int)<6:=by omega
   have hb:=viewF_lt f d;have ht:=hvm.out d;rw[Hv.out] at hb ht;simp only at hb ht;have HEr:=h_ Er;have Hs:=h_ (show viewF f (d+1)=if t<f d then(d,(f d:Int)) else(b,t) by show(if(viewF f d).2<f d then(d,(f d:Int)) else viewF f d)=_;rw[Hv.out]);clear Er Hv;obtain⟨n,hn⟩:=nm (f d);rw[hn] at SC Hs;clear hn;go_wp2_with fail;refine SC.mono ?_;rintro e W1 ⟨s,rfl,hs,hlen,E1⟩;have ha:=and_u64 hs Hy64.out;have OC:=ones6_c (s&&&y) (Nat.and_lt_two_pow _ Hy64.out) W1;rw[hlen] at OC;obtain⟨x,hx⟩:=nm (s&&&y);rw[hx] at ha OC;have HE1:=h_ (HEr.out.trans E1);clear E1 hs hlen hx SC;go_wp2_with fail;refine OC.mono ?_;rintro e W2 ⟨rfl,e2⟩;subst e2;clear OC ha;by_cases hgt:t<(n:Int)
   ·have hgt':(n:Int)>t:=hgt;go_wp2_with fail;go_roundw
    case rel=>exact⟨d+1,d,n,by omega,by go_num,rfl,rfl,h_ (by rw[Hs.out,if_pos hgt]),HE1.out⟩
    case measure=>simp only[intOf];omega
   ·have hgt':decide ((n:Int)>t)=false:=decide_eq_false hgt;go_wp2_with fail;go_roundw
    case rel=>exact⟨d+1,b,t,by omega,by go_num,rfl,rfl,h_ (by rw[Hs.out,if_neg (by omega)]),HE1.out⟩
    case measure=>simp only[intOf];omega
  ·obtain rfl:d=6:=by omega
   have hb:b=vq:=by rw[←Hq.out,Hv.out]
   subst hb;have HR:=h_ Er;clear Er Hv;go_wp2_with fail;refine bodyPost_ret (v:= .int .u8 b) (by simp[results,Tryz.results53,go_sem];exact Hw.out) rfl ⟨rfl,HR.out⟩
end Go.Proofs.YtojolpbpjimfgaaGreatDoor
