/- Texts of the proof: KnobsP, RPlaced, RKnobbed, LikeS, Like, Api1. -/
import Derived.Test.YtojolpbpjimfgaaGreatDoorZy7
import Derived.Test.YtojolpbpjimfgaaGreatDoorZy10
set_option maxHeartbeats 8000000
set_option maxRecDepth 100000
namespace Go.Proofs.YtojolpbpjimfgaaGreatDoor
open Go.RowKit
def knobT(n:Nat)(p:Pt)(x:Knb):Knb:=⟨addP (turnS x.at_ n) p,dirT x.dir.toNat n,x.sort⟩
def placeK(knobs:List Knb)(n:Nat)(p:Pt):List Knb:=knobs.map (knobT n p)
theorem placeK_len(knobs:List Knb)(n:Nat)(p:Pt):(placeK knobs n p).length=knobs.length:=List.length_map _
def knbsA(l:List Knb):Array Value:=rowsA (l.map Knb.cs)
theorem knbs_wide(l:List Knb): ∀r∈l.map Knb.cs,r.length=5:=fun r h=>by
 obtain⟨p,_,rfl⟩:=List.mem_map.1 h;rfl
theorem infoKnb:(Tryz.prog.info? 137).map (fun i=>(i.zero,i.size,i.bytes))=some (some (.agg #[.int .i64 0,.int .i64 0,.int .i64 0,.int .u8 0,.int .u8 0]),5,32):=by kernel_rfl
def zK:Knb:=⟨⟨0,0,0⟩,0,0⟩
theorem make_knbs(n:Nat)(hn:n≤1000)(w:World):(Instr.makeSlice 110 (.int .i64 (n:Int)) (.int .i64 (n:Int))).run Tryz.prog w = .ok (.slice (some ⟨w.heap.size,0,none⟩) n n) (w.alloc (.cells (knbsA (List.replicate n zK)) 137)):=by
 obtain⟨i0,hi,hz0,hz1,hz2⟩:=info_parts infoKnb;have h:=run_make (P:=Tryz.prog) w 110 137 i0 _ Tryz.underlying110 hi hz0 .i64 .i64 (n:Int) (n:Int) (by omega) (Int.le_refl _) (by rw[hz2];omega) (by omega);rw[h];have e:madeCells (Value.cells (.agg #[.int .i64 0,.int .i64 0,.int .i64 0,.int .u8 0,.int .u8 0])) ((n:Int).toNat*i0.size)=knbsA (List.replicate n zK):=by
  rw[hz1,Int.toNat_natCast,rowsA_made (sz:=5) rfl (by omega)];unfold knbsA;rw[List.map_replicate];rfl
 rw[e];simp
def KnobsPost(l:List Knb)(n:Nat)(w:World)(e:Ending)(w':World):Prop:= ∃g,w.heap.size≤g∧e = .returned (.slice (some ⟨g,0,none⟩) n n)∧Blk w' g 137 (knbsA l)∧Ext w w'
theorem direction_t(d n:Nat)(hd:d<6)(hn:n<24)(w:World) :
  Calls Tryz.prog 121 #[.agg #[.int .i64 (turnS ⟨(stepS d).x,(stepS d).y,(stepS d).z⟩ n).x,.int .i64 (turnS ⟨(stepS d).x,(stepS d).y,(stepS d).z⟩ n).y,.int .i64 (turnS ⟨(stepS d).x,(stepS d).y,(stepS d).z⟩ n).z]] w fun e w'=>e = .returned (.int .i64 (dirT d n))∧Ext w w':=by
 have:=direction_c (dirT d n) (dirT_lt hd hn) w;rw[←dirT_eq hd hn] at this;exact this
def Knb.fine(x:Knb):Prop:=x.at_.ok∧0≤x.dir∧x.dir≤5
theorem knobs_c(m ca:Nat)(knobs:List Knb)(wt:Int)(A:Option Addr)(B:Option Addr)(cb:Nat)(n:Nat)(x y z:Int)(w:World)(hk:Knobs w B cb knobs)(hl:knobs.length≤1000)(hok: ∀p∈knobs,p.fine)(hn:n<24)(hp:Pt.ok ⟨x,y,z⟩) :
  Calls Tryz.prog 92 #[.agg #[.slice A m ca,.slice B knobs.length cb,.int .i64 wt],.int .i64 n,.agg #[.int .i64 x,.int .i64 y,.int .i64 z]] w (KnobsPost (placeK knobs n ⟨x,y,z⟩) knobs.length w):=by
 have hmk:=make_knbs knobs.length (by omega);obtain⟨W1,hW1,E1,B1,hz1⟩:=mk_ w #[.slice A m ca,.slice B knobs.length cb,.int .i64 wt] 112;obtain⟨W2,hW2,E2,B2,hz2⟩:=mk_ W1 #[.int .i64 x,.int .i64 y,.int .i64 z] 124;obtain⟨W3,hW3,E3,B3,hz3⟩:=mk_ W2 (knbsA (List.replicate knobs.length zK)) 137;rw[hz1] at B2;rw[hz2,hz1] at B3;have B1':=B1.ext E2;have b1:=B1'.cell;have b3:=(B1'.ext E3).cell;have E13:=(E1.trans E2).trans E3;go_enter Tryz.func92,Tryz.ntmps92;go_wp2_with fail;have BK:=B1'.ext E3;have BP:=B2.ext E3;rw[←placeK_len knobs n ⟨x,y,z⟩,←partL_zero] at B3;clear hW1 hW2 hW3 hz1 hz2 hz3 b1 b3 B1 B1' B2 hmk E1 E2 E3;have Hpl:=h_ (placeK_len knobs n ⟨x,y,z⟩);obtain⟨S,hS⟩:=nm w.heap.size;rw[hS] at B3 BK BP ⊢;have HS:=h_ hS;clear hS;go_loopw [17] (fun i wr=> ∃j:Nat,j≤knobs.length∧i = .int .i64 j∧Ext w wr∧Blk wr S 112 #[.slice A m ca,.slice B knobs.length cb,.int .i64 wt]∧Blk wr (S+1) 124 #[.int .i64 x,.int .i64 y,.int .i64 z]∧Blk wr (S+1+1) 137 (knbsA (partL zK (placeK knobs n ⟨x,y,z⟩) j))) (fun i _=>knobs.length-(intOf i).toNat)
 case atStart=>exact⟨0,by omega,rfl,E13,BK,BP,B3⟩
 case round =>
  clear B3 BK BP E13;obtain⟨j,hj,rfl,E,BK,BP,BO⟩:=hrel;by_cases hlt:j<knobs.length
  ·obtain⟨g,off,⟨⟨qx,qy,qz⟩,dir,sort⟩,rfl,hq,-,hg,c0,c1,c2,c3,c4⟩:=hk.at_ hlt;simp only at c0 c1 c2 c3 c4;obtain⟨hqo,hd0,hd5⟩:=hok _ (List.mem_of_getElem? hq);simp only at hqo hd0 hd5;obtain⟨d,rfl⟩: ∃d:Nat,dir=d:=⟨dir.toNat,by omega⟩;have d0:=E.cell c0;have d1:=E.cell c1;have d2:=E.cell c2;have d3:=E.cell c3;have d4:=E.cell c4;clear c0 c1 c2 c3 c4;have hd6:d<6:=by omega
   have hset:(placeK knobs n ⟨x,y,z⟩)[j]? = some ⟨addP (turnS ⟨qx,qy,qz⟩ n) ⟨x,y,z⟩,dirT d n,sort⟩:=by
    unfold placeK;rw[List.getElem?_map,hq];rfl
   have Hset:=h_ hset;clear hq hset;have i1:(0:Int)≤j:=by omega
   have i2:(j:Int)<knobs.length:=by omega
   have hdl:=dirT_lt hd6 hn;have f1:IntKind.i64.wrap (d:Int)=d:=IntWalk.i64_in _ (by omega);have f2:IntKind.u8.wrap (dirT d n:Int)=dirT d n:=IntWalk.u8_in _ (by omega);obtain⟨W4,hW4,E4,B4,hz4⟩:=mk_ wr #[.int .i64 qx,.int .i64 qy,.int .i64 qz,.int .u8 d,.int .u8 sort] 137;have b4:=B4.cell;have b2:=(BP.ext E4).cell
   go_upto_region 5 with(fail)
   refine wp_region_tail 20 (by kernel_rfl) (by kernel_rfl) ?_;simp only[List.take_succ_cons,List.take_zero,List.drop_succ_cons,List.drop_zero]
   repeat (go_big_quiet_step ((first|(go_at_call 118;exact quiet_ext (turn_c _ _ _ n _ hn (by first|exact hqo|exact stepS_ok d)))|(go_at_call 117;exact quiet_ext (plus_c _ _ _ _ _ _ _ (turnS_ok hqo n) hp))|(go_at_call 122;exact quiet_ext (step_c d hd6 _))|(go_at_call 121;exact quiet_ext (direction_t d n hd6 hn _)))))
   refine wpQuiet_nil ?_;intro W5 hW5;have E5:Ext W4 W5:=by
    obtain⟨x,rfl⟩:=hW5;exact(Ext.refl _).grow x
   clear hW5;obtain⟨hcW5,hfW5,hzW5⟩:=ext_facts E5;have BO':=(BO.ext E4).ext E5;unfold knbsA at BO';obtain⟨W6,hW6,B6,far6,ext6⟩:=BO'.row5 (knbs_wide _) (k:=j) (by rw[List.length_map,partL_len _ _ (by rw[Hpl.out];omega),Hpl.out];omega) (.int .i64 ((turnS ⟨qx,qy,qz⟩ n).x+x)) (.int .i64 ((turnS ⟨qx,qy,qz⟩ n).y+y)) (.int .i64 ((turnS ⟨qx,qy,qz⟩ n).z+z)) (.int .u8 (dirT d n)) (.int .u8 sort);have f6:=BO'.frozen;have hz0:((partL zK (placeK knobs n ⟨x,y,z⟩) j).map Knb.cs)[j]? = some (Knb.cs zK):=by rw[List.getElem?_map,partL_at _ _ (by rw[Hpl.out];exact hlt)];rfl
   have y0:=(BO'.cell (j*5+0)).trans (rowsA_get (knbs_wide _) hz0 (j:=0) rfl);have y1:=(BO'.cell (j*5+1)).trans (rowsA_get (knbs_wide _) hz0 (j:=1) rfl);have y2:=(BO'.cell (j*5+2)).trans (rowsA_get (knbs_wide _) hz0 (j:=2) rfl);have y3:=(BO'.cell (j*5+3)).trans (rowsA_get (knbs_wide _) hz0 (j:=3) rfl);have y4:=(BO'.cell (j*5+4)).trans (rowsA_get (knbs_wide _) hz0 (j:=4) rfl);simp only[Nat.add_zero] at y0;clear hz0;go_wp2_with fail;go_roundw
   case rel=>exact⟨j+1,by omega,by go_num,ext6 _ ((E.trans E4).trans E5) (by have:=HS.out;omega),far6 _ _ _ (by omega) ((BK.ext E4).ext E5),far6 _ _ _ (by omega) ((BP.ext E4).ext E5),by
    rw[←partL_set _ _ Hset.out];unfold knbsA;rw[List.map_set]
    exact B6⟩
   case measure=>simp only[intOf];omega
  ·obtain rfl:knobs.length=j:=by omega
   have hpa:partL zK (placeK knobs n ⟨x,y,z⟩) knobs.length=placeK knobs n ⟨x,y,z⟩:=by
    have:=partL_all zK (placeK knobs n ⟨x,y,z⟩);rwa [Hpl.out] at this
   rw[hpa] at BO;clear hpa;go_wp2_with fail;go_ret;exact⟨S+1+1,by have:=HS.out;omega,rfl,BO,E⟩
theorem flat_snoc(rows:List (List Value))(r:List Value):(rows ++ [r]).flatten=rows.flatten++r:=by simp
theorem take_map_snoc{α:Type}{f:α→List Value}{l:List α}{j:Nat}{x:α}(h:l[j]? = some x):((l.take (j+1)).map f).flatten=((l.take j).map f).flatten++f x:=by
 rw[List.take_add_one,h,Option.toList_some,List.map_append,List.map_cons,List.map_nil,flat_snoc]
theorem rPlaced_c(qs:List (Knd×KAt))(QA:Option Addr)(qc:Nat)(i:Nat)(cells:List Pt)(knobs:List Knb)(wt:Int)(A:Option Addr)(ca:Nat)(B:Option Addr)(cb:Nat)(hi:qs[i]? = some (⟨cells,knobs,wt⟩,⟨A,ca,B,cb⟩))(n:Nat)(x y z c:Int)(w:World)(hk:Kinds w QA qc qs)
  (hpos:0<cells.length) (hl:cells.length≤1000) (hok: ∀p∈cells,p.ok) (hn:n<24) (hp:Pt.ok ⟨x,y,z⟩) :
  Calls Tryz.prog 68 #[.slice QA qs.length qc,.agg #[.int .i64 i,.int .i64 x,.int .i64 y,.int .i64 z,.int .u8 n,.int .u8 c]] w (RCellsPost (sortP (placeP cells n ⟨x,y,z⟩)) cells.length w):=by
 have hil:i<qs.length:=(List.getElem?_eq_some_iff.1 hi).1;have hql:qs.length≤9223372036854775807:=by have:=hk.len;unfold maxLen at this;omega
 obtain⟨W1,hW1,E1,B1,hz1⟩:=mk_ w #[.int .i64 i,.int .i64 x,.int .i64 y,.int .i64 z,.int .u8 n,.int .u8 c] 126;obtain⟨W2,hW2,E2,B2,hz2⟩:=mk_ W1 #[.slice A cells.length ca,.slice B knobs.length cb,.int .i64 wt] 112;obtain⟨kg,koff,k',p',rfl,hq,hka,hkg,c0,c1,c2⟩:=(hk.ext E1).at_ hil;rw[hi] at hq;cases hq;simp only at c0 c1 c2;have hc:Cells w A ca cells:=(hk.k _ (List.mem_of_getElem? hi)).c;rw[hz1] at B2;have b1:=B1.cell;have B1':=B1.ext E2;have b2':=B1'.cell;have b2:=B2.cell;have i1:(0:Int)≤i:=by omega
 have i2:(i:Int)<qs.length:=by omega
 go_enter Tryz.func68,Tryz.ntmps68;go_wp2_with fail;have E12:=E1.trans E2;clear hW1 hW2 hz1 hz2 b1 b2 b2' B1 c0 c1 c2 hka hkg E1 E2;have Hpl:=h_ (placeP_len cells n ⟨x,y,z⟩);obtain⟨S,hS⟩:=nm w.heap.size;rw[hS] at B1' B2 ⊢;have HS:=h_ hS;clear hS;obtain⟨i0,hi0,hz0,hz1,hz2⟩:=info_parts infoPt3;go_loopw [6,7] (fun v ii wr=> ∃(j:Nat) (u:Value),j≤cells.length∧ii = .int .i64 j∧u=v∧Ext w wr∧Blk wr S 126 #[.int .i64 i,.int .i64 x,.int .i64 y,.int .i64 z,.int .u8 n,.int .u8 c]∧Blk wr (S+1) 112 #[.slice A cells.length ca,.slice B knobs.length cb,.int .i64 wt]∧wr.ownsRow (S+1+1) 124 3 u j (((placeP cells n ⟨x,y,z⟩).take j).map Pt.cs).flatten) (fun _ ii _=>cells.length-(intOf ii).toNat)
 case atStart=>exact⟨0,_,by omega,rfl,rfl,E12,B1',B2,World.ownsRow_nil _ _ _ _⟩
 case round =>
  clear E12 B1' B2;obtain⟨j,v,hj,rfl,rfl,E,BB,BK,own⟩:=hrel;have hSr:=BK.lt;by_cases hlt:j<cells.length
  ·obtain⟨g,off,⟨qx,qy,qz⟩,rfl,hq,hg,c0,c1,c2⟩:=hc.at_ hlt;simp only at c0 c1 c2;have hqo:=hok _ (List.mem_of_getElem? hq);have hset:(placeP cells n ⟨x,y,z⟩)[j]? = some (addP (turnS ⟨qx,qy,qz⟩ n) ⟨x,y,z⟩):=by
    unfold placeP;rw[List.getElem?_map,hq];rfl
   have Hset:=h_ hset;clear hq hset;have j1:(0:Int)≤j:=by omega
   have j2:(j:Int)<cells.length:=by omega
   have f1:IntKind.i64.wrap (n:Int)=n:=IntWalk.i64_in _ (by omega);have d0:=E.cell c0;have d1:=E.cell c1;have d2:=E.cell c2;have C0:=h_ c0;have C1:=h_ c1;have C2:=h_ c2;clear c0 c1 c2;have k0:=BK.cell 0;have k1:=BB.cell 1;have k2:=BB.cell 2;have k3:=BB.cell 3;have k4:=BB.cell 4;have hml:j+1≤maxLen:=by unfold maxLen;omega
   have bk:=BK.cell
   go_upto_region 6 with(fail)
   clear bk;have own':wr.drew.ownsRow _ _ _ _ _ _:=own.drew
   go_region_held3 (fun w'=>w'.cell? ⟨S+1,0,none⟩=some (.slice (some ⟨g,off,none⟩) cells.length ca)∧w'.cell? ⟨g,off+j*3,none⟩=some (.int .i64 qx)∧w'.cell? ⟨g,off+j*3+1,none⟩=some (.int .i64 qy)∧w'.cell? ⟨g,off+j*3+2,none⟩=some (.int .i64 qz) ∧
     w'.cell? ⟨S,1,none⟩=some (.int .i64 x)∧w'.cell? ⟨S,2,none⟩=some (.int .i64 y)∧w'.cell? ⟨S,3,none⟩=some (.int .i64 z)∧w'.cell? ⟨S,4,none⟩=some (.int .u8 n))
    (first
     | exact⟨BK4.cell 0,EE4.cell C0.out,EE4.cell C1.out,EE4.cell C2.out,BB4.cell 1,BB4.cell 2,BB4.cell 3,BB4.cell 4⟩
     | (go_split_ands;exact⟨((Ext.refl _).alloc _).cell (by assumption),((Ext.refl _).alloc _).cell (by assumption),((Ext.refl _).alloc _).cell (by assumption),((Ext.refl _).alloc _).cell (by assumption),((Ext.refl _).alloc _).cell (by assumption),((Ext.refl _).alloc _).cell (by assumption),((Ext.refl _).alloc _).cell (by assumption),((Ext.refl _).alloc _).cell (by assumption)⟩)
     | (go_split_ands;exact⟨E6.cell (by assumption),E6.cell (by assumption),E6.cell (by assumption),E6.cell (by assumption),E6.cell (by assumption),E6.cell (by assumption),E6.cell (by assumption),E6.cell (by assumption)⟩)
     | (go_split_ands;exact⟨E5.cell (by assumption),E5.cell (by assumption),E5.cell (by assumption),E5.cell (by assumption),E5.cell (by assumption),E5.cell (by assumption),E5.cell (by assumption),E5.cell (by assumption)⟩)
     | go_keep)
    (first
     | (go_at_call 97;refine(turned_c qx qy qz n _ hn hqo).mono ?_;rintro e w5 ⟨rfl,E5⟩)
     | (go_at_call 96;refine(rPlus_c (turnS ⟨qx,qy,qz⟩ n).x (turnS ⟨qx,qy,qz⟩ n).y (turnS ⟨qx,qy,qz⟩ n).z x y z _ (turnS_ok hqo n) hp).mono ?_;rintro e w6 ⟨rfl,E6⟩)
     | (refine step_append_one #[.int .i64 ((turnS ⟨qx,qy,qz⟩ n).x+x),.int .i64 ((turnS ⟨qx,qy,qz⟩ n).y+y),.int .i64 ((turnS ⟨qx,qy,qz⟩ n).z+z)] rfl (.tmp 20) (.tmp 33) 109 rfl (S+1+1) 124 124 i0 _ 3 24 Tryz.underlying109 hi0 hz0 hz1 hz2 rfl (by decide) v j _ _ rfl (own_ext (own_ext own' E5) E6) rfl rfl (by simp[Value.oneCell']) hml (by omega) (Nat.le_trans hSr (Nat.le_trans E5.size E6.size)) ?_;intro g4 cap4 w4 own4 hg4;have BB4:=(((BB.drew.ext E5).ext E6).alloc (.cells #[.int .i64 ((turnS ⟨qx,qy,qz⟩ n).x+x),.int .i64 ((turnS ⟨qx,qy,qz⟩ n).y+y),.int .i64 ((turnS ⟨qx,qy,qz⟩ n).z+z)] 124)).grown hg4 (own_ne own (by omega));have BK4:=(((BK.drew.ext E5).ext E6).alloc (.cells #[.int .i64 ((turnS ⟨qx,qy,qz⟩ n).x+x),.int .i64 ((turnS ⟨qx,qy,qz⟩ n).y+y),.int .i64 ((turnS ⟨qx,qy,qz⟩ n).z+z)] 124)).grown hg4 (own_ne own (by omega));have EE4:=(((E.drew.trans E5).trans E6).alloc (.cells #[.int .i64 ((turnS ⟨qx,qy,qz⟩ n).x+x),.int .i64 ((turnS ⟨qx,qy,qz⟩ n).y+y),.int .i64 ((turnS ⟨qx,qy,qz⟩ n).z+z)] 124)).grown hg4 (fun q hq=>by have:=(own.lt q hq).1;have:=HS.out;omega)))
   go_wp2_with fail;go_roundw
   case rel=>exact⟨j+1,_,by omega,by go_num,rfl,EE4,BB4,BK4,by
    rw[take_map_snoc Hset.out]
    exact own4⟩
   case measure=>simp only[intOf];omega
  ·obtain rfl:cells.length=j:=by omega
   obtain⟨g,cap,rfl⟩:=own_form own hpos;have hta:(placeP cells n ⟨x,y,z⟩).take cells.length=placeP cells n ⟨x,y,z⟩:=List.take_of_length_le (by rw[Hpl.out];exact Nat.le_refl _);rw[hta] at own;obtain⟨X,hg,q1,q2⟩:=RowX.of_own own;have hcs:Cells wr (some ⟨g,0,none⟩) cap (placeP cells n ⟨x,y,z⟩):=X.slice (pts_wide _) (by rw[List.length_map]) (by rw[Hpl.out];exact q1) q2;have RS:=rSorted_c (placeP cells n ⟨x,y,z⟩) (some ⟨g,0,none⟩) cap wr hcs (by rw[Hpl.out];exact hpos) (by rw[Hpl.out];exact hl);rw[Hpl.out] at RS;have bk:=BK.cell;clear hta;go_wp2_with fail;refine RS.mono ?_;rintro v w2 ⟨g2,c2,hg2,rfl,r1,r2,X2,E2⟩;go_wp2_with fail;go_ret;exact⟨g2,c2,Nat.le_trans E.size hg2,rfl,r1,r2,X2,E.trans E2⟩
theorem infoKnb5:(Tryz.prog.info? 137).map (fun i=>(i.zero,i.size,i.bytes))=some (some (.agg #[.int .i64 0,.int .i64 0,.int .i64 0,.int .u8 0,.int .u8 0]),5,32):=by kernel_rfl
def RKnobsPost(l:List Knb)(n:Nat)(w:World)(e:Ending)(w':World):Prop:= ∃A cap,e = .returned (.slice A n cap)∧SliceIs w' A n cap 5 (l.map Knb.cs)∧(∀q,A=some q→w.heap.size≤q.block)∧Ext w w'
def RKnobsOwn(l:List Knb)(n:Nat)(w:World)(e:Ending)(w':World):Prop:= ∃v,e = .returned v ∧ ∃b,w.heap.size≤b∧w'.ownsRow b 137 5 v n (l.map Knb.cs).flatten∧Ext w w'
theorem own_slice0{w:World}{b:Nat}{e:TypeId}{sz:Nat}{v:Value}{n:Nat}{rows:List (List Value)}(hw: ∀r∈rows,r.length=sz)(hn:rows.length=n)(h:w.ownsRow b e sz v n rows.flatten): ∃A cap,v = .slice A n cap∧SliceIs w A n cap sz rows∧(∀q,A=some q→b≤q.block):=by
 rcases h.2 with⟨hv,h0⟩|⟨g,cap,cur,hv,hg,hb,h1,h2,_,_⟩
 ·subst h0;exact⟨none,0,hv,⟨hn,Nat.le_refl _,Nat.zero_le _,hw,fun h=>by omega⟩,fun q hq=>by cases hq⟩
 ·subst hv;obtain⟨X,q0,q1,q2⟩:=RowX.of_own h;exact⟨_,_,rfl,X.slice hw hn q1 q2,fun q hq=>by cases hq;exact q0⟩
theorem rKnobbedO_c(qs:List (Knd×KAt))(QA:Option Addr)(qc:Nat)(i:Nat)(cells:List Pt)(knobs:List Knb)(wt:Int)(A:Option Addr)(ca:Nat)(B:Option Addr)(cb:Nat)(hi:qs[i]? = some (⟨cells,knobs,wt⟩,⟨A,ca,B,cb⟩))(n:Nat)(x y z c:Int)(w:World)(hk:Kinds w QA qc qs)
  (hl:knobs.length≤1000) (hok: ∀p∈knobs,p.fine) (hn:n<24) (hp:Pt.ok ⟨x,y,z⟩) :
  Calls Tryz.prog 101 #[.slice QA qs.length qc,.agg #[.int .i64 i,.int .i64 x,.int .i64 y,.int .i64 z,.int .u8 n,.int .u8 c]] w (RKnobsOwn (placeK knobs n ⟨x,y,z⟩) knobs.length w):=by
 have hil:i<qs.length:=(List.getElem?_eq_some_iff.1 hi).1;have hql:qs.length≤9223372036854775807:=by have:=hk.len;unfold maxLen at this;omega
 obtain⟨W1,hW1,E1,B1,hz1⟩:=mk_ w #[.int .i64 i,.int .i64 x,.int .i64 y,.int .i64 z,.int .u8 n,.int .u8 c] 126;obtain⟨W2,hW2,E2,B2,hz2⟩:=mk_ W1 #[.slice A cells.length ca,.slice B knobs.length cb,.int .i64 wt] 112;obtain⟨kg,koff,k',p',rfl,hq,hka,hkg,c0,c1,c2⟩:=(hk.ext E1).at_ hil;rw[hi] at hq;cases hq;simp only at c0 c1 c2;have hc:Knobs w B cb knobs:=(hk.k _ (List.mem_of_getElem? hi)).n;rw[hz1] at B2;have b1:=B1.cell;have B1':=B1.ext E2;have b2':=B1'.cell;have b2:=B2.cell;have i1:(0:Int)≤i:=by omega
 have i2:(i:Int)<qs.length:=by omega
 go_enter Tryz.func101,Tryz.ntmps101;go_wp2_with fail;have E12:=E1.trans E2;clear hW1 hW2 hz1 hz2 b1 b2 b2' B1 c0 c1 c2 hka hkg E1 E2;have Hpl:=h_ (placeK_len knobs n ⟨x,y,z⟩);obtain⟨S,hS⟩:=nm w.heap.size;rw[hS] at B1' B2 ⊢;have HS:=h_ hS;clear hS;obtain⟨i0,hi0,hz0,hz1,hz2⟩:=info_parts infoKnb5;go_loopw [6,7] (fun v ii wr=> ∃(j:Nat) (u:Value),j≤knobs.length∧ii = .int .i64 j∧u=v∧Ext w wr∧Blk wr S 126 #[.int .i64 i,.int .i64 x,.int .i64 y,.int .i64 z,.int .u8 n,.int .u8 c]∧Blk wr (S+1) 112 #[.slice A cells.length ca,.slice B knobs.length cb,.int .i64 wt]∧wr.ownsRow (S+1+1) 137 5 u j (((placeK knobs n ⟨x,y,z⟩).take j).map Knb.cs).flatten) (fun _ ii _=>knobs.length-(intOf ii).toNat)
 case atStart=>exact⟨0,_,by omega,rfl,rfl,E12,B1',B2,World.ownsRow_nil _ _ _ _⟩
 case round =>
  clear E12 B1' B2;obtain⟨j,v,hj,rfl,rfl,E,BB,BK,own⟩:=hrel;have hSr:=BK.lt;by_cases hlt:j<knobs.length
  ·obtain⟨g,off,⟨⟨qx,qy,qz⟩,dir,sort⟩,rfl,hq,-,hg,c0,c1,c2,c3,c4⟩:=hc.at_ hlt;simp only at c0 c1 c2 c3 c4;obtain⟨hqo,hd0,hd5⟩:=hok _ (List.mem_of_getElem? hq);simp only at hqo hd0 hd5;obtain⟨d,rfl⟩: ∃d:Nat,dir=d:=⟨dir.toNat,by omega⟩;have hd6:d<6:=by omega
   have hset:(placeK knobs n ⟨x,y,z⟩)[j]? = some ⟨addP (turnS ⟨qx,qy,qz⟩ n) ⟨x,y,z⟩,dirT d n,sort⟩:=by
    unfold placeK;rw[List.getElem?_map,hq];rfl
   have Hset:=h_ hset;clear hq hset;have j1:(0:Int)≤j:=by omega
   have j2:(j:Int)<knobs.length:=by omega
   have hdl:=dirT_lt hd6 hn;have f1:IntKind.i64.wrap (n:Int)=n:=IntWalk.i64_in _ (by omega);have f2:IntKind.i64.wrap (d:Int)=d:=IntWalk.i64_in _ (by omega);have f3:IntKind.u8.wrap (dirT d n:Int)=dirT d n:=IntWalk.u8_in _ (by omega);have d0:=E.cell c0;have d1:=E.cell c1;have d2:=E.cell c2;have d3:=E.cell c3;have d4:=E.cell c4;clear c0 c1 c2 c3 c4;have bk:=BK.cell;obtain⟨W4,hW4,E4,B4,hz4⟩:=mk_ wr #[.int .i64 qx,.int .i64 qy,.int .i64 qz,.int .u8 d,.int .u8 sort] 137;obtain⟨KB,hKB⟩:=nm wr.heap.size;rw[hKB] at B4;have k0:=B4.cell 0;have k1:=B4.cell 1;have k2:=B4.cell 2;have k3:=B4.cell 3;have k4:=B4.cell 4;have l1:=(BB.ext E4).cell 1;have l2:=(BB.ext E4).cell 2;have l3:=(BB.ext E4).cell 3;have l4:=(BB.ext E4).cell 4;have hml:j+1≤maxLen:=by unfold maxLen;omega
   go_upto_region 7 with(fail)
   have HKB:=h_ hKB;clear bk d0 d1 d2 d3 d4 hW4 hz4 hKB;have own':W4.drew.ownsRow _ _ _ _ _ _:=(own_ext own E4).drew;have EX:Ext W4 W4.drew:=(Ext.refl _).drew;have BBx:=BB.ext E4;have BKx:=BK.ext E4;have EEx:=E.trans E4;clear BB BK E
   go_region_held3 (fun w'=>w'.cell? ⟨KB,0,none⟩=some (.int .i64 qx)∧w'.cell? ⟨KB,1,none⟩=some (.int .i64 qy)∧w'.cell? ⟨KB,2,none⟩=some (.int .i64 qz)∧w'.cell? ⟨KB,3,none⟩=some (.int .u8 d)∧w'.cell? ⟨KB,4,none⟩=some (.int .u8 sort) ∧
     w'.cell? ⟨S,1,none⟩=some (.int .i64 x)∧w'.cell? ⟨S,2,none⟩=some (.int .i64 y)∧w'.cell? ⟨S,3,none⟩=some (.int .i64 z)∧w'.cell? ⟨S,4,none⟩=some (.int .u8 n))
    (first
     | exact⟨KB4.cell 0,KB4.cell 1,KB4.cell 2,KB4.cell 3,KB4.cell 4,BB4.cell 1,BB4.cell 2,BB4.cell 3,BB4.cell 4⟩
     | exact⟨EX.cell k0,EX.cell k1,EX.cell k2,EX.cell k3,EX.cell k4,EX.cell l1,EX.cell l2,EX.cell l3,EX.cell l4⟩
     | exact⟨(EX.alloc _).cell k0,(EX.alloc _).cell k1,(EX.alloc _).cell k2,(EX.alloc _).cell k3,(EX.alloc _).cell k4,(EX.alloc _).cell l1,(EX.alloc _).cell l2,(EX.alloc _).cell l3,(EX.alloc _).cell l4⟩
     | go_keep)
    (first
     | (go_at_call 97;refine(turned_c qx qy qz n _ hn hqo).mono ?_;rintro e wn ⟨rfl,En⟩;replace EX:=EX.trans En;clear En)
     | (go_at_call 137;refine(pointed_c d n hd6 hn _).mono ?_;rintro e wn ⟨rfl,En⟩;replace EX:=EX.trans En;clear En)
     | (go_at_call 96;refine(rPlus_c (turnS ⟨qx,qy,qz⟩ n).x (turnS ⟨qx,qy,qz⟩ n).y (turnS ⟨qx,qy,qz⟩ n).z x y z _ (turnS_ok hqo n) hp).mono ?_;rintro e wn ⟨rfl,En⟩;replace EX:=EX.trans En;clear En)
     | (refine step_append_one #[.int .i64 ((turnS ⟨qx,qy,qz⟩ n).x+x),.int .i64 ((turnS ⟨qx,qy,qz⟩ n).y+y),.int .i64 ((turnS ⟨qx,qy,qz⟩ n).z+z),.int .u8 (dirT d n),.int .u8 sort] rfl (.tmp 26) (.tmp 47) 110 rfl (S+1+1) 137 137 i0 _ 5 32 Tryz.underlying110 hi0 hz0 hz1 hz2 rfl (by decide) v j _ _ rfl (own_ext (own_ext own E4) EX) rfl rfl (by simp[Value.oneCell']) hml (by omega) (Nat.le_trans hSr (Nat.le_trans E4.size EX.size)) ?_;intro g4 cap4 w4 own4 hg4;have BB4:=((BBx.ext EX).alloc (.cells #[.int .i64 ((turnS ⟨qx,qy,qz⟩ n).x+x),.int .i64 ((turnS ⟨qx,qy,qz⟩ n).y+y),.int .i64 ((turnS ⟨qx,qy,qz⟩ n).z+z),.int .u8 (dirT d n),.int .u8 sort] 137)).grown hg4 (own_ne own (by omega));have BK4:=((BKx.ext EX).alloc (.cells #[.int .i64 ((turnS ⟨qx,qy,qz⟩ n).x+x),.int .i64 ((turnS ⟨qx,qy,qz⟩ n).y+y),.int .i64 ((turnS ⟨qx,qy,qz⟩ n).z+z),.int .u8 (dirT d n),.int .u8 sort] 137)).grown hg4 (own_ne own (by omega));have KB4:=((B4.ext EX).alloc (.cells #[.int .i64 ((turnS ⟨qx,qy,qz⟩ n).x+x),.int .i64 ((turnS ⟨qx,qy,qz⟩ n).y+y),.int .i64 ((turnS ⟨qx,qy,qz⟩ n).z+z),.int .u8 (dirT d n),.int .u8 sort] 137)).grown hg4 (fun h=>by have:=(own.lt KB h.symm).2;have:=HKB.out;omega);have EE4:=((EEx.trans EX).alloc (.cells #[.int .i64 ((turnS ⟨qx,qy,qz⟩ n).x+x),.int .i64 ((turnS ⟨qx,qy,qz⟩ n).y+y),.int .i64 ((turnS ⟨qx,qy,qz⟩ n).z+z),.int .u8 (dirT d n),.int .u8 sort] 137)).grown hg4 (fun q hq=>by have:=(own.lt q hq).1;have:=HS.out;omega)))
   all_goals
    go_wp2_with fail;go_roundw
    case rel=>exact⟨j+1,_,by omega,by go_num,rfl,EE4,BB4,BK4,by
     rw[take_map_snoc Hset.out]
     exact own4⟩
    case measure=>simp only[intOf];omega
  ·obtain rfl:knobs.length=j:=by omega
   have hta:(placeK knobs n ⟨x,y,z⟩).take knobs.length=placeK knobs n ⟨x,y,z⟩:=List.take_of_length_le (by rw[Hpl.out];exact Nat.le_refl _);rw[hta] at own;clear hta;obtain⟨RA,rc,rfl,-,-⟩:=own_slice0 (knbs_wide _) (by rw[List.length_map];exact Hpl.out) own;have Hown:=h_ own;clear own;have bk:=BK.cell;go_wp2_with fail;go_ret;exact⟨_,rfl,S+1+1,by have:=HS.out;omega,Hown.out,E⟩
theorem rKnobbed_c(qs:List (Knd×KAt))(QA:Option Addr)(qc:Nat)(i:Nat)(cells:List Pt)(knobs:List Knb)(wt:Int)(A:Option Addr)(ca:Nat)(B:Option Addr)(cb:Nat)(hi:qs[i]? = some (⟨cells,knobs,wt⟩,⟨A,ca,B,cb⟩))(n:Nat)(x y z c:Int)(w:World)(hk:Kinds w QA qc qs)
  (hl:knobs.length≤1000) (hok: ∀p∈knobs,p.fine) (hn:n<24) (hp:Pt.ok ⟨x,y,z⟩) :
  Calls Tryz.prog 101 #[.slice QA qs.length qc,.agg #[.int .i64 i,.int .i64 x,.int .i64 y,.int .i64 z,.int .u8 n,.int .u8 c]] w (RKnobsPost (placeK knobs n ⟨x,y,z⟩) knobs.length w) :=
 (rKnobbedO_c qs QA qc i cells knobs wt A ca B cb hi n x y z c w hk hl hok hn hp).mono fun e w' ⟨v,he,b,hb,own,E⟩=>by
  obtain⟨RA,rc,rfl,hs,hq⟩:=own_slice0 (knbs_wide _) (by rw[List.length_map];exact placeK_len _ _ _) own;exact⟨RA,rc,he,hs,fun q h=>Nat.le_trans hb (hq q h),E⟩
def Pt.in_(B:Int)(p:Pt):Prop:=(-B≤p.x∧p.x≤B)∧(-B≤p.y∧p.y≤B)∧(-B≤p.z∧p.z≤B)
theorem Pt.in_.ok{B:Int}{p:Pt}(h:p.in_ B)(hB:B≤1000000):p.ok:=by
 unfold Pt.in_ at h;unfold Pt.ok CB;omega
theorem rotZn_in{B:Int}{p:Pt}(h:p.in_ B): ∀k,(rotZn p k).in_ B
 | 0=>h
 | k+1=>by
  have:=rotZn_in h k;unfold Pt.in_ at *
  unfold rotZn rotZ;simp only;omega
theorem turnS_in{B:Int}{p:Pt}(h:p.in_ B)(n:Nat):(turnS p n).in_ B:=by
 have:=rotZn_in h (n % 4);unfold turnS turnQ;unfold Pt.in_ at *
 split <;> first|omega|(simp only;omega)
theorem addP_in{B C:Int}{p q:Pt}(h:p.in_ B)(k:q.in_ C):(addP p q).in_ (B+C):=by
 unfold Pt.in_ at *
 unfold addP;simp only;omega
theorem near_in{p:Pt}(h:nearB p 0 15=true):p.in_ 15:=by
 rw[nearB_iff] at h;unfold Pt.in_;omega
theorem near_in'{p:Pt}(h:nearB p (-1000) 1000=true):p.in_ 1000:=by
 rw[nearB_iff] at h;unfold Pt.in_;omega
structure Knd.Fine(k:Knd):Prop where
 pos:0<k.cells.length
 len:k.cells.length≤24
 klen:k.knobs.length≤48
 near: ∀p∈k.cells,p.in_ 15
 knob: ∀x∈k.knobs,x.at_.in_ 15∧0≤x.dir∧x.dir≤5
theorem Knd.fine_of{k:Knd}(h:k.valid=true)(hb: ∀x∈k.knobs,x.byte):k.Fine:=by
 unfold Knd.valid at h;rw[Bool.and_eq_true,Bool.and_eq_true,sized_iff] at h;obtain⟨⟨⟨h1,h2⟩,h3,_,_⟩,h6,h7⟩:=h;have hnear: ∀p∈k.cells,p.in_ 15:=fun p hp=>by
  obtain⟨i,hi⟩:=List.getElem?_of_mem hp;have:=allR_at h6 (List.getElem?_eq_some_iff.1 hi).1;rw[cellOk,ptAt_eq hi,Bool.and_eq_true] at this;exact near_in this.1
 refine⟨h1,h2,h3,hnear,fun x hx=> ?_⟩;obtain⟨i,hi⟩:=List.getElem?_of_mem hx;have:=allR_at h7 (List.getElem?_eq_some_iff.1 hi).1;rw[knobOk,knbAt_eq hi,Bool.and_eq_true,Knb.one_iff] at this;obtain⟨⟨g1,_,g3,_⟩,_⟩:=this;exact⟨hnear _ (hasP_iff.1 g3),(hb x hx).1.1,g1⟩
theorem Knd.Fine.cok{k:Knd}(h:k.Fine): ∀p∈k.cells,p.ok:=fun p hp=>(h.near p hp).ok (by omega)
theorem Knd.Fine.kok{k:Knd}(h:k.Fine): ∀x∈k.knobs,x.fine:=fun x hx=>⟨(h.knob x hx).1.ok (by omega),(h.knob x hx).2⟩
def likeAt(k:Knd)(bt:Nat)(p:Pt)(n:Nat):Pt:=subP (ptAt (sortP (placeP k.cells bt p)) 0) (ptAt (sortP (placeP k.cells n ⟨0,0,0⟩)) 0)
def likeB(k:Knd)(bt:Nat)(p:Pt)(n:Nat):Bool:=eqC (sortP (placeP k.cells n (likeAt k bt p n))) (sortP (placeP k.cells bt p))&&subK (placeK k.knobs n (likeAt k bt p n)) (placeK k.knobs bt p)
theorem cells_of_blk{w:World}{g n:Nat}{l:List Pt}(h:Blk w g 124 (ptsA l))(hn:l.length=n)(hl:n≤100000):Cells w (some ⟨g,0,none⟩) n l:=by
 have:=Blk.slice (rows:=l.map Pt.cs) h (pts_wide l) (by rw[List.length_map];omega);rw[List.length_map,hn] at this;unfold Cells;rw[hn];exact this
def NewB(t:TypeId)(cs:Array Value)(w0:World)(v:Value)(w:World):Prop:= ∃g,v = .pointer (some ⟨g,0,none⟩)∧w0.heap.size≤g∧Blk w g t cs∧Ext w0 w
theorem Blk.ext'{w w':World}{g:Nat}{t:TypeId}{cs:Array Value}(h:Blk w g t cs)(e:Ext w w'):Blk w' g t cs:=h.ext e
theorem kindsErr_valid{l:List Knd}(h:kindsErr l=0){k:Knd}(hk:k∈l):k.valid=true:=by
 unfold kindsErr at h
 split at h
 ·cases h
 ·split at h
  ·rename_i h2;obtain⟨i,hi⟩:=List.getElem?_of_mem hk;have:=allR_at h2 (List.getElem?_eq_some_iff.1 hi).1
   simpa [kindAt,hi] using this
  ·cases h
theorem asked_zero{l:List Knd}{b:Brk}(h:askedErr l [b]=0):kindsErr l=0∧b.ok l.length=true:=by
 unfold askedErr at h
 split at h
 ·rename_i h0;refine⟨h0,?_⟩
  split at h
  ·rename_i h2;exact allR_at h2 (k:=0) (by simp)
  ·cases h
 ·rename_i h0;exact absurd h h0
theorem asked_kind{w:World}{QA:Option Addr}{qc:Nat}{qs:List (Knd×KAt)}(hk:Kinds w QA qc qs){b:Brk}(h:askedErr (qs.map (·.1)) [b]=0): ∃(i:Nat) (k:Knd) (p:KAt),b.kind=i∧qs[i]? = some (k,p)∧k.Fine∧nearB b.at_ (-1000) 1000=true∧b.turn<24:=by
 obtain⟨h1,h2⟩:=asked_zero h;rw[Brk.ok_iff,List.length_map] at h2;obtain⟨a1,a2,a3,a4,_⟩:=h2;obtain⟨i,hi⟩: ∃i:Nat,b.kind=i:=⟨b.kind.toNat,by omega⟩;have hil:i<qs.length:=by omega
 have hget:qs[i]? = some (qs[i].1,qs[i].2):=List.getElem?_eq_getElem hil;refine⟨i,qs[i].1,qs[i].2,hi,hget,?_,a3,a4⟩;have hm:qs[i]∈qs:=List.getElem_mem hil;exact Knd.fine_of (kindsErr_valid h1 (List.mem_map.2 ⟨_,hm,rfl⟩)) (hk.k _ hm).n.2
def CellsRes(l:List Pt)(n:Nat)(w:World)(e:Ending)(w':World):Prop:= ∃g cap,w.heap.size≤g∧e = .returned (.tuple #[.slice (some ⟨g,0,none⟩) n cap,.int .i64 0])∧n≤cap∧cap≤maxLen∧RowX w' g 124 (l.map Pt.cs)∧Ext w w'
theorem rowX_of_blk{w:World}{g:Nat}{t:TypeId}{rows:List (List Value)}(h:Blk w g t (rowsA rows)):RowX w g t rows:=⟨#[],by rw[Array.append_empty];exact h⟩
theorem Cells_ok(qs:List (Knd×KAt))(QA:Option Addr)(qc:Nat)(w:World)(hk:Kinds w QA qc qs)(i:Nat)(k:Knd)(p:KAt)(hi:qs[i]? = some (k,p))(hf:k.Fine)(x y z c:Int)(t:Nat)(hb:Brk.byte ⟨i,⟨x,y,z⟩,t,c⟩)(he:askedErr (qs.map (·.1)) [⟨i,⟨x,y,z⟩,t,c⟩]=0)(ht:t<24)(hp:Pt.ok ⟨x,y,z⟩) :
  Calls Tryz.prog 62 #[.slice QA qs.length qc,.agg #[.int .i64 i,.int .i64 x,.int .i64 y,.int .i64 z,.int .u8 t,.int .u8 c]] w (CellsRes (sortP (placeP k.cells t ⟨x,y,z⟩)) k.cells.length w):=by
 obtain⟨cells,knobs,wt⟩:=k;obtain⟨A,ca,B,cb⟩:=p;have hil:i<qs.length:=(List.getElem?_eq_some_iff.1 hi).1;have hql:qs.length≤9223372036854775807:=by have:=hk.len;unfold maxLen at this;omega
 have hcl:cells.length≤24:=hf.len;obtain⟨n,hn⟩:=nm cells.length;show Calls _ _ _ _ (CellsRes (sortP (placeP cells t ⟨x,y,z⟩)) cells.length w)
 rw[hn];have Hn:=h_ hn;clear hn;have hcok: ∀q∈cells,q.ok:=hf.cok;have hc:Cells w A ca cells:=(hk.k _ (List.mem_of_getElem? hi)).c;obtain⟨W1,hW1,E1,B1,hz1⟩:=mk_ w #[.int .i64 i,.int .i64 x,.int .i64 y,.int .i64 z,.int .u8 t,.int .u8 c] 126;have b1:=B1.cell;have CH:=check1_c qs QA qc i x y z t c W1 (hk.ext E1) hb 126;rw[he] at CH;clear he hz1;have hml:cells.length≤maxLen:=by unfold maxLen;omega
 have f1:IntKind.i64.wrap (t:Int)=t:=IntWalk.i64_in _ (by omega);go_enter Tryz.func62,Tryz.ntmps62;go_wp2_with fail;refine CH.mono ?_;rintro e W2 ⟨rfl,E2⟩;have E:=E1.trans E2;have BB:=B1.ext E2;obtain⟨kg,koff,k',p',rfl,hq,hka,hkg,c0,c1,c2⟩:=(hk.ext E).at_ hil;rw[hi] at hq;cases hq;simp only at c0 c1 c2;clear CH b1 hW1 B1 E1 E2 hka;have b1:=BB.cell;have i1:(0:Int)≤i:=by omega
 have i2:(i:Int)<qs.length:=by omega
 have hn:=Hn.out;have CC: ∀W,Ext W2 W→Calls Tryz.prog 91 #[.agg #[.slice A n ca,.slice B knobs.length cb,.int .i64 wt],.int .i64 t,.agg #[.int .i64 x,.int .i64 y,.int .i64 z]] W (CellsPost (sortP (placeP cells t ⟨x,y,z⟩)) n W):=fun W EW=>by
  subst hn;exact cells_c cells knobs.length cb wt A ca B t x y z W (hc.ext (E.trans EW)) (by omega) hcok ht hp
 have HCC:=h_ CC;rw[hn] at c0 hml;clear CC hn hi hf hc hcok
 go_upto_region 4 with(fail)
 go_region_law (first
  | (go_simp;go_at_call 91;refine(HCC.out _ (Ext.refl W2).drew).mono ?_;rintro e W3 ⟨g,hg,rfl,B3,E3⟩))
 all_goals
  go_wp2_with fail;go_ret2;exact⟨g,n,Nat.le_trans E.size hg,rfl,Nat.le_refl _,hml,rowX_of_blk B3,E.trans (Ext.drew (Ext.refl W2) |>.trans E3)⟩
end Go.Proofs.YtojolpbpjimfgaaGreatDoor
