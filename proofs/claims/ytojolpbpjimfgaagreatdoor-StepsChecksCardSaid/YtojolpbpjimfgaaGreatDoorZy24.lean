/- Texts of the proof: Visit, Groups, JointsP, LinkN, BuildS, RestS, CapS. -/
import Derived.Test.YtojolpbpjimfgaaGreatDoorZy6
import Derived.Test.YtojolpbpjimfgaaGreatDoorZy15
import Derived.Test.YtojolpbpjimfgaaGreatDoorZy16
import Derived.Test.YtojolpbpjimfgaaGreatDoorZy17
import Derived.Test.YtojolpbpjimfgaaGreatDoorZy19
import Derived.Test.YtojolpbpjimfgaaGreatDoorZy20
import Derived.Test.YtojolpbpjimfgaaGreatDoorZy21
import Derived.Test.YtojolpbpjimfgaaGreatDoorZy22
import Derived.Test.YtojolpbpjimfgaaGreatDoorZy23
set_option maxHeartbeats 1600000
namespace Go.Proofs.YtojolpbpjimfgaaGreatDoor
open Go.RowKit
theorem RowsO.only{w w':World}{T n OB:Nat}{vs:Nat→Value}{f:Nat→List Int}(h:RowsO w T n vs f)(k:Only (fun b=>b=OB) w w')(hv: ∀c,c<n→(vs c).ownBlock≠some OB):RowsO w' T n vs f :=
 ⟨fun c hc=>own_only (h.row c hc) k (fun r hr e=>hv c hc (by rw[hr,e])),h.sep⟩
def VisPost(L:List Lnk)(n i k OB:Nat)(o:List Int)(w:World)(e:Ending)(w':World):Prop:=(∃v,e = .returned v) ∧ ∃o',Vis L n i k o o'∧NumX w' OB o'∧Only (fun b=>b=OB) w w'
def IntRes(l:List Int)(r:Int)(w:World)(e:Ending)(w':World):Prop:= ∃A cap,e = .returned (.tuple #[.slice A l.length cap,.int .i64 r])∧IntsZ w' A cap l∧Ext w w'
def IntNew(l:List Int)(r:Int)(w:World)(e:Ending)(w':World):Prop:= ∃A cap,e = .returned (.tuple #[.slice A l.length cap,.int .i64 r])∧IntsZ w' A cap l∧(∀q,A=some q→w.heap.size≤q.block)∧Ext w w'
theorem IntNew.res{l:List Int}{r:Int}{w:World}{e:Ending}{w':World}:IntNew l r w e w'→IntRes l r w e w':=fun⟨A,cap,h1,h2,_,h4⟩=>⟨A,cap,h1,h2,h4⟩
structure Gr9(W0:World)(T n:Nat)(vs:Nat→Value)(f:Nat→List Int)(NB N X nc xa xb:Nat)(lk:Array Value)(A:Option Addr)(la ca:Nat)(B:Option Addr)(lb cb:Nat)(L:Nat→Bool)(us:Nat→Value)(w:World):Prop where
 x:Ext W0 w
 g0:Blk w X 135 lk
 g1:Blk w N 185 #[.slice (some ⟨NB,0,none⟩) n nc]
 g2:L 14=false→RowsO w T n vs f
 g3:L 14=true→L 23=false→RowsO w T n (setF vs xa (us 14)) (setF f xa (f xa ++ [(xb:Int)]))
 g4:L 23=true→RowsO w T n (setF (setF vs xa (us 14)) xb (us 23)) (setF (setF f xa (f xa ++ [(xb:Int)])) xb (f xb ++ [(xa:Int)]))
 g5:L 25=false→Blk w NB 26 (vsA n vs)
 g6:L 25=true→L 27=false→Blk w NB 26 (vsA n (setF vs xa (us 14)))
 g7:L 27=true→Blk w NB 26 (vsA n (setF (setF vs xa (us 14)) xb (us 23)))
 g8:L 13=true→L 14=false→TmpO w n vs (bk (us 13)) xb
 g9:L 22=true→L 14=false→TmpO w n vs (bk (us 22)) xa
 g10:L 22=true→L 14=true→L 23=false→TmpO w n (setF vs xa (us 14)) (bk (us 22)) xa
 f0:L 0=true→us 0 = .slice (some ⟨NB,0,none⟩) n nc
 f1:L 1=true→us 1 = .pointer (some ⟨X,0,none⟩)
 f2:L 2=true→us 2 = .int .i64 xa
 f3:L 3=true→us 3 = .slice (some ⟨NB,0,none⟩) n nc
 f4:L 4=true→us 4 = .pointer (some ⟨X,1,none⟩)
 f5:L 5=true→us 5 = .int .i64 xb
 f6:L 6=true→us 6 = .slice (some ⟨NB,0,none⟩) n nc
 f7:L 7=true→us 7 = .pointer (some ⟨X,0,none⟩)
 f8:L 8=true→us 8 = .int .i64 xa
 f9:L 9=true→us 9 = .pointer (some ⟨NB,xa,none⟩)
 f10:L 10=true→us 10 = .slice A la ca
 f11:L 11=true→us 11 = .pointer (some ⟨X,1,none⟩)
 f12:L 12=true→us 12 = .int .i64 xb
 f13:L 13=true→us 13 = .slice (some ⟨bk (us 13),0,none⟩) 1 1
 f15:L 15=true→us 15 = .slice (some ⟨NB,0,none⟩) n nc
 f16:L 16=true→us 16 = .pointer (some ⟨X,1,none⟩)
 f17:L 17=true→us 17 = .int .i64 xb
 f18:L 18=true→us 18 = .pointer (some ⟨NB,xb,none⟩)
 f19:L 19=true→us 19 = .slice B lb cb
 f20:L 20=true→us 20 = .pointer (some ⟨X,0,none⟩)
 f21:L 21=true→us 21 = .int .i64 xa
 f22:L 22=true→us 22 = .slice (some ⟨bk (us 22),0,none⟩) 1 1
 f24:L 24=true→us 24 = .pointer (some ⟨NB,xa,none⟩)
 f26:L 26=true→us 26 = .pointer (some ⟨NB,xb,none⟩)
def jointR(ks:List Knd)(bs:List Brk):List Jnt:=if checkErr ks bs=0 then jointL ks bs else []
def groupR(ks:List Knd)(bs:List Brk):List Int:=if checkErr ks bs=0 then natZ (groupL (linkL ks bs) bs.length) else []
theorem ints_nil(w:World):IntsZ w none 0 []:=⟨rfl,Nat.le_refl _,Nat.zero_le _,by simp,fun h=>by cases h⟩
theorem joints_c(qs:List (Knd×KAt))(QA:Option Addr)(qc:Nat)(bs:List Brk)(B:Option Addr)(cb:Nat)(w:World)(hk:Kinds w QA qc qs)(hb:Bricks w B cb bs)(hlen:checkErr (qs.map (·.1)) bs=0→(linkL (qs.map (·.1)) bs).length≤100000) :
  Calls Tryz.prog 115 #[.slice QA qs.length qc,.agg #[.slice B bs.length cb]] w (JntRes (jointR (qs.map (·.1)) bs) (checkErr (qs.map (·.1)) bs) w):=by
 by_cases h0:checkErr (qs.map (·.1)) bs=0
 ·have h:=jointsG_c qs QA qc bs B cb w hk hb h0 (hlen h0);unfold jointR;rw[if_pos h0,h0];exact h
 obtain⟨W1,hW1,E1,B1,hz1⟩:=mk_ w #[.slice B bs.length cb] 25;have b1:=B1.cell;clear hz1;have CK:=checkM_c qs QA qc bs B cb W1 (hk.ext E1) (hb.ext E1);obtain⟨r,hr⟩:=nm (checkErr (qs.map (·.1)) bs);rw[hr] at CK h0 ⊢;have Hl:=h_ (show jointR (qs.map (·.1)) bs = [] from if_neg (by rw[hr];exact h0));rw[Hl.out];have h1:(r != 0)=true:=by simpa using h0
 clear hr h0 hk hb Hl hlen;go_enter Tryz.func115,Tryz.ntmps115;go_wp2_with fail;refine CK.mono ?_;rintro e W2 ⟨rfl,E2⟩;go_wp2_with fail;go_ret2;exact JntRes_nil (E1.trans E2)
theorem jointsA_c(qs:List (Knd×KAt))(QA:Option Addr)(qc:Nat)(bs:List Brk)(B:Option Addr)(cb:Nat)(w:World)(hk:Kinds w QA qc qs)(hb:Bricks w B cb bs)(hlen:checkErr (qs.map (·.1)) bs=0→(linkL (qs.map (·.1)) bs).length≤100000) :
  Calls Tryz.prog 115 #[.slice QA qs.length qc,.agg #[.slice B bs.length cb]] w (JntOwn (jointR (qs.map (·.1)) bs) (checkErr (qs.map (·.1)) bs) w):=by
 by_cases h0:checkErr (qs.map (·.1)) bs=0
 ·have h:=jointsO_c qs QA qc bs B cb w hk hb h0 (hlen h0);unfold jointR;rw[if_pos h0,h0];exact h
 obtain⟨W1,hW1,E1,B1,hz1⟩:=mk_ w #[.slice B bs.length cb] 25;have b1:=B1.cell;clear hz1;have CK:=checkM_c qs QA qc bs B cb W1 (hk.ext E1) (hb.ext E1);obtain⟨r,hr⟩:=nm (checkErr (qs.map (·.1)) bs);rw[hr] at CK h0 ⊢;have Hl:=h_ (show jointR (qs.map (·.1)) bs = [] from if_neg (by rw[hr];exact h0));rw[Hl.out];have h1:(r != 0)=true:=by simpa using h0
 clear hr h0 hk hb Hl hlen;go_enter Tryz.func115,Tryz.ntmps115;go_wp2_with fail;refine CK.mono ?_;rintro e W2 ⟨rfl,E2⟩;go_wp2_with fail;go_ret2;exact JntOwn_nil (E1.trans E2)
theorem nodup_len{l:List Nat}{n:Nat}(h:l.Nodup)(hb: ∀x∈l,x<n):l.length≤n:=by
 have hp:l.Perm ((List.range n).filter fun x=>decide (x∈l)):=(List.perm_ext_iff_of_nodup h (List.nodup_range.filter _)).2 fun a=>by
  rw[List.mem_filter,List.mem_range,decide_eq_true_eq];exact⟨fun h=>⟨hb a h,h⟩,fun h=>h.2⟩
 rw[hp.length_eq];exact Nat.le_trans (List.length_filter_le _ _) (by simp)
theorem linkL_len{ks:List Knd}{bs:List Brk}(hf:Fit ks bs):(linkL ks bs).length≤1920:=by
 have hm: ∀x∈linkL ks bs,x.a<40∧x.knob<48:=fun x hx=>by
  have h:=mem_linkL.1 hx;have:=h.ab;have:=h.b;have:=hf.n;have:=h.k;have:=hf.klen (j:=x.a) (by omega);omega
 have h1:((linkL ks bs).map fun x=>x.a*48+x.knob).Nodup:=by
  unfold List.Nodup;rw[List.pairwise_map];refine(linkL_nodup ks bs).imp_of_mem fun {x y} hx hy hne e=> ?_;have:=hm x hx;have:=hm y hy;exact hne (lnk_unique hf (mem_linkL.1 hx) (mem_linkL.1 hy) (by omega) (by omega))
 have h2:=nodup_len h1 (n:=1920) fun v hv=>by
  obtain⟨x,hx,rfl⟩:=List.mem_map.1 hv;have:=hm x hx;omega
 rwa [List.length_map] at h2
theorem links_few{w:World}{QA:Option Addr}{qc:Nat}{qs:List (Knd×KAt)}(hk:Kinds w QA qc qs){bs:List Brk}(hb: ∀b∈bs,b.byte)(h:checkErr (qs.map (·.1)) bs=0):(linkL (qs.map (·.1)) bs).length≤100000 :=
 Nat.le_trans (linkL_len (fit_of hk hb h)) (by omega)
theorem flat_ones{α:Type}(l:List α):(l.map fun v=> [v]).flatten=l:=by
 induction l with
 | nil=>rfl
 | cons a l ih=>rw[List.map_cons,List.flatten_cons,ih];rfl
section
variable {ks:List Knd} {bs:List Brk}
def BrkOf(ks:List Knd)(bs:List Brk)(j q:Nat)(m:List (Pt×Int)):Prop:= ∀p v,getK m p=some v ↔ ∃i:Nat,v=i∧((i<j∧p∈bcells ks (brkAt bs i))∨(i=j∧p∈(bcells ks (brkAt bs j)).take q))
theorem BrkOf.nil:BrkOf ks bs 0 0 []:=fun p v=>by
 constructor
 ·intro h;cases h
 ·rintro⟨i,-,⟨h,-⟩|⟨-,h⟩⟩
  ·omega
  ·cases h
theorem BrkOf.next{j:Nat}{m:List (Pt×Int)}(h:BrkOf ks bs j (bcells ks (brkAt bs j)).length m):BrkOf ks bs (j+1) 0 m:=fun p v=>by
 rw[h p v];refine exists_congr fun i=>and_congr_right fun _=> ?_;rw[List.take_length,List.take_zero];constructor
 ·rintro(⟨h1,h2⟩|⟨rfl,h2⟩)
  ·exact Or.inl ⟨by omega,h2⟩
  ·exact Or.inl ⟨by omega,h2⟩
 ·rintro(⟨h1,h2⟩|⟨-,h2⟩)
  ·rcases Nat.lt_or_ge i j with h' | h'
   ·exact Or.inl ⟨h',h2⟩
   ·obtain rfl:i=j:=by omega
    exact Or.inr ⟨rfl,h2⟩
  ·cases h2
theorem BrkOf.put(hf:Fit ks bs){j q:Nat}{m:List (Pt×Int)}{c:Pt}(hj:j<bs.length)(h:BrkOf ks bs j q m)(hc:(bcells ks (brkAt bs j))[q]? = some c):BrkOf ks bs j (q+1) (putK m c (j:Int)):=fun p v=>by
 have hcm:=List.mem_of_getElem? hc;have htk:(bcells ks (brkAt bs j)).take (q+1)=(bcells ks (brkAt bs j)).take q ++ [c]:=by rw[List.take_add_one,hc];rfl
 rw[getK_putK,htk];by_cases hp:p=c
 ·subst hp;rw[if_pos rfl];constructor
  ·intro e;exact⟨j,(Option.some.inj e).symm,Or.inr ⟨rfl,by simp⟩⟩
  ·rintro⟨i,rfl,⟨h1,h2⟩|⟨rfl,-⟩⟩
   ·have:=hf.o i j (by omega) hj p h2 hcm;omega
   ·rfl
 ·rw[if_neg hp,h p v];refine exists_congr fun i=>and_congr_right fun _=>or_congr_right (and_congr_right fun _=> ?_);rw[List.mem_append,List.mem_singleton];exact⟨Or.inl,fun h=>h.resolve_right hp⟩
def BrkMap(ks:List Knd)(bs:List Brk)(m:List (Pt×Int)):Prop:= ∀p v,getK m p=some v ↔ ∃i:Nat,i<bs.length∧v=i∧p∈bcells ks (brkAt bs i)
theorem BrkOf.all{m:List (Pt×Int)}(h:BrkOf ks bs bs.length 0 m):BrkMap ks bs m:=fun p v=>by
 rw[h p v];constructor
 ·rintro⟨i,e,⟨h1,h2⟩|⟨-,h2⟩⟩
  ·exact⟨i,h1,e,h2⟩
  ·cases h2
 ·rintro⟨i,h1,e,h2⟩;exact⟨i,e,Or.inl ⟨h1,h2⟩⟩
end
def clen(ks:List Knd)(bs:List Brk)(i:Nat):Nat:=(bcells ks (brkAt bs i)).length
def clC(gs ln cp:Nat→Nat)(j:Nat):List Value:=(List.range j).map fun i=> .slice (some ⟨gs i,0,none⟩) (ln i) (cp i)
theorem clC_succ(gs ln cp:Nat→Nat)(j:Nat):clC gs ln cp (j+1)=clC gs ln cp j ++ [.slice (some ⟨gs j,0,none⟩) (ln j) (cp j)]:=by
 unfold clC;rw[List.range_succ,List.map_append];rfl
theorem clC_upd{gs gs' ln cp cp':Nat→Nat}{j:Nat}(h: ∀i,i<j→gs' i=gs i)(h2: ∀i,i<j→cp' i=cp i):clC gs' ln cp' j=clC gs ln cp j:=by
 unfold clC;refine List.map_congr_left fun i hi=> ?_;rw[h i (List.mem_range.1 hi),h2 i (List.mem_range.1 hi)]
theorem clC_at{gs ln cp:Nat→Nat}{j i:Nat}(h:i<j):(clC gs ln cp j)[i]? = some (.slice (some ⟨gs i,0,none⟩) (ln i) (cp i)):=by
 unfold clC;rw[List.getElem?_map,List.getElem?_range h];rfl
def CBl(ks:List Knd)(bs:List Brk)(w:World)(gs cp:Nat→Nat)(j:Nat):Prop:= ∀i,i<j→clen ks bs i≤cp i∧cp i≤maxLen∧RowX w (gs i) 124 ((bcells ks (brkAt bs i)).map Pt.cs)
section
variable {ks:List Knd} {bs:List Brk} {w w':World} {gs cp:Nat→Nat} {j:Nat}
theorem CBl.ext(h:CBl ks bs w gs cp j)(E:Ext w w'):CBl ks bs w' gs cp j:=fun i hi=>⟨(h i hi).1,(h i hi).2.1,(h i hi).2.2.ext E⟩
theorem CBl.mapTurned(h:CBl ks bs w gs cp j){M:Nat}{m:List (Pt×Int)}(hm:MapOf encPt evI w M m)(hg:w.grownBy w' (some M)):CBl ks bs w' gs cp j:=fun i hi=>⟨(h i hi).1,(h i hi).2.1,(h i hi).2.2.grown hg ((h i hi).2.2.map_ne hm)⟩
theorem RowX.own{w w':World}{g:Nat}{t:TypeId}{rows:List (List Value)}{b:Nat}{e:TypeId}{sz:Nat}{u:Value}{m:Nat}{xs:List Value}(h:RowX w g t rows)(own:w.ownsRow b e sz u m xs)(hg:w.grownBy w' u.ownBlock)(hne:t≠e):RowX w' g t rows:=by
 obtain⟨ex,hb⟩:=h;exact⟨ex,blkGrown hb own hg hne⟩
theorem CBl.own(h:CBl ks bs w gs cp j){b:Nat}{e:TypeId}{sz:Nat}{u:Value}{m:Nat}{xs:List Value}(own:w.ownsRow b e sz u m xs)(hg:w.grownBy w' u.ownBlock)(hne:124≠e):CBl ks bs w' gs cp j:=fun i hi=>⟨(h i hi).1,(h i hi).2.1,(h i hi).2.2.own own hg hne⟩
theorem RowX.ne_blk{w:World}{g X:Nat}{t t':TypeId}{rows:List (List Value)}{cs:Array Value}(h:RowX w g t rows)(hb:Blk w X t' cs)(hne:t≠t'):g≠X:=by
 obtain⟨ex,h⟩:=h;rintro rfl;exact hne (h.types hb)
theorem CBl.far(h:CBl ks bs w gs cp j){X:Nat}{t':TypeId}{cs:Array Value}(hb:Blk w X t' cs)(hne:124≠t')(k:Nat)(u:Value):CBl ks bs (w.setCell ⟨X,k,none⟩ u) gs cp j:=fun i hi=>⟨(h i hi).1,(h i hi).2.1,by
 have hx:=(h i hi).2.2.ne_blk hb hne;obtain⟨ex,hr⟩:=(h i hi).2.2
 exact⟨ex,hr.far (p:=⟨X,k,none⟩) hx u⟩⟩
theorem CBl.next{gs' cp':Nat→Nat}(h:CBl ks bs w gs cp j)(e: ∀i,i<j→gs' i=gs i)(e2: ∀i,i<j→cp' i=cp i)(h1:clen ks bs j≤cp' j)(h2:cp' j≤maxLen)(hb:RowX w (gs' j) 124 ((bcells ks (brkAt bs j)).map Pt.cs)):CBl ks bs w gs' cp' (j+1):=fun i hi=>by
 rcases Nat.lt_or_ge i j with h' | h'
 ·rw[e i h',e2 i h'];exact h i h'
 ·obtain rfl:i=j:=by omega
  exact⟨h1,h2,hb⟩
end
structure BuiltAt(w:World)(X:Nat)(qs:List (Knd×KAt))(QA:Option Addr)(qc:Nat)(bs:List Brk)(B:Option Addr)(cb:Nat)(CA:Option Addr)(cc M:Nat)(JA:Option Addr)(jc:Nat)(gs cp:Nat→Nat)(mm:List (Pt×Int)):Prop where
 x:Blk w X 172 #[.slice QA qs.length qc,.slice B bs.length cb,.slice CA bs.length cc,.map (some M),.slice JA (jointL (qs.map (·.1)) bs).length jc]
 c:SliceIs w CA bs.length cc 1 ((clC gs (clen (qs.map (·.1)) bs) cp bs.length).map fun v=> [v])
 r:CBl (qs.map (·.1)) bs w gs cp bs.length
 m:MapOf encPt evI w M mm
 k:BrkMap (qs.map (·.1)) bs mm
 j:Jnts w JA jc (jointL (qs.map (·.1)) bs)
theorem BuiltAt.ext{w w':World}{X:Nat}{qs:List (Knd×KAt)}{QA:Option Addr}{qc:Nat}{bs:List Brk}{B:Option Addr}{cb:Nat}{CA:Option Addr}{cc M:Nat}{JA:Option Addr}{jc:Nat}{gs cp:Nat→Nat}{mm:List (Pt×Int)}(h:BuiltAt w X qs QA qc bs B cb CA cc M JA jc gs cp mm)(E:Ext w w'):BuiltAt w' X qs QA qc bs B cb CA cc M JA jc gs cp mm :=
 ⟨h.x.ext E,h.c.ext E,h.r.ext E,h.m.ext E,h.k,h.j.ext E⟩
def BuildPost(qs:List (Knd×KAt))(QA:Option Addr)(qc:Nat)(bs:List Brk)(B:Option Addr)(cb:Nat)(w:World)(e:Ending)(w':World):Prop :=
 ∃X CA cc M JA jc gs cp mm,e = .returned (.tuple #[.pointer (some ⟨X,0,none⟩),.int .i64 0])∧w.heap.size≤X∧BuiltAt w' X qs QA qc bs B cb CA cc M JA jc gs cp mm∧Ext w w'
def lowZ(ks:List Knd)(bs:List Brk)(i:Nat):Int:=(ptAt (bcells ks (brkAt bs i)) 0).z
def tabOk(tab:Int):Bool:=inB (-2000) 2000 tab
def restErr(ks:List Knd)(bs:List Brk)(tab:Int)(hands:List Int):Int :=
 if checkErr ks bs=0 then(if(tabOk tab&&chosenB hands bs.length)=true then(if allR bs.length (fun i=>decide (tab≤lowZ ks bs i))=true then 0 else 30) else 30) else checkErr ks bs
def grdB(ks:List Knd)(bs:List Brk)(tab:Int)(hands:List Int)(i:Nat):Bool:=lowZ ks bs i==tab||hasZ hands i
def grdL(ks:List Knd)(bs:List Brk)(tab:Int)(hands:List Int)(n:Nat):List Bool:=(List.range n).map (grdB ks bs tab hands)
theorem grdL_succ(ks:List Knd)(bs:List Brk)(tab:Int)(hands:List Int)(n:Nat):grdL ks bs tab hands (n+1)=grdL ks bs tab hands n ++ [grdB ks bs tab hands n]:=by
 unfold grdL;rw[List.range_succ,List.map_append];rfl
theorem grdL_len(ks:List Knd)(bs:List Brk)(tab:Int)(hands:List Int)(n:Nat):(grdL ks bs tab hands n).length=n:=by simp[grdL]
section
variable {ks:List Knd} {bs:List Brk} {tab:Int} {hands:List Int}
theorem restErr_check{r:Int}(h:checkErr ks bs=r)(h0:r≠0):restErr ks bs tab hands=r:=by rw[restErr,h,if_neg h0]
theorem restErr_arg(h:checkErr ks bs=0)(h0:(tabOk tab&&chosenB hands bs.length)=false):restErr ks bs tab hands=30:=by rw[restErr,if_pos h,if_neg (by rw[h0];decide)]
theorem restErr_low(h:checkErr ks bs=0)(h0:(tabOk tab&&chosenB hands bs.length)=true){i:Nat}(hi:i<bs.length)(hl: ¬tab≤lowZ ks bs i):restErr ks bs tab hands=30:=by
 rw[restErr,if_pos h,if_pos h0,if_neg];rw[allR_bad hi (decide_eq_false hl)];decide
theorem restErr_ok(h:checkErr ks bs=0)(h0:(tabOk tab&&chosenB hands bs.length)=true)(hl: ∀i,i<bs.length→tab≤lowZ ks bs i):restErr ks bs tab hands=0:=by
 rw[restErr,if_pos h,if_pos h0,if_pos];exact allR_good fun j hj=>decide_eq_true (hl j hj)
theorem restErr_zero(h:restErr ks bs tab hands=0):checkErr ks bs=0∧tabOk tab=true∧chosenB hands bs.length=true ∧ ∀i,i<bs.length→tab≤lowZ ks bs i:=by
 unfold restErr at h
 split at h
 ·rename_i h1
  split at h
  ·rename_i h2;rw[Bool.and_eq_true] at h2
   split at h
   ·rename_i h3;exact⟨h1,h2.1,h2.2,fun i hi=>of_decide_eq_true (allR_at h3 hi)⟩
   ·cases h
  ·cases h
 ·rename_i h1;exact absurd h h1
end
theorem BuiltAt.addr{w:World}{X:Nat}{qs:List (Knd×KAt)}{QA:Option Addr}{qc:Nat}{bs:List Brk}{B:Option Addr}{cb:Nat}{CA:Option Addr}{cc M:Nat}{JA:Option Addr}{jc:Nat}{gs cp:Nat→Nat}{mm:List (Pt×Int)}(h:BuiltAt w X qs QA qc bs B cb CA cc M JA jc gs cp mm)(h0:0<bs.length): ∃g off,CA=some ⟨g,off,none⟩:=by
 obtain⟨g,off,hA,-,-⟩:=SliceIs.cells h.c h0;exact⟨g,off,hA⟩
theorem BuiltAt.row{w:World}{X:Nat}{qs:List (Knd×KAt)}{QA:Option Addr}{qc:Nat}{bs:List Brk}{B:Option Addr}{cb:Nat}{CA:Option Addr}{cc M:Nat}{JA:Option Addr}{jc:Nat}{gs cp:Nat→Nat}{mm:List (Pt×Int)}(h:BuiltAt w X qs QA qc bs B cb CA cc M JA jc gs cp mm){j g off:Nat}(hj:j<bs.length)(hA:CA=some ⟨g,off,none⟩):w.cell? ⟨g,off+j,none⟩=some (.slice (some ⟨gs j,0,none⟩) (clen (qs.map (·.1)) bs j) (cp j)):=by
 obtain⟨g',off',hA',-,hc⟩:=SliceIs.cells h.c (by omega);rw[hA'] at hA;cases hA;have hr:((clC gs (clen (qs.map (·.1)) bs) cp bs.length).map fun v=> [v])[j]? = some [.slice (some ⟨gs j,0,none⟩) (clen (qs.map (·.1)) bs j) (cp j)]:=by rw[List.getElem?_map,clC_at hj];rfl
 have:=hc j _ hr 0 _ rfl;rwa [Nat.mul_one,Nat.add_zero] at this
theorem CBl.cell{ks:List Knd}{bs:List Brk}{w:World}{gs cp:Nat→Nat}{n j q:Nat}(h:CBl ks bs w gs cp n)(hj:j<n)(hq:q<clen ks bs j):w.cell? ⟨gs j,q*3,none⟩=some (.int .i64 (ptAt (bcells ks (brkAt bs j)) q).x)∧w.cell? ⟨gs j,q*3+1,none⟩=some (.int .i64 (ptAt (bcells ks (brkAt bs j)) q).y)∧w.cell? ⟨gs j,q*3+2,none⟩=some (.int .i64 (ptAt (bcells ks (brkAt bs j)) q).z):=by
 have hR:=(h j hj).2.2;have hg:(bcells ks (brkAt bs j))[q]? = some (bcells ks (brkAt bs j))[q]:=List.getElem?_eq_getElem hq;have hr:((bcells ks (brkAt bs j)).map Pt.cs)[q]? = some (Pt.cs (ptAt (bcells ks (brkAt bs j)) q)):=by
  rw[ptAt_eq hg,List.getElem?_map,hg];rfl
 exact⟨hR.cell (pts_wide _) (j:=0) hr rfl,hR.cell (pts_wide _) (j:=1) hr rfl,hR.cell (pts_wide _) (j:=2) hr rfl⟩
theorem clen_pos{w:World}{QA:Option Addr}{qc:Nat}{qs:List (Knd×KAt)}{bs:List Brk}(hk:Kinds w QA qc qs)(hb: ∀b∈bs,b.byte)(h0:modelErr (qs.map (·.1)) bs=0){j:Nat}(hj:j<bs.length):0<clen (qs.map (·.1)) bs j∧clen (qs.map (·.1)) bs j≤24:=by
 obtain⟨i,t,x,y,z,c,k,p,-,-,-,hf,-,-,-,h,-⟩:=brk_parts hk hb h0 hj;unfold clen;rw[h,sortP_len,placeP_len];exact⟨hf.pos,hf.len⟩
def BoolsZ(w:World)(A:Option Addr)(cap:Nat)(l:List Bool):Prop:=SliceIs w A l.length cap 1 (l.map fun b=> [.bool b])
theorem BoolsZ.ext{w w':World}{A:Option Addr}{cap:Nat}{l:List Bool}(h:BoolsZ w A cap l)(e:Ext w w'):BoolsZ w' A cap l:=SliceIs.ext h e
theorem BoolsZ.len{w:World}{A:Option Addr}{cap:Nat}{l:List Bool}(h:BoolsZ w A cap l):l.length≤maxLen:=Nat.le_trans h.le h.small
theorem BoolsZ.at_{w:World}{A:Option Addr}{cap:Nat}{l:List Bool}(h:BoolsZ w A cap l){k:Nat}(hk:k<l.length) :
  ∃b off p,A=some ⟨b,off,none⟩∧l[k]? = some p∧b<w.heap.size∧w.cell? ⟨b,off+k,none⟩=some (.bool p):=by
 obtain⟨b,off,hA,hb,hc⟩:=SliceIs.cells h (by omega);have hget:l[k]? = some l[k]:=List.getElem?_eq_getElem hk;have hr:(l.map fun n=> [Value.bool n])[k]? = some [.bool l[k]]:=by rw[List.getElem?_map,hget];rfl
 have:=hc k _ hr 0 _ rfl;rw[Nat.mul_one,Nat.add_zero] at this;exact⟨b,off,l[k],hA,hget,hb,this⟩
theorem bools_own{w:World}{b:Nat}{e:TypeId}{v:Value}{n:Nat}{l:List Bool}(hn:l.length=n)(h:w.ownsRow b e 1 v n (l.map Value.bool)): ∃A cap,v = .slice A n cap∧BoolsZ w A cap l∧(∀q,A=some q→b≤q.block):=by
 obtain⟨A,cap,e1,h1,h2⟩:=own_slice0 (rows:=l.map fun b=> [.bool b]) (sz:=1) (n:=n) (fun r hr=>by obtain⟨v,-,rfl⟩:=List.mem_map.1 hr;rfl) (by rw[List.length_map];exact hn) (by
  have:((l.map fun b=> [Value.bool b]).flatten)=l.map Value.bool:=by
   rw[show(l.map fun b=> [Value.bool b])=(l.map Value.bool).map fun v=> [v] by rw[List.map_map];rfl,flat_ones]
  rw[this]
  exact h)
 exact⟨A,cap,e1,by unfold BoolsZ;rw[hn];exact h1,h2⟩
def RestPost(qs:List (Knd×KAt))(QA:Option Addr)(qc:Nat)(bs:List Brk)(B:Option Addr)(cb:Nat)(tab:Int)(hands:List Int)(w:World)(e:Ending)(w':World):Prop :=
 ∃X CA cc M JA jc gs cp mm GA gc,e = .returned (.tuple #[.pointer (some ⟨X,0,none⟩),.slice GA bs.length gc,.int .i64 0])∧w.heap.size≤X∧BuiltAt w' X qs QA qc bs B cb CA cc M JA jc gs cp mm∧BoolsZ w' GA gc (grdL (qs.map (·.1)) bs tab hands bs.length)∧Ext w w'
def restsOn(ks:List Knd)(bs:List Brk)(i k:Nat):Bool:=(bcells ks (brkAt bs i)).any fun c=>hasP (bcells ks (brkAt bs k)) (addP c ⟨0,0,-1⟩)
def strOf(ks:List Knd)(bs:List Brk)(i k:Nat):Int:=sumL (linkL ks bs) (((min i k:Nat):Int),((max i k:Nat):Int))
def capV(ks:List Knd)(bs:List Brk)(i k:Nat):Int:=if i=k then 0 else if restsOn ks bs i k then 1073741824 else 10*strOf ks bs i k
def PJ(x y:Nat)(j:Jnt):Bool:=decide ((j.a=x∧j.b=y)∨(j.a=y∧j.b=x))
def capJ(J:List Jnt)(q:Nat):Nat→Nat→Int:=fun x y=>(((J.take q).find? (PJ x y)).map fun j=>10*j.strength).getD 0
theorem capJ_zero(J:List Jnt):capJ J 0=fun _ _=>0:=rfl
structure Pairs(J:List Jnt):Prop where
 lt: ∀j∈J,j.a<j.b
 o:J.Pairwise fun x y=>ltPr (jPr x) (jPr y)
theorem capJ_succ{J:List Jnt}(hJ:Pairs J){q:Nat}{j:Jnt}(h:J[q]? = some j):capJ J (q+1)=upd (upd (capJ J q) j.a j.b (10*j.strength)) j.b j.a (10*j.strength):=by
 have hjm:=List.mem_of_getElem? h;have hjl:=hJ.lt j hjm;have htk:J.take (q+1)=J.take q ++ [j]:=by rw[List.take_add_one,h];rfl
 funext x y;have hno: ∀x y,PJ x y j=true→(J.take q).find? (PJ x y)=none:=fun x y hp=>by
  rw[List.find?_eq_none];intro i hi hpi;obtain⟨n,hn,rfl⟩:=List.getElem_of_mem hi;rw[List.length_take] at hn;rw[List.getElem_take] at hpi;have hq:q<J.length:=(List.getElem?_eq_some_iff.1 h).1;have hjq:J[q]=j:=(List.getElem?_eq_some_iff.1 h).2;have hlt:=List.pairwise_iff_getElem.1 hJ.o n q (by omega) hq (by omega);have hil:=hJ.lt _ (List.getElem_mem (show n<J.length by omega));rw[hjq] at hlt;unfold PJ at hp hpi;rw[decide_eq_true_eq] at hp hpi;unfold ltPr jPr at hlt;simp only at hlt;omega
 unfold upd;by_cases hp:PJ x y j=true
 ·have hv:capJ J (q+1) x y=10*j.strength:=by
   unfold capJ;rw[htk,List.find?_append,hno x y hp];simp[hp]
  rw[hv];unfold PJ at hp;rw[decide_eq_true_eq] at hp;by_cases h1:x=j.b∧y=j.a
  ·rw[if_pos h1]
  ·rw[if_neg h1,if_pos (by omega)]
 ·have hv:capJ J (q+1) x y=capJ J q x y:=by
   unfold capJ;rw[htk,List.find?_append];simp[hp]
  rw[hv];unfold PJ at hp;rw[decide_eq_true_eq] at hp;rw[if_neg (by omega),if_neg (by omega)]
section
variable {ks:List Knd} {bs:List Brk}
theorem pairs_of(hf:Fit ks bs):Pairs (jointL ks bs):=by
 have hj:=jntsOk hf rfl;refine⟨fun j hjm=> ?_,hj.o⟩;obtain⟨x,hx,hp⟩:=(hj.k (jPr j)).2 (List.mem_map.2 ⟨j,hjm,rfl⟩);have:=(mem_linkL.1 hx).ab;unfold prOf jPr at hp;rw[Prod.mk.injEq] at hp;omega
theorem capJ_all(hf:Fit ks bs)(x y:Nat):capJ (jointL ks bs) (jointL ks bs).length x y=10*strOf ks bs x y:=by
 have hj:=jntsOk hf rfl;have hp:=pairs_of hf;unfold capJ;rw[List.take_length];cases hfi:(jointL ks bs).find? (PJ x y) with
 | none =>
  rw[List.find?_eq_none] at hfi;show(0:Int)=_
  unfold strOf sumL;have:((linkL ks bs).filter fun l=>decide (prOf l=(((min x y:Nat):Int),((max x y:Nat):Int)))) = []:=by
   rw[List.filter_eq_nil_iff];intro l hl hd;rw[decide_eq_true_eq] at hd;obtain⟨j,hjm,hje⟩:=List.mem_map.1 ((hj.k (prOf l)).1 ⟨l,hl,rfl⟩);refine hfi j hjm ?_;unfold PJ;rw[decide_eq_true_eq];rw[hd] at hje;unfold jPr at hje;rw[Prod.mk.injEq] at hje;omega
  rw[this];rfl
 | some j =>
  have hjm:=List.mem_of_find?_eq_some hfi;have hjp:=List.find?_some hfi;have hlt:=hp.lt j hjm;show 10*j.strength=_
  rw[←(hj.s j hjm).1];unfold strOf;congr 2;unfold PJ at hjp;rw[decide_eq_true_eq] at hjp;unfold jPr;rw[Prod.mk.injEq];omega
theorem capJ_same(hf:Fit ks bs)(x:Nat)(q:Nat):capJ (jointL ks bs) q x x=0:=by
 unfold capJ;have:((jointL ks bs).take q).find? (PJ x x)=none:=by
  rw[List.find?_eq_none];intro j hj hp;have:=(pairs_of hf).lt j (List.mem_of_mem_take hj);unfold PJ at hp;rw[decide_eq_true_eq] at hp;omega
 rw[this];rfl
theorem strOf_le(hf:Fit ks bs)(x y:Nat):0≤strOf ks bs x y∧strOf ks bs x y≤9600:=by
 have h1:=sumL_le (linkL ks bs) (((min x y:Nat):Int),((max x y:Nat):Int));have h2:=linkL_len hf;unfold strOf;omega
theorem below_of(hf:Fit ks bs){m:List (Pt×Int)}(hm:BrkMap ks bs m)(p:Pt):(getK m p=none ∧ ∀i,i<bs.length→p ∉ bcells ks (brkAt bs i)) ∨ ∃k,k<bs.length∧getK m p=some (k:Int)∧p∈bcells ks (brkAt bs k) ∧ ∀i,i<bs.length→p∈bcells ks (brkAt bs i)→i=k:=by
 cases h:getK m p with
 | none =>
  left;refine⟨rfl,fun i hi hp=> ?_⟩;have:=(hm p i).2 ⟨i,hi,rfl,hp⟩;rw[h] at this;cases this
 | some v =>
  right;obtain⟨k,hk,rfl,hp⟩:=(hm p v).1 h;exact⟨k,hk,rfl,hp,fun i hi hpi=>hf.o i k hi hk p hpi hp⟩
end
def dn:Pt:=⟨0,0,-1⟩
theorem addP_dn(a b c:Int):addP ⟨a,b,c⟩ ⟨0,0,-1⟩=⟨a,b,c + -1⟩:=by simp[addP]
def hitB(ks:List Knd)(bs:List Brk)(l:List Pt)(y:Nat):Bool:=l.any fun c=>hasP (bcells ks (brkAt bs y)) (addP c ⟨0,0,-1⟩)
def capI(ks:List Knd)(bs:List Brk)(J:List Jnt)(i q x y:Nat):Int :=
 if(decide (x≠y)&&((decide (x<i)&&restsOn ks bs x y)||(decide (x=i)&&hitB ks bs ((bcells ks (brkAt bs i)).take q) y)))=true then 1073741824 else capJ J J.length x y
section
variable {ks:List Knd} {bs:List Brk} {J:List Jnt}
theorem capI_zero(x y:Nat):capI ks bs J 0 0 x y=capJ J J.length x y:=by
 unfold capI hitB;rw[if_neg];simp
theorem hitB_succ{l:List Pt}{q y:Nat}{c:Pt}(h:l[q]? = some c):hitB ks bs (l.take (q+1)) y=(hitB ks bs (l.take q) y||hasP (bcells ks (brkAt bs y)) (addP c ⟨0,0,-1⟩)):=by
 unfold hitB;rw[List.take_add_one,h,List.any_append];simp
theorem capI_keep{i q x y:Nat}{c:Pt}(h:(bcells ks (brkAt bs i))[q]? = some c)(hn:y≠i→hasP (bcells ks (brkAt bs y)) (addP c ⟨0,0,-1⟩)=false):capI ks bs J i (q+1) x y=capI ks bs J i q x y:=by
 unfold capI;rw[hitB_succ h];by_cases hxi:x=i
 ·by_cases hyi:y=i
  ·have:decide (x≠y)=false:=by simp;omega
   rw[this];rfl
  ·rw[hn hyi,Bool.or_false]
 ·have:decide (x=i)=false:=by simpa using hxi
  rw[this,Bool.false_and,Bool.false_and]
theorem capI_put{i q k x y:Nat}{c:Pt}(h:(bcells ks (brkAt bs i))[q]? = some c)(hki:k≠i)(hn:hasP (bcells ks (brkAt bs y)) (addP c ⟨0,0,-1⟩)=decide (y=k)):capI ks bs J i (q+1) x y=if x=i∧y=k then 1073741824 else capI ks bs J i q x y:=by
 unfold capI;rw[hitB_succ h,hn];by_cases hxi:x=i
 ·subst hxi;by_cases hyk:y=k
  ·subst hyk;rw[if_pos (show x=x∧y=y from⟨rfl,rfl⟩),if_pos];have h1:decide (x≠y)=true:=by simp;omega
   rw[h1];simp
  ·rw[if_neg (show ¬(x=x∧y=k) from fun e=>hyk e.2),decide_eq_false hyk,Bool.or_false]
 ·rw[if_neg (show ¬(x=i∧y=k) from fun e=>hxi e.1),decide_eq_false hxi,Bool.false_and,Bool.false_and]
theorem capI_next{i x y:Nat}:capI ks bs J (i+1) 0 x y=capI ks bs J i (bcells ks (brkAt bs i)).length x y:=by
 unfold capI;rw[List.take_zero,List.take_length];have e:(decide (x<i+1)&&restsOn ks bs x y||decide (x=i+1)&&hitB ks bs [] y)=(decide (x<i)&&restsOn ks bs x y||decide (x=i)&&hitB ks bs (bcells ks (brkAt bs i)) y):=by
  have h0:hitB ks bs [] y=false:=rfl;rw[h0,Bool.and_false,Bool.or_false];by_cases hxi:x=i
  ·subst hxi;have h1:decide (x<x)=false:=by simp
   have h2:decide (x<x+1)=true:=by simp
   have h3:decide (x=x)=true:=by simp
   rw[h1,h2,h3,Bool.true_and,Bool.false_and,Bool.true_and,Bool.false_or];rfl
  ·have h3:decide (x=i)=false:=by simpa using hxi
   rw[h3,Bool.false_and,Bool.or_false];congr 1;rw[decide_eq_decide];omega
 rw[e]
theorem capI_all(hf:Fit ks bs){x y:Nat}(hx:x<bs.length):capI ks bs (jointL ks bs) bs.length 0 x y=capV ks bs x y:=by
 unfold capI capV;have h0:hitB ks bs ((bcells ks (brkAt bs bs.length)).take 0) y=false:=rfl;rw[h0,Bool.and_false,Bool.or_false];have h1:decide (x<bs.length)=true:=by simpa using hx
 rw[h1,Bool.true_and];by_cases hxy:x=y
 ·subst hxy;rw[if_neg (by simp),if_pos rfl];exact capJ_same hf _ _
 ·rw[if_neg hxy];have h2:decide (x≠y)=true:=by simpa using hxy
  rw[h2,Bool.true_and];cases restsOn ks bs x y
  ·rw[if_neg (by decide),if_neg (by decide)];exact capJ_all hf x y
  ·rfl
theorem cell_ok(hf:Fit ks bs){j:Nat}(hj:j<bs.length){c:Pt}(hc:c∈bcells ks (brkAt bs j)):c.ok:=by
 obtain⟨n,tn,k,e1,e2,htn,hk,hv,hfi,hp,h1,h2⟩:=hf.b j hj;rw[h2,(sortP_perm _).mem_iff] at hc;obtain⟨c0,h0,rfl⟩:=List.mem_map.1 hc;exact(addP_in (turnS_in (hfi.near _ h0) tn) hp).ok (by omega)
end
end Go.Proofs.YtojolpbpjimfgaaGreatDoor
