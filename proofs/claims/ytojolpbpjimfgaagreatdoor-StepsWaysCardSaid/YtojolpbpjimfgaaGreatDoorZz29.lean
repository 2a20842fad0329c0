/- Texts of the proof: IntsO, BoxU, Build, JntCell. -/
import Derived.Test.YtojolpbpjimfgaaGreatDoorZz7
import Derived.Test.YtojolpbpjimfgaaGreatDoorZz15
import Derived.Test.YtojolpbpjimfgaaGreatDoorZz24
import Derived.Test.YtojolpbpjimfgaaGreatDoorZz25
import Derived.Test.YtojolpbpjimfgaaGreatDoorZz28
namespace Go.Proofs.YtojolpbpjimfgaaGreatDoor
open Go.RowKit
def IntsPost(l:List Int)(w:World)(e:Ending)(w':World):Prop:= ∃A cap,e = .returned (.slice A l.length cap)∧IntsZ w' A cap l∧Ext w w'
theorem ints_own6{w:World}{b:Nat}{v:Value}{l:List Int}(h:w.ownsRow b 3 1 v l.length (l.map (Value.int .i64))): ∃A cap,v = .slice A l.length cap∧IntsZ w A cap l:=by
 obtain⟨A1,cap,e,h1,-⟩:=own_slice0 (n:=l.length) (rows:=l.map fun n=> [Value.int .i64 n]) (fun r hr=>by obtain⟨y,-,rfl⟩:=List.mem_map.1 hr;rfl) (by simp) (by
  rw[show(l.map fun n=> [Value.int .i64 n])=(l.map (Value.int .i64)).map fun v=> [v] from by rw[List.map_map];rfl,flat_ones]
  exact h)
 exact⟨A1,cap,e,h1⟩
theorem bricks_own6{w:World}{b:Nat}{v:Value}{l:List Brk}(h:w.ownsRow b 126 6 v l.length (l.map Brk.cs).flatten)(hb: ∀x∈l,x.byte): ∃A cap,v = .slice A l.length cap∧Bricks w A cap l:=by
 obtain⟨A',cap',he,hs,-⟩:=own_slice0 (fun r hr=>by obtain⟨y,-,rfl⟩:=List.mem_map.1 hr;rfl) (by rw[List.length_map]) h
 exact⟨A',cap',he,hs,hb⟩
theorem wpIn_range_boxU{α:Type}{P:Program}{n:Nat}{g:Operand}{ps:Array Tmp}{assign body:Code}{Q:Exit→Act→World→Prop}{a:Act}{w:World}
  (h1:1≤n) {gf:Nat} {lb:Array Value} (hg:a.eval g = .func (.func gf) #[] lb) (eg: ∀args w,(callFunc gf args).run P w = .ok (.enter gf args) w)
  {encs:α→Array Value} {ys:List α} {b:Nat} {t:TypeId} {v0:Value} {G:World→Prop} (hseq:BoxSeq (n-1) P gf lb encs ys b t v0 G) (hB:Blk w b t #[v0]) (hps: ∀x,(encs x).size=ps.size)
  (I:List α→World→Prop) (hI:Lets b G I) (hIp: ∀s A l o o',I s A→w.heap.size≤l→A.heap[l]? = some o→o.isCells=false→I s (A.putObj l o'))
  (h0:I [] w) (upd:α→Array Value→Array Value)
  (hassign: ∀(l:Nat) (x:α) (W:World) (K:Act→World→Prop),K { tmps:=upd x a.tmps,defers:= [] } W →
   assign.wpIn (Fence.wide.inRound l) (n-1-1) P (Exit.then K (fun _ _ _=>False)) { tmps:=(ps.zip (encs x)).foldl (fun t (p,v)=>t.setIfInBounds p v) a.tmps,defers:= [] } W)
  (hbody: ∀(l:Nat) (pre:List α) (x:α) (W:World) (v:Value),w.heap.size≤l→I pre W→Blk W b t #[v]→pre ++ [x] <+: ys →
   body.wpIn (Fence.wide.inRound l) (n-1-1) P (boxPost w.heap.size (I (pre ++ [x])) b t v W) { tmps:=upd x a.tmps,defers:= [] } W)
  (hdone: ∀(D:Nat) (W:World),w.heap.size≤D→I ys W→W.heap[D]? = some (.deferred (some []))→Q .normal { a with defers:={ target:= .collected D,args:= #[] }::a.defers } W) :
  (Code.rangeFunc g ps assign body).wpIn Fence.wide n P Q a w :=
 wpIn_rangeFunc_box h1 hg eg hseq hB hps I hI hIp h0 (fun x=>{ tmps:=upd x a.tmps,defers:= [] }) hassign hbody hdone
theorem infoClls:(Tryz.prog.info? 109).map (fun i=>(i.zero,i.size,i.bytes))=some (some (.slice none 0 0),1,24):=by kernel_rfl
set_option maxRecDepth 100000 in
set_option maxHeartbeats 8000000 in
theorem build_bad(qs:List (Knd×KAt))(QA:Option Addr)(qc:Nat)(bs:List Brk)(B:Option Addr)(cb:Nat)(w:World)(hk:Kinds w QA qc qs)(hb:Bricks w B cb bs)(r:Int)(hr:checkErr (qs.map (·.1)) bs=r)(h0:r≠0) :
  Calls Tryz.prog 88 #[.slice QA qs.length qc,.agg #[.slice B bs.length cb]] w fun e w'=>e = .returned (.tuple #[.pointer none,.int .i64 r])∧Ext w w':=by
 have hmm:= @run_makeMap Tryz.prog
 obtain⟨W1,hW1,E1,B1,hz1⟩:=mk_ w #[.slice B bs.length cb] 25
 obtain⟨W2,hW2,E2,M2,hz2⟩:=mapbox_ encPt evI W1
 obtain⟨W3,hW3,E3,B3,hz3⟩:=mk_ W2 #[.slice QA qs.length qc,.slice B bs.length cb,.slice none 0 0,.map (some W1.heap.size),.slice none 0 0] 172
 have E:=(E1.trans E2).trans E3
 have b1:=((B1.ext E2).ext E3).cell
 have JO:=joints_c qs QA qc bs B cb W3 (hk.ext E) (hb.ext E) (fun h=>links_few hk hb.2 h)
 rw[hr] at JO
 obtain⟨jl,hjl⟩:=nm (jointR (qs.map (·.1)) bs)
 rw[hjl] at JO
 have h1:(r != 0)=true:=by simpa using h0
 have b1':=B1.cell
 clear hz1 hz2 hz3 hk hb hr h0 hjl M2
 go_enter Tryz.func88,Tryz.ntmps88
 go_wp2_with fail
 clear b1'
 refine JO.mono ?_
 rintro e W4 ⟨JA,jc,rfl,-,E4⟩
 go_wp2_with fail
 go_ret2
 exact⟨rfl,E.trans E4⟩
set_option maxRecDepth 100000 in
set_option maxHeartbeats 16000000 in
theorem build_ok(qs:List (Knd×KAt))(QA:Option Addr)(qc:Nat)(bs:List Brk)(B:Option Addr)(cb:Nat)(w:World)(hk:Kinds w QA qc qs)(hb:Bricks w B cb bs)(hcm:checkErr (qs.map (·.1)) bs=0) :
  Calls Tryz.prog 88 #[.slice QA qs.length qc,.agg #[.slice B bs.length cb]] w (BuildPost qs QA qc bs B cb w):=by
 have hmm:= @run_makeMap Tryz.prog
 have hm0:=check_model hcm
 have hft:=fit_of hk hb.2 hcm
 obtain⟨T,hT⟩:=nm w.heap.size
 obtain⟨W1,hW1,E1,B1,hz1⟩:=mk_ w #[.slice B bs.length cb] 25
 obtain⟨M,hM⟩:=nm W1.heap.size
 obtain⟨W2,hW2,E2,M2,hz2⟩:=mapbox_ encPt evI W1
 obtain⟨X,hX⟩:=nm W2.heap.size
 obtain⟨W3,hW3,E3,B3,hz3⟩:=mk_ W2 #[.slice QA qs.length qc,.slice B bs.length cb,.slice none 0 0,.map (some W1.heap.size),.slice none 0 0] 172
 rw[hM] at M2
 have bA:=B1.cell
 have bB:=((B1.ext E2).ext E3).cell
 rw[hM] at B3
 rw[hT] at B1
 rw[hX] at B3 hz3
 have HT:=h_ hT
 have HM1:=h_ hM
 have HX1:=h_ hX
 have HM:=h_ (show T+1=M by omega)
 have HX:=h_ (show M+1=X by omega)
 have E:=(E1.trans E2).trans E3
 have BM:=(B1.ext E2).ext E3
 have JO:=jointsA_c qs QA qc bs B cb W3 (hk.ext E) (hb.ext E) (fun h=>links_few hk hb.2 h)
 have hjl:jointR (qs.map (·.1)) bs=jointL (qs.map (·.1)) bs:=if_pos hcm
 rw[hcm,hjl] at JO
 unfold JntOwn at JO
 rw[hz3] at JO
 have CE:=h_ (fun(j:Nat) (hj:j<bs.length) (W:World) (E:Ext w W)=>cellsAt_c hk hb.2 hm0 hj W E)
 have Hcl:=h_ (fun(j:Nat) (hj:j<bs.length)=>show clen (qs.map (·.1)) bs j≤24 by
  obtain⟨i,t,x,y,z,c,k,p,-,-,-,hf,-,-,-,h,-⟩:=brk_parts hk hb.2 hm0 hj
  unfold clen
  rw[h,sortP_len,placeP_len]
  exact hf.len)
 have HB:=h_ hb
 have Hft:=h_ hft
 have hnb:=hft.n
 have M3:=M2.ext E3
 obtain⟨ks,hks⟩:=nm (qs.map (·.1))
 rw[hks] at JO CE Hft Hcl
 obtain⟨nb,hnbe⟩:=nm bs.length
 have Hnb:=h_ hnbe
 have Hks:=h_ hks
 obtain⟨J,hJ⟩:=nm (jointL ks bs)
 have HJ:=h_ hJ
 rw[hJ] at JO
 obtain⟨nq,hnq⟩:=nm qs.length
 have Hnq:=h_ hnq
 rw[hnbe] at BM B3 JO CE hnb Hcl hW1 hW3 ⊢
 rw[hnq] at B3 JO CE hW3 ⊢
 obtain⟨i9,hi9,hz9,hz91,hz92⟩:=info_parts infoClls
 rw[hnbe] at bA bB
 have HE:=h_ E
 have HBM:=h_ BM
 have HBX:=h_ B3
 have HM3:=h_ M3
 clear hz1 hz2 hz3 hk hb hcm hm0 hft hjl hks hnbe hnq hJ hT hM hX M2 M3 E B1 B3 BM E1 E2 E3
 go_enter Tryz.func88,Tryz.ntmps88
 go_wp2_with fail
 rw[HT.out,HM1.out,HX1.out]
 clear bA bB hmm hW1 hW2 hW3
 refine JO.mono ?_
 rintro e W4 ⟨JA,jc,rfl,oJ4,-,E4⟩
 have bx:=(HBX.out.ext E4).cell
 have fx:=(HBX.out.ext E4).frozen
 have b1':=(HBM.out.ext E4).cell
 obtain⟨V,hV⟩:=nm (W4.setCell ⟨X,4,none⟩ (.slice JA J.length jc))
 have hXT:X≠T:=by have:=HM.out;have:=HX.out;omega
 have BMV:Blk V T 25 #[.slice B nb cb]:=hV▸(HBM.out.ext E4).far (p:=⟨X,4,none⟩) (Ne.symm hXT) _
 have BXV:Blk V X 172 #[.slice QA nq qc,.slice B nb cb,.slice none 0 0,.map (some M),.slice JA J.length jc]:=hV▸(HBX.out.ext E4).set_ 4 _
 have MV:MapOf encPt evI V M []:=hV▸(HM3.out.ext E4).far2 (p:=⟨X,4,none⟩) (by have:=HX.out;show M≠X;omega) _
 have EV:Ext w V:=hV▸(HE.out.trans E4).setCell (p:=⟨X,4,none⟩) (by have:=HT.out;have:=HM.out;have:=HX.out;show w.heap.size≤X;omega) _
 have oJV:V.ownsRow (X+1) 242 5 (.slice JA J.length jc) J.length (J.map Jnt.cs).flatten:=hV▸own_setCell oJ4 (p:=⟨X,4,none⟩) (by show X<X+1;omega) _
 have bV:=BMV.cell
 go_wp2_with fail
 clear bx fx b1' hV oJ4 E4 bV hXT
 have hU:X+1≤V.heap.size:=by have:=BXV.lt;omega
 have HU:=h_ hU
 clear hU
 go_loopw [36] (fun ii wr=> ∃(j:Nat) (v:Value) (gs cp:Nat→Nat) (mm:List (Pt×Int)),j≤nb∧ii = .int .i64 j∧Ext w wr∧Blk wr T 25 #[.slice B nb cb]∧Blk wr X 172 #[.slice QA nq qc,.slice B nb cb,v,.map (some M),.slice JA J.length jc]∧MapOf encPt evI wr M mm∧BrkOf ks bs j 0 mm∧wr.ownsRow (X+1) 109 1 v j (clC gs (clen ks bs) cp j)∧CBl ks bs wr gs cp j∧wr.ownsRow (X+1) 242 5 (.slice JA J.length jc) J.length (J.map Jnt.cs).flatten) (fun ii _=>nb-(intOf ii).toNat)
 case atStart=>exact⟨0,_,fun _=>0,fun _=>0,[],by omega,rfl,EV,BMV,BXV,MV,BrkOf.nil,World.ownsRow_nil _ _ _ _,fun i hi=>by omega,oJV⟩
 case round =>
  clear EV BMV BXV MV oJV
  obtain⟨j,v,gs,cp,mm,hj,rfl,Er,BM,BX,MM,BO,own,hCB,oJ⟩:=hrel
  by_cases hlt:j<nb
  ·obtain⟨bg,boff,hBA⟩:=bricks_addr HB.out (by rw[Hnb.out];omega)
   subst hBA
   obtain⟨d0,d1,d2,d3,d4,d5⟩:=bricks_cell (HB.out.ext Er) (k:=j) (by rw[Hnb.out];exact hlt) rfl
   have CL:=h_ (CE.out j hlt)
   have hcl:=Hcl.out j hlt
   have Hcn:=h_ (show(bcells ks (brkAt bs j)).length=clen ks bs j from rfl)
   obtain⟨n,hn⟩:=nm (clen ks bs j)
   rw[hn] at hcl
   have Hn:=h_ hn
   unfold CellsRes at CL
   rw[Hcn.out,hn] at CL
   obtain⟨W5,hW5,E5,B5,-⟩:=mk_ wr #[.int .i64 (brkAt bs j).kind,.int .i64 (brkAt bs j).at_.x,.int .i64 (brkAt bs j).at_.y,.int .i64 (brkAt bs j).at_.z,.int .u8 (brkAt bs j).turn,.int .u8 (brkAt bs j).color] 126
   have EX:=Er.trans E5
   have b5:=B5.cell
   have bm:=BM.cell
   have j0:(0:Int)≤j:=by omega
   have j1:(j:Int)<nb:=by omega
   clear hn
   go_wp2_with fail
   clear d0 d1 d2 d3 d4 d5 b5 hW5
   refine(CL.out _ EX).mono ?_
   rintro e W6 ⟨g6,c6,hg6,rfl,hc1,hc2,R6,E6⟩
   have ErX:=EX.trans E6
   have BX6:=(BX.ext E5).ext E6
   have BM6:=(BM.ext E5).ext E6
   have M6:=(MM.ext E5).ext E6
   have own6:=own_ext (own_ext own E5) E6
   have oJ6:=own_ext (own_ext oJ E5) E6
   have CB6:=(hCB.ext E5).ext E6
   have bx:=BX6.cell
   clear bm BX BM MM own oJ hCB Er EX E5 E6 hg6 B5
   have hlX:j+1≤maxLen:=by unfold maxLen;omega
   have hby:(j+1)*24≤140737488355328:=by omega
   have hUx:X+1≤W6.heap.size:=by have:=BX6.lt;omega
   have bxa:=(BX6.alloc (.cells #[.slice (some ⟨g6,0,none⟩) n c6] 109)).cell
   go_wp2_with (at_builtin;refine wpList_append_one #[.slice (some ⟨g6,0,none⟩) n c6] rfl (.tmp 51) (.tmp 53) 119 rfl (X+1) 109 109 i9 _ 1 24 Tryz.underlying119 hi9 hz9 hz91 hz92 rfl (by decide) _ _ _ _ rfl own6 rfl rfl (by simp[Value.oneCell']) hlX hby hUx ?_;intro g7 cap7 w7 own7 hg7;have BX7:=blkGrown (BX6.alloc _) (own_ext own6 ((Ext.refl _).alloc _)) hg7 (by decide);have bx7:=BX7.cell;have fx7:=BX7.frozen;obtain⟨V7,hV7⟩:=nm (w7.setCell ⟨X,2,none⟩ (.slice (some ⟨g7,0,none⟩) (j+1) cap7)))
   have ownA:=own_ext own6 ((Ext.refl W6).alloc (.cells #[.slice (some ⟨g6,0,none⟩) n c6] 109))
   have MA:=M6.ext ((Ext.refl W6).alloc (.cells #[.slice (some ⟨g6,0,none⟩) n c6] 109))
   have CBA:=CB6.ext ((Ext.refl W6).alloc (.cells #[.slice (some ⟨g6,0,none⟩) n c6] 109))
   have RA:=R6.ext ((Ext.refl W6).alloc (.cells #[.slice (some ⟨g6,0,none⟩) n c6] 109))
   have BMA:=BM6.alloc (.cells #[.slice (some ⟨g6,0,none⟩) n c6] 109)
   have oJA:=own_ext oJ6 ((Ext.refl W6).alloc (.cells #[.slice (some ⟨g6,0,none⟩) n c6] 109))
   have hTX:T≠X:=by have:=HM.out;have:=HX.out;omega
   have hMX:M≠X:=by have:=HX.out;omega
   have BM7:Blk V7 T 25 #[.slice (some ⟨bg,boff,none⟩) nb cb]:=hV7▸(blkGrown BMA ownA hg7 (by decide)).far (p:=⟨X,2,none⟩) hTX _
   have BXW:Blk V7 X 172 #[.slice QA nq qc,.slice (some ⟨bg,boff,none⟩) nb cb,.slice (some ⟨g7,0,none⟩) (j+1) cap7,.map (some M),.slice JA J.length jc]:=hV7▸BX7.set_ 2 _
   have M7:MapOf encPt evI V7 M mm:=hV7▸(MA.grown hg7 (ownMap ownA MA)).far2 (p:=⟨X,2,none⟩) hMX _
   have ErV:Ext w V7:=hV7▸((ErX.trans ((Ext.refl W6).alloc _)).grown hg7 (fun k hk=>by have:=(ownA.lt k hk).1;have:=HT.out;have:=HM.out;have:=HX.out;omega)).setCell (p:=⟨X,2,none⟩) (by have:=HT.out;have:=HM.out;have:=HX.out;show w.heap.size≤X;omega) _
   have CB7:CBl ks bs V7 gs cp j:=hV7▸(CBA.own ownA hg7 (by decide)).far BX7 (by decide) 2 _
   have R7:RowX V7 g6 124 ((bcells ks (brkAt bs j)).map Pt.cs):=by
    have h:=RA.own ownA hg7 (by decide)
    have hx:=h.ne_blk BX7 (by decide)
    obtain⟨ex,hr⟩:=h
    exact hV7▸⟨ex,hr.far (p:=⟨X,2,none⟩) hx _⟩
   have oJ7:V7.ownsRow (X+1) 242 5 (.slice JA J.length jc) J.length (J.map Jnt.cs).flatten:=hV7▸own_setCell (ownGrown oJA hg7 (ownApart oJA ownA (by decide))) (p:=⟨X,2,none⟩) (by show X<X+1;omega) _
   have own8:V7.ownsRow (X+1) 109 1 (.slice (some ⟨g7,0,none⟩) (j+1) cap7) (j+1) (clC gs (clen ks bs) cp j ++ [.slice (some ⟨g6,0,none⟩) n c6]):=hV7▸own_setCell own7 (p:=⟨X,2,none⟩) (by show X<X+1;omega) _
   obtain⟨gs',hgs'⟩: ∃gs':Nat→Nat,gs'=updF gs j g6:=⟨_,rfl⟩
   obtain⟨cp',hcp'⟩: ∃cp':Nat→Nat,cp'=updF cp j c6:=⟨_,rfl⟩
   have hge: ∀i,i<j→gs' i=gs i:=fun i hi=>by rw[hgs',updF_ne _ _ (by omega)]
   have hce: ∀i,i<j→cp' i=cp i:=fun i hi=>by rw[hcp',updF_ne _ _ (by omega)]
   have hgj:gs' j=g6:=by rw[hgs',updF_at]
   have hcj:cp' j=c6:=by rw[hcp',updF_at]
   have hcl2:clC gs (clen ks bs) cp j ++ [.slice (some ⟨g6,0,none⟩) n c6]=clC gs' (clen ks bs) cp' (j+1):=by rw[clC_succ,clC_upd hge hce,hgj,hcj,Hn.out]
   rw[hcl2] at own8
   have CB8:=CB7.next hge hce (by rw[Hn.out,hcj];exact hc1) (by rw[hcj];exact hc2) (by rw[hgj];exact R7)
   have Hc1:=h_ hc1
   clear own7 hg7 BX7 bx7 fx7 hV7 ownA MA CBA RA BMA oJA hTX CB7 hge hce hgj hcj hgs' hcp' hcl2 hlX hby hUx bx bxa own6 oJ6 CB6 R6 M6 BM6 BX6 ErX hc1 hc2
   go_loopw [59] (fun ii wr'=> ∃(q:Nat) (m':List (Pt×Int)),q≤n∧ii = .int .i64 q∧Ext w wr'∧Blk wr' T 25 #[.slice (some ⟨bg,boff,none⟩) nb cb]∧Blk wr' X 172 #[.slice QA nq qc,.slice (some ⟨bg,boff,none⟩) nb cb,.slice (some ⟨g7,0,none⟩) (j+1) cap7,.map (some M),.slice JA J.length jc]∧MapOf encPt evI wr' M m'∧BrkOf ks bs j q m'∧wr'.ownsRow (X+1) 109 1 (.slice (some ⟨g7,0,none⟩) (j+1) cap7) (j+1) (clC gs' (clen ks bs) cp' (j+1))∧CBl ks bs wr' gs' cp' (j+1)∧RowX wr' g6 124 ((bcells ks (brkAt bs j)).map Pt.cs)∧wr'.ownsRow (X+1) 242 5 (.slice JA J.length jc) J.length (J.map Jnt.cs).flatten) (fun ii _=>n-(intOf ii).toNat)
   case atStart=>exact⟨0,mm,by omega,rfl,ErV,BM7,BXW,M7,BO,own8,CB8,R7,oJ7⟩
   case round =>
    clear ErV BM7 BXW M7 BO own8 CB8 R7 oJ7
    obtain⟨q,m',hqn,rfl,Er,BM,BX,MM,BO,own,hCB,RR,oJ⟩:=hrel
    by_cases hqt:q<n
    ·obtain⟨⟨cx,cy,cz⟩,hc⟩: ∃c,(bcells ks (brkAt bs j))[q]? = some c:=⟨_,List.getElem?_eq_getElem (by rw[Hcn.out,Hn.out];exact hqt)⟩
     have hr:((bcells ks (brkAt bs j)).map Pt.cs)[q]? = some (Pt.cs ⟨cx,cy,cz⟩):=by rw[List.getElem?_map,hc];rfl
     have c0:=RR.cell (pts_wide _) (j:=0) hr rfl
     have c1:=RR.cell (pts_wide _) (j:=1) hr rfl
     have c2:=RR.cell (pts_wide _) (j:=2) hr rfl
     simp only[Nat.add_zero] at c0
     have hBO:=BO.put Hft.out (by rw[Hnb.out];exact hlt) hc
     obtain⟨W8,hW8,E8,B8,-⟩:=mk_ wr #[.int .i64 cx,.int .i64 cy,.int .i64 cz] 124
     have bx:=(BX.ext E8).cell
     have b8:=B8.cell
     have M8:=MM.ext E8
     have own8:=own_ext own E8
     have oJ8:=own_ext oJ E8
     have q0:(0:Int)≤q:=by omega
     have q1:(q:Int)<n:=by omega
     have q2:(q:Int)<c6:=by have:=Hc1.out;omega
     clear hc hr
     go_upto_region 14 with(fail)
     clear c0 c1 c2 hW8
     refine wp_region_tail 6 (by kernel_rfl) (by kernel_rfl) ?_
     simp only[List.take_succ_cons,List.take_zero,List.drop_succ_cons,List.drop_zero]
     repeat (go_big_quiet_step (fail))
     refine wpQuiet_nil ?_
     intro W9 hW9
     have E9:Ext W8 W9:=by
      obtain⟨x,rfl⟩:=hW9
      exact(Ext.refl _).grow x
     clear hW9
     obtain⟨hcW9,hfW9,hzW9⟩:=ext_facts E9
     clear hcW9 hfW9 hzW9 bx b8
     have M9:=M8.ext E9
     have E89:=E8.trans E9
     go_wp2_with (at_mapUpdate;refine wpList_put ptKey rfl _ _ _ 117 rfl 3 Tryz.underlying117 M m' ⟨cx,cy,cz⟩ (j:Int) rfl M9 rfl rfl ?_;intro w6 M10 hg6 hz6)
     go_roundw
     case rel =>
      refine⟨q+1,_,by omega,by go_num,(Er.trans E89).grown hg6 (fun k hk=>by cases hk;have:=HT.out;have:=HM.out;omega),(BM.ext E89).grown hg6 (fun e=>M9.blk_ne (BM.ext E89) (by cases e;rfl)),(BX.ext E89).grown hg6 (fun e=>M9.blk_ne (BX.ext E89) (by cases e;rfl)),M10,hBO,ownGrown (own_ext own E89) hg6 (Or.inr (ownMap (own_ext own E89) M9).symm),(hCB.ext E89).mapTurned M9 hg6,(RR.ext E89).grown hg6 ((RR.ext E89).map_ne M9),ownGrown (own_ext oJ E89) hg6 (Or.inr (ownMap (own_ext oJ E89) M9).symm)⟩
     case measure=>simp only[intOf];omega
    ·obtain rfl:q=n:=by omega
     have hBO:BrkOf ks bs (j+1) 0 m':=BrkOf.next (by rw[Hcn.out,Hn.out];exact BO)
     go_wp2_with fail
     go_roundw
     case rel=>exact⟨j+1,_,gs',cp',m',by omega,by go_num,Er,BM,BX,MM,hBO,own,hCB,oJ⟩
     case measure=>simp only[intOf];omega
  ·obtain rfl:j=nb:=by omega
   obtain⟨CA,cc,rfl⟩:=ownForm own
   have hBO:BrkMap ks bs mm:=BrkOf.all (by rw[Hnb.out];exact BO)
   have hkr:=Hks.out
   have hnr:=Hnb.out
   have hqr:=Hnq.out
   have hJr:=HJ.out
   obtain⟨A1,c1,e1,S1,-⟩:=own_slice0 (rows:=(clC gs (clen ks bs) cp j).map fun v=> [v]) (fun r hr=>by obtain⟨v,-,rfl⟩:=List.mem_map.1 hr;rfl) (show((clC gs (clen ks bs) cp j).map fun v=> [v]).length=j by simp[clC]) (by rw[flat_ones];exact own)
   cases e1
   obtain⟨A2,c2,e2,S2,-⟩:=own_slice0 (rows:=J.map Jnt.cs) (jnt_wide _) (by rw[List.length_map]) oJ
   cases e2
   have HF:=h_ (show BuiltAt wr X qs QA qc bs B cb CA cc M JA jc gs cp mm from⟨by rw[hqr,hnr,hkr,hJr];exact BX,by rw[hnr,hkr];exact S1,by rw[hkr,hnr];exact hCB,MM,by rw[hkr];exact hBO,by rw[hkr,hJr];exact S2⟩)
   have hwX:w.heap.size≤X:=by have:=HT.out;have:=HM.out;have:=HX.out;omega
   go_wp2_with fail
   go_ret2
   exact⟨X,CA,cc,M,JA,jc,gs,cp,mm,rfl,hwX,HF.out,Er⟩
def jntGet(l:List Jnt)(i:Nat):Jnt:=l.getD i ⟨0,0,0,0,false⟩
theorem jntGet_get{l:List Jnt}{i:Nat}(h:i<l.length):l[i]? = some (jntGet l i):=by
 unfold jntGet
 rw[List.getD_eq_getElem?_getD,List.getElem?_eq_getElem h]
 rfl
theorem jnts_cell{w:World}{A:Option Addr}{cap:Nat}{l:List Jnt}(h:Jnts w A cap l){k:Nat}(hk:k<l.length){g off:Nat}(hA:A=some ⟨g,off,none⟩):w.cell? ⟨g,off+k*5,none⟩=some (.int .i64 (jntGet l k).a)∧w.cell? ⟨g,off+k*5+1,none⟩=some (.int .i64 (jntGet l k).b) ∧
  w.cell? ⟨g,off+k*5+2,none⟩=some (.int .i64 (jntGet l k).strength)∧w.cell? ⟨g,off+k*5+3,none⟩=some (.int .u8 (jntGet l k).axis)∧w.cell? ⟨g,off+k*5+4,none⟩=some (.bool (jntGet l k).slides):=by
 obtain⟨b,o,hA',-,hc⟩:=SliceIs.cells h (by omega)
 rw[hA'] at hA
 cases hA
 have hr:(l.map Jnt.cs)[k]? = some (jntGet l k).cs:=by rw[List.getElem?_map,jntGet_get hk];rfl
 exact⟨hc k _ hr 0 _ rfl,hc k _ hr 1 _ rfl,hc k _ hr 2 _ rfl,hc k _ hr 3 _ rfl,hc k _ hr 4 _ rfl⟩
end Go.Proofs.YtojolpbpjimfgaaGreatDoor
