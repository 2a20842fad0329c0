/- Texts of the proof: RBack, RFree. -/
import Derived.Test.YtojolpbpjimfgaaGreatDoorZy9
import Derived.Test.YtojolpbpjimfgaaGreatDoorZy25
import Derived.Test.YtojolpbpjimfgaaGreatDoorZy46
set_option maxHeartbeats 16000000
set_option maxRecDepth 100000
namespace Go.Proofs.YtojolpbpjimfgaaGreatDoor
open Go.RowKit
def Small(B:Int)(p:Pt):Prop:=(-B≤p.x∧p.x≤B)∧(-B≤p.y∧p.y≤B)∧(-B≤p.z∧p.z≤B)
theorem stepS_mul{d:Nat}(hd:d<6)(a b c n:Int)(ha: -n≤a∧a≤n)(hb: -n≤b∧b≤n)(hc: -n≤c∧c≤n):(-n≤a*(stepS d).x∧a*(stepS d).x≤n)∧(-n≤b*(stepS d).y∧b*(stepS d).y≤n)∧(-n≤c*(stepS d).z∧c*(stepS d).z≤n):=by
 refine step_cases (P:=fun d=>(-n≤a*(stepS d).x∧a*(stepS d).x≤n)∧(-n≤b*(stepS d).y∧b*(stepS d).y≤n)∧(-n≤c*(stepS d).z∧c*(stepS d).z≤n)) ?_ ?_ ?_ ?_ ?_ ?_ hd<;>(simp only[stepS];omega)
theorem rback_c(x y z:Int)(d t:Nat)(hd:d<6)(ht:t≤100000)(hp:Small 100000 ⟨x,y,z⟩)(w:World) :
  Calls Tryz.prog 104 #[.agg #[.int .i64 x,.int .i64 y,.int .i64 z],.int .i64 d,.int .i64 t] w fun e w'=>e = .returned (.agg #[.int .i64 (backP d t ⟨x,y,z⟩).x,.int .i64 (backP d t ⟨x,y,z⟩).y,.int .i64 (backP d t ⟨x,y,z⟩).z])∧Ext w w':=by
 obtain⟨⟨h1,h2⟩,⟨h3,h4⟩,⟨h5,h6⟩⟩:=hp;simp only at h1 h2 h3 h4 h5 h6;obtain⟨W1,hW1,E1,B1,hz1⟩:=mk_ w #[.int .i64 x,.int .i64 y,.int .i64 z] 124;obtain⟨W2,hW2,E2,B2,hz2⟩:=mk_ W1 #[.int .i64 0,.int .i64 0,.int .i64 0] 124;have HB1:=h_ (B1.ext E2);have HB2:=h_ B2;have HE:=h_ (E1.trans E2);have ST:=rstep_c d hd W2;have HS:=h_ hz1;obtain⟨⟨m1,m2⟩,⟨m3,m4⟩,m5,m6⟩:=stepS_mul hd t t t 100000 ⟨by omega,by omega⟩ ⟨by omega,by omega⟩ ⟨by omega,by omega⟩;have Hbk:=h_ (show backP d t ⟨x,y,z⟩=⟨x-t*(stepS d).x,y-t*(stepS d).y,z-t*(stepS d).z⟩ from rfl);obtain⟨⟨sx,sy,sz⟩,hs⟩:=nm (stepS d);rw[hs] at ST m1 m2 m3 m4 m5 m6 Hbk;simp only at ST m1 m2 m3 m4 m5 m6 Hbk;clear B1 B2 E1 E2 hz1 hz2 hs;go_enter Tryz.func104,Tryz.ntmps104;go_wp2_with fail;refine ST.mono ?_;rintro e W3 ⟨rfl,E3⟩;obtain⟨W4,hW4,E4,B4,-⟩:=mk_ W3 #[.int .i64 sx,.int .i64 sy,.int .i64 sz] 124;have E34:=E3.trans E4;have b1:=(HB1.out.ext E34).cell;have b2:=(HB2.out.ext E34).cell;have f2:=(HB2.out.ext E34).frozen;have b4:=B4.cell;have HB4:=h_ (HB2.out.ext E34);have HE3:=h_ (HE.out.trans E34);have HW4:=h_ hW4;clear E3 E4 E34 B4 hW1 hW2 hW4
 go_upto_region 2 with(fail)
 rw[HW4.out];go_wp2_with fail;rw[Hbk.out];refine bodyPost_ret (v:= .agg #[.int .i64 (x-t*sx),.int .i64 (y-t*sy),.int .i64 (z-t*sz)]) ?_ rfl ⟨rfl,?_⟩
 ·have c:=fun u1 u2 u3=>(((HB4.out.set_ 0 u1).set_ 1 u2).set_ 2 u3).cell;simp[results,Tryz.results104,go_sem,c]
 ·have hs:w.heap.size≤W1.heap.size:=by have:=HS.out;omega
  exact((HE3.out.setCell (p:=⟨W1.heap.size,0,none⟩) hs _).setCell (p:=⟨W1.heap.size,1,none⟩) hs _).setCell (p:=⟨W1.heap.size,2,none⟩) hs _
theorem dot_far{c p:Pt}{d:Nat}(hd:d<6):(c.x-p.x)*(stepS d).x+(c.y-p.y)*(stepS d).y+(c.z-p.z)*(stepS d).z=farP c d-farP p d:=by
 refine step_cases (P:=fun d=>(c.x-p.x)*(stepS d).x+(c.y-p.y)*(stepS d).y+(c.z-p.z)*(stepS d).z=farP c d-farP p d) ?_ ?_ ?_ ?_ ?_ ?_ hd<;>(simp only[farP,stepS];omega)
theorem behind_far{c p:Pt}{d:Nat}(hd:d<6){n:Int}(hn:farP c d-farP p d=n):behindZ c p d=if n<1 then 0 else if backP d n.toNat c=p then n else 0:=by
 unfold behindZ;simp only;rw[dot_far hd,hn]
theorem rbehind_c(x y z a b c:Int)(d:Nat)(hd:d<6)(hp:Small 2000 ⟨x,y,z⟩)(hq:Small 2000 ⟨a,b,c⟩)(w:World) :
  Calls Tryz.prog 105 #[.agg #[.int .i64 x,.int .i64 y,.int .i64 z],.agg #[.int .i64 a,.int .i64 b,.int .i64 c],.int .i64 d] w fun e w'=>e = .returned (.int .i64 (behindZ ⟨x,y,z⟩ ⟨a,b,c⟩ d))∧Ext w w':=by
 obtain⟨⟨h1,h2⟩,⟨h3,h4⟩,⟨h5,h6⟩⟩:=hp;obtain⟨⟨k1,k2⟩,⟨k3,k4⟩,⟨k5,k6⟩⟩:=hq;simp only at h1 h2 h3 h4 h5 h6 k1 k2 k3 k4 k5 k6;obtain⟨W1,hW1,E1,B1,hz1⟩:=mk_ w #[.int .i64 x,.int .i64 y,.int .i64 z] 124;obtain⟨W2,hW2,E2,B2,hz2⟩:=mk_ W1 #[.int .i64 a,.int .i64 b,.int .i64 c] 124;have HB1:=h_ (B1.ext E2);have HB2:=h_ B2;have HE:=h_ (E1.trans E2);have ST:=rstep_c d hd W2;have HBk:=h_ (fun(t:Nat) (ht:t≤100000) (W:World)=>rback_c x y z d t hd ht ⟨⟨by simp only;omega,by simp only;omega⟩,⟨by simp only;omega,by simp only;omega⟩,⟨by simp only;omega,by simp only;omega⟩⟩ W);have Hne:=h_ pt_neq;obtain⟨⟨m1,m2⟩,⟨m3,m4⟩,m5,m6⟩:=stepS_mul hd (x-a) (y-b) (z-c) 4000 ⟨by omega,by omega⟩ ⟨by omega,by omega⟩ ⟨by omega,by omega⟩;have hdf:=dot_far (c:=⟨x,y,z⟩) (p:=⟨a,b,c⟩) hd;obtain⟨⟨sx,sy,sz⟩,hs⟩:=nm (stepS d);rw[hs] at ST m1 m2 m3 m4 m5 m6 hdf;simp only at ST m1 m2 m3 m4 m5 m6 hdf;have Hdf:=h_ hdf;clear B1 B2 E1 E2 hz1 hz2 hs hdf;go_enter Tryz.func105,Tryz.ntmps105;go_wp2_with fail;refine ST.mono ?_;rintro e W3 ⟨rfl,E3⟩;obtain⟨W4,hW4,E4,B4,-⟩:=mk_ W3 #[.int .i64 sx,.int .i64 sy,.int .i64 sz] 124;have E34:=E3.trans E4;have b1:=(HB1.out.ext E34).cell;have b2:=(HB2.out.ext E34).cell;have b4:=B4.cell;have HE3:=h_ (HE.out.trans E34);have HW4:=h_ hW4;clear E3 E4 E34 B4 hW1 hW2 hW4
 go_upto_region 2 with(fail)
 rw[HW4.out]
 go_upto_region 3 with(fail)
 obtain⟨n,hn⟩:=nm ((x-a)*sx+(y-b)*sy+(z-c)*sz);rw[hn];have Hv:=h_ (behind_far (c:=⟨x,y,z⟩) (p:=⟨a,b,c⟩) hd (n:=n) (by have:=Hdf.out;omega));have hn2:n≤12000:=by omega
 clear hn m1 m2 m3 m4 m5 m6;by_cases h1:n<1
 ·refine w_g ?_
  repeat (go_big_quiet_step ((fail)))
  refine wpQuiet_nil ?_;intro W5 hW5;have E5:Ext W4 W5:=by
   obtain⟨x,rfl⟩:=hW5;exact(Ext.refl _).grow x
  clear hW5;obtain⟨hcW5,hfW5,hzW5⟩:=ext_facts E5;have HE5:=h_ (HE3.out.trans E5);clear E5 hcW5 hfW5 hzW5;go_wp2_with fail;refine bodyPost_ret (v:= .int .i64 0) (by simp[results,Tryz.results105,go_sem]) rfl ⟨by rw[Hv.out,if_pos h1],HE5.out⟩
 ·obtain⟨t,ht⟩:=Int.eq_ofNat_of_zero_le (show 0≤n by omega);subst ht;have CB:=HBk.out t (by omega);obtain⟨⟨qx,qy,qz⟩,hq⟩:=nm (backP d t ⟨x,y,z⟩);rw[hq] at CB;have h2:decide ((t:Int)<1)=false:=by simpa using h1
  obtain⟨r,hr⟩:=nm (Pt.eqB ⟨qx,qy,qz⟩ ⟨a,b,c⟩);have heq:=fun W=>Hne.out qx qy qz a b c W;rw[hr] at heq;have Hv2:=h_ (show behindZ ⟨x,y,z⟩ ⟨a,b,c⟩ d=if r=true then(t:Int) else 0 by
   rw[Hv.out,if_neg h1,Int.toNat_natCast,hq,←hr]
   simp only[Pt.eqB_iff])
  clear hr h1;refine w_g ?_
  repeat (go_big_quiet_step ((go_at_call 104;exact quiet_ext (CB _))))
  refine wpQuiet_nil ?_;intro W5 hW5;have E5:Ext W4 W5:=by
   obtain⟨x,rfl⟩:=hW5;exact(Ext.refl _).grow x
  clear hW5;obtain⟨hcW5,hfW5,hzW5⟩:=ext_facts E5;have HE5:=h_ (HE3.out.trans E5);clear E5 hcW5 hfW5 hzW5;cases r
  ·go_wp2_with fail;refine bodyPost_ret (v:= .int .i64 0) (by simp[results,Tryz.results105,go_sem]) rfl ⟨by rw[Hv2.out];rfl,HE5.out⟩
  ·go_wp2_with fail;refine bodyPost_ret (v:= .int .i64 t) (by simp[results,Tryz.results105,go_sem]) rfl ⟨by rw[Hv2.out];rfl,HE5.out⟩
def wayC(c p:Pt)(d:Nat):Bool:=inB 1 64 (behindZ c p d)
theorem wayC_iff{c p:Pt}{d:Nat}(hd:d<6):wayC c p d=true ↔ ∃t,1≤t∧t≤64∧backP d t c=p:=by
 unfold wayC;rw[inB_iff];constructor
 ·rintro⟨h1,h2⟩;obtain⟨n,hn⟩:=Int.eq_ofNat_of_zero_le (behind_nonneg c p d);exact⟨n,by omega,by omega,(behind_iff hd (by omega)).1 hn⟩
 ·rintro⟨t,h1,h2,h3⟩;rw[(behind_iff hd h1).2 h3];omega
section
variable {ks:List Knd} {bs:List Brk} {tab:Int} {z b d:Nat}
theorem free_tab{c:Pt}(hc:c∈bcells ks (brkAt bs b))(h: ¬tab≤(backP d 64 c).z):freeB ks bs tab z b d=false:=freeB_not fun h1=>h (h1.tab c hc)
theorem free_way{n k:Nat}{c p:Pt}(hz:SetB n z)(hn:n≤64)(hk:k<(setL z).length)(hd:d<6)(hc:c∈bcells ks (brkAt bs b))(hp:p∈bcells ks (brkAt bs (memA z k)))(h:wayC c p d=true):freeB ks bs tab z b d=false:=freeB_not fun h1=>by
 obtain⟨t,t1,t2,rfl⟩:=(wayC_iff hd).1 h;exact h1.way _ ((setL_of hz hn).1 (List.mem_of_getElem? (memA_get hk))) c hc t t1 t2 hp
theorem free_of{r:Bool}{n:Nat}(hz:SetB n z)(hn:n≤64)(hd:d<6)(hr:r=true ↔ ∀x∈linkL ks bs,fitX ks bs z b d x)(ht: ∀c∈bcells ks (brkAt bs b),tab≤(backP d 64 c).z)(hw: ∀k,k<(setL z).length → ∀c∈bcells ks (brkAt bs b),∀p∈bcells ks (brkAt bs (memA z k)),wayC c p d=false):freeB ks bs tab z b d=r:=by
 rw[Bool.eq_iff_iff,freeB_iff,hr];refine⟨fun h=>h.fit,fun h=>⟨h,ht,fun j hj c hc t t1 t2 hm=> ?_⟩⟩;obtain⟨k,hk⟩:=List.getElem?_of_mem ((setL_of hz hn).2 hj);have h1:=hw k (List.getElem?_eq_some_iff.1 hk).1 c hc _ (memA_eq hk▸hm);rw[(wayC_iff hd).2 ⟨t,t1,t2,rfl⟩] at h1;cases h1
end
theorem in_small{p:Pt}(h:p.in_ 1015):Small 2000 p:=by
 obtain⟨⟨h1,h2⟩,⟨h3,h4⟩,⟨h5,h6⟩⟩:=h;exact⟨⟨by omega,by omega⟩,⟨by omega,by omega⟩,⟨by omega,by omega⟩⟩
theorem small_mono{p:Pt}(h:Small 2000 p):Small 100000 p:=by
 obtain⟨⟨h1,h2⟩,⟨h3,h4⟩,⟨h5,h6⟩⟩:=h;exact⟨⟨by omega,by omega⟩,⟨by omega,by omega⟩,⟨by omega,by omega⟩⟩
theorem all_to{α:Type}{l:List α}{P:α→Prop}{k:Nat}(h: ∀t,t<k → ∀x,l[t]? = some x→P x){y:α}(hy:l[k]? = some y)(hP:P y): ∀t,t<k+1 → ∀x,l[t]? = some x→P x:=fun t ht x hx=>by
 rcases Nat.lt_or_ge t k with h1|h1
 ·exact h t h1 x hx
 ·obtain rfl:t=k:=by omega
  rw[hy] at hx;cases hx;exact hP
theorem all_mem{α:Type}{l:List α}{P:α→Prop}{n:Nat}(h: ∀t,t<n → ∀x,l[t]? = some x→P x)(hn:l.length=n): ∀x∈l,P x:=fun x hx=>by
 obtain⟨t,ht⟩:=List.getElem?_of_mem hx;exact h t (hn▸(List.getElem?_eq_some_iff.1 ht).1) x ht
structure Fr5(W0:World)(g1 c1 n q d T2:Nat)(cx cy cz u1 u2 u3 tab:Int)(L:Nat→Bool)(us:Nat→Value)(w:World):Prop where
 x:Ext W0 w
 f0:L 0=true→us 0 = .slice (some ⟨g1,0,none⟩) n c1
 f1:L 1=true→us 1 = .int .i64 q
 f2:L 2=true→us 2 = .pointer (some ⟨g1,q*3,none⟩)
 f3:L 3=true→us 3 = .agg #[.int .i64 cx,.int .i64 cy,.int .i64 cz]
 f4:L 4=true→us 4 = .int .i64 d
 f5:L 5=true→us 5 = .agg #[.int .i64 u1,.int .i64 u2,.int .i64 u3]
 f6:L 6=true→us 6 = .int .i64 u3
 f7:L 7=true→us 7 = .pointer (some ⟨T2,0,none⟩)
 f8:L 8=true→us 8 = .int .i64 tab
 f9:L 9=true→us 9 = .bool (decide (u3<tab))
structure Pl10(W0:World)(vQ vb:Value)(T1:Nat)(B TA:Option Addr)(nb cb tn tc k j:Nat)(p p2:Addr)(n:Nat)(L1:List Pt)(L:Nat→Bool)(us:Nat→Value)(w:World):Prop where
 x:Ext W0 w
 f0:L 0=true→us 0=vQ
 f1:L 1=true→us 1 = .pointer (some ⟨T1,0,none⟩)
 f2:L 2=true→us 2 = .slice B nb cb
 f3:L 3=true→us 3 = .slice TA tn tc
 f4:L 4=true→us 4 = .int .i64 k
 f5:L 5=true→us 5 = .pointer (some p2)
 f6:L 6=true→us 6 = .int .i64 j
 f7:L 7=true→us 7 = .pointer (some p)
 f8:L 8=true→us 8=vb
 f9:L 9=true→RowV w (us 9) n L1
 f10:L 10=true→RowV w (us 10) n L1
theorem rFree_c(m:MB)(TA:Option Addr)(tc z b d:Nat)(LA:Option Addr)(lc:Nat)(w:World)(hM:MBAt w m)(hcm:checkErr m.ks m.bs=0)(hz:SetB m.bs.length z)(hbn:b<m.bs.length)(hd:d<6)(hT:IntsZ w TA tc (setI z))(hL:Links w LA lc (linkL m.ks m.bs)) :
  Calls Tryz.prog 73 #[.slice m.QA m.qs.length m.qc,.agg #[.slice m.B m.bs.length m.cb],.agg #[.int .i64 m.tab,.slice m.HA m.hands.length m.hc],.slice TA (setL z).length tc,.int .i64 b,.int .i64 d,.slice LA (linkL m.ks m.bs).length lc] w fun e w'=>e = .returned (.bool (freeB m.ks m.bs m.tab z b d))∧Ext w w':=by
 have hf:=hM.fit hcm;have hnb:=hf.n;obtain⟨W1,hW1,E1,B1,hz1⟩:=mk_ w #[.slice m.B m.bs.length m.cb] 25;obtain⟨W2,hW2,E2,B2,hz2⟩:=mk_ W1 #[.int .i64 m.tab,.slice m.HA m.hands.length m.hc] 28;have HPl:=h_ (fun(j:Nat) (hj:j<m.bs.length)=>rPlacedAt_c hM.k hM.b.2 (check_model hcm) hj);have HNe:=h_ (fun(j:Nat) (hj:j<m.bs.length) (c:Pt) (hc:c∈bcells m.ks (brkAt m.bs j))=>in_small (cells_near hM.k hM.b.2 (check_model hcm) hj c hc));have HFi:=h_ (fun(W:World) (E:Ext w W)=>rFits_c m.qs m.QA m.qc m.bs m.B m.cb TA tc z b d LA lc W (hM.ext E).k (hM.ext E).b hcm hz hbn hd (IntsZ.ext hT E) (hL.ext E));have HT:=h_ hT;have HFw:=h_ (fun(k:Nat) (hk:k<(setL z).length) (c p:Pt) hc hp h=>free_way (ks:=m.ks) (bs:=m.bs) (tab:=m.tab) (b:=b) (d:=d) (c:=c) (p:=p) hz (by omega) hk hd hc hp h);have HFo:=h_ (fun(r:Bool) hr ht hw=>free_of (ks:=m.ks) (bs:=m.bs) (tab:=m.tab) (b:=b) (r:=r) hz (by omega) hd hr ht hw);have HFt:=h_ (fun(c:Pt) hc h=>free_tab (ks:=m.ks) (bs:=m.bs) (tab:=m.tab) (z:=z) (b:=b) (d:=d) (c:=c) hc h);have HMe:=h_ (fun(k:Nat) (hk:k<(setL z).length)=>memA_lt hz (by omega) hk);obtain⟨g,off,hB⟩:=bricks_addr hM.b (by omega);have HBc:=h_ (fun(j:Nat) (hj:j<m.bs.length) (W:World) (E:Ext w W)=>bricks_cell (hM.ext E).b hj hB);have Hd:=h_ hd;have hzl:(setL z).length≤9223372036854775807:=by have:=setL_len z;omega
 rw[hB] at B1 hW1 HFi ⊢;have HB1:=h_ (B1.ext E2);have HB2:=h_ B2;have b1:=HB1.out.cell;have HE:=h_ (E1.trans E2);obtain⟨nb,hnbe⟩:=nm m.bs.length;rw[hnbe] at HPl HNe HMe HBc hbn hnb HB1 b1 hW1 HFi ⊢;obtain⟨⟨kd,⟨x1,x2,x3⟩,tn,cl⟩,hbk⟩:=nm (brkAt m.bs b);obtain⟨d0,d1,d2,d3,d4,d5⟩:=HBc.out b hbn W2 HE.out;have PB:=HPl.out b hbn W2 HE.out;have HNb:=h_ (HNe.out b hbn);rw[hbk] at d0 d1 d2 d3 d4 d5 PB HNb HFw HFo HFt;obtain⟨Lb,hLb⟩:=nm (bcells m.ks ⟨kd,⟨x1,x2,x3⟩,tn,cl⟩);obtain⟨n,hn⟩:=nm Lb.length;have hcl:clen m.ks m.bs b=n:=by unfold clen;rw[hbk,hLb,hn]
 have Hn:=h_ hn;rw[show clen (m.qs.map (·.1)) m.bs b=n from hcl,show bcells (m.qs.map (·.1)) ⟨kd,⟨x1,x2,x3⟩,tn,cl⟩=Lb from hLb] at PB;rw[hLb] at HNb HFw HFo HFt;have b0:(0:Int)≤b:=by omega
 have b2:(b:Int)<nb:=by omega
 unfold brkV at PB;obtain⟨T1,hT1⟩:=nm w.heap.size;obtain⟨T2,hT2⟩:=nm W1.heap.size;have HT1:=h_ hT1;have HT2:=h_ hT2;have HB1':=HB1.out;rw[hT1] at HB1';rw[hT2] at HB2;replace HB1:=h_ HB1';obtain⟨zn,hzn⟩:=nm ((setL z).length);have Hzn:=h_ hzn;rw[hzn] at HFw HFo HMe hzl HFi ⊢;clear hz1 hz2 B1 B2 E1 E2 hM hf hT hL hcm hz hbk hLb hn hcl hnbe hB hT1 hT2 HB1' hzn;go_enter Tryz.func73,Tryz.ntmps73;go_wp2_with fail;clear b1 hW1 hW2 d0 d1 d2 d3 d4 d5;refine PB.mono ?_;rintro e W3 ⟨g1,c1,-,rfl,hn1,hc1,X1,E3⟩;unfold maxLen at hc1;have HX1:=h_ X1;have HE3:=h_ (HE.out.trans E3);have HB13:=h_ (HB1.out.ext E3);have HB23:=h_ (HB2.out.ext E3);rw[HT1.out,HT2.out];clear X1 E3 PB;go_wp2_with fail;go_loopw [16] (fun i wr=> ∃q:Nat,q≤n∧i = .int .i64 q∧Ext W3 wr∧Hid (∀t,t<q → ∀c,Lb[t]? = some c→m.tab≤(backP d 64 c).z)) (fun i _=>n-(intOf i).toNat)
 case atStart=>exact⟨0,by omega,rfl,Ext.refl _,h_ (fun t ht=>by omega)⟩
 case round =>
  obtain⟨q,hq,rfl,E,Hq⟩:=hrel;by_cases hqn:q<n
  ·obtain⟨⟨x,y,zz⟩,hc⟩: ∃c,Lb[q]? = some c:=⟨_,List.getElem?_eq_getElem (by rw[Hn.out];exact hqn)⟩;have hr:(Lb.map Pt.cs)[q]? = some (Pt.cs ⟨x,y,zz⟩):=by rw[List.getElem?_map,hc];rfl
   have RX:=HX1.out.ext E;have a0:=RX.cell (pts_wide' Lb) hr (j:=0) rfl;have a1:=RX.cell (pts_wide' Lb) hr (j:=1) rfl;have a2:=RX.cell (pts_wide' Lb) hr (j:=2) rfl;simp only[Nat.add_zero] at a0;have Hc:=h_ hc;have q0:(0:Int)≤q:=by omega
   have q1:(q:Int)<n:=by omega
   have q2:(q:Int)<c1:=by omega
   clear RX hr hc;have RB:=h_ (fun W=>rback_c x y zz d 64 hd (by decide) (small_mono (HNb.out _ (List.mem_of_getElem? Hc.out))) W);obtain⟨⟨u1,u2,u3⟩,hu⟩:=nm (backP d 64 ⟨x,y,zz⟩);rw[hu] at RB;have Hu:=h_ hu;have HB24:=h_ (HB23.out.ext E);clear hu
   go_upto_region 5 with(fail)
   refine wp_region_by (Fr5 wr g1 c1 n q d T2 x y zz u1 u2 u3 m.tab) (by kernel_rfl) (by kernel_rfl) (by kernel_rfl) (fun us=>⟨(Ext.refl _).drew,(nofun),(nofun),(nofun),(nofun),(nofun),(nofun),(nofun),(nofun),(nofun),(nofun)⟩) ⟨?_,?_,?_,?_,?_,?_,?_,?_,?_,?_,trivial⟩ ?_
   any_goals (intro L us wx K a ha hp hd hun hI hK;replace hp:=h_ hp;replace hd:=h_ hd;simp only[putAll,Act.put,zs,Nat.reduceAdd] at ha;subst ha;simp only[Act.put,zs] at hK)
   ·go_simp;exact hK _ _ {hI with f0:=fun _=>rfl}
   ·go_simp;exact hK _ _ {hI with f1:=fun _=>rfl}
   ·rw[hI.f0 (h_p hp 0),hI.f1 (h_p hp 1)] at hK ⊢;go_simp;exact hK _ _ {hI with f2:=fun _=>rfl}
   ·have a3:=hI.x.cell a0;have a4:=hI.x.cell a1;have a5:=hI.x.cell a2;rw[hI.f2 (h_p hp 2)] at hK ⊢;go_simp;exact hK _ _ {hI with f3:=fun _=>rfl}
   ·go_simp;exact hK _ _ {hI with f4:=fun _=>rfl}
   ·rw[hI.f3 (h_p hp 3),hI.f4 (h_p hp 4)] at hK ⊢;go_simp;go_at_call 104;refine(RB.out _).mono ?_;rintro e wn ⟨rfl,En⟩;go_simp;exact hK _ _ {hI with x:=hI.x.trans En,f5:=fun _=>rfl}
   ·rw[hI.f5 (h_p hp 5)] at hK ⊢;go_simp;exact hK _ _ {hI with f6:=fun _=>rfl}
   ·go_simp;exact hK _ _ {hI with f7:=fun _=>rfl}
   ·have bb:=(HB24.out.ext hI.x).cell;rw[hI.f7 (h_p hp 7)] at hK ⊢;go_simp;exact hK _ _ {hI with f8:=fun _=>rfl}
   ·rw[hI.f6 (h_p hp 6),hI.f8 (h_p hp 8)] at hK ⊢;go_simp;exact hK _ _ {hI with f9:=fun _=>rfl}
   intro L us W5 hall hI;have u9:=hI.f9 (hall 9 (by simp));have E5:=hI.x;simp only[putAll,Act.put,zs,Nat.reduceAdd,u9];clear hall hI a0 a1 a2;by_cases hl:m.tab≤u3
   ·have hdz:decide (u3<m.tab)=false:=by simpa using hl
    go_wp2_with fail;go_roundw
    case rel=>exact⟨q+1,by omega,by go_num,E.trans E5,h_ (all_to Hq.out Hc.out (by rw[Hu.out];exact hl))⟩
    case measure=>simp only[intOf];omega
   ·have hdz:decide (u3<m.tab)=true:=by simp;omega
    have Hf:=h_ (HFt.out _ (List.mem_of_getElem? Hc.out) (by rw[Hu.out];simp only;omega));go_wp2_with fail;go_ret;exact⟨by rw[Hf.out];rfl,HE3.out.trans (E.trans E5)⟩
  ·obtain rfl:n=q:=by omega
   have HTab:=h_ (all_mem Hq.out Hn.out);have HE4:=h_ (HE3.out.trans E);have HB14:=h_ (HB13.out.ext E);have HX4:=h_ (HX1.out.ext E);clear hqn hq Hq E HX1 HB13 HB23 HE3;go_wp2_with fail;go_loopw [17] (fun i w'=> ∃k:Nat,k≤zn∧i = .int .i64 k∧Ext wr w'∧Hid (∀t,t<k → ∀c∈Lb,∀p∈bcells m.ks (brkAt m.bs (memA z t)),wayC c p d=false)) (fun i _=>zn-(intOf i).toNat)
   case atStart=>exact⟨0,by omega,rfl,Ext.refl _,h_ (fun t ht=>by omega)⟩
   case round =>
    obtain⟨k,hk,rfl,E,Hk⟩:=hrel;have HE5:=h_ (HE4.out.trans E);have HB15:=h_ (HB14.out.ext E);have HX5:=h_ (HX4.out.ext E);by_cases hkn:k<zn
    ·have TT:=IntsZ.ext HT.out HE5.out;obtain⟨tb,t9,kv,rfl,hkv,-,-⟩:=TT.at_ (show k<(setI z).length by rw[setI_len,Hzn.out];exact hkn);obtain rfl:kv=(memA z k:Int):=by
      rw[setI_get (memA_get (show k<(setL z).length by rw[Hzn.out];exact hkn))] at hkv;exact(Option.some.inj hkv).symm
     have hjn:=HMe.out k hkn;obtain⟨j,hj⟩:=nm (memA z k);rw[hj] at hkv hjn;have Hj:=h_ hj;have Hkv:=h_ hkv;have HTc:=h_ (fun(W:World) (E':Ext wr W)=>show W.cell? ⟨tb,t9+k,none⟩=some (.int .i64 j) from by
      obtain⟨tb',t9',kv',h1,h2,-,h3⟩:=(IntsZ.ext HT.out (HE5.out.trans E')).at_ (show k<(setI z).length by rw[setI_len,Hzn.out];exact hkn);cases h1;rw[Hkv.out] at h2;cases h2
      exact h3)
     have hle:=TT.le;rw[setI_len,Hzn.out] at hle;have HD:=h_ (fun(W:World) (E':Ext wr W)=>HBc.out j hjn W (HE5.out.trans E'));have HP:=h_ (HPl.out j hjn);have HNj:=h_ (HNe.out j hjn);obtain⟨⟨kj,⟨y1,y2,y3⟩,tj,cj⟩,hbj⟩:=nm (brkAt m.bs j);rw[hbj] at HD HP HNj;have Hbj:=h_ hbj;obtain⟨Lj,hLj⟩:=nm (bcells m.ks ⟨kj,⟨y1,y2,y3⟩,tj,cj⟩);obtain⟨nj,hnj⟩:=nm Lj.length;have Hnj:=h_ hnj;have HLj:=h_ hLj;have hclj:clen m.ks m.bs j=nj:=by unfold clen;rw[hbj,hLj,hnj]
     rw[show clen (m.qs.map (·.1)) m.bs j=nj from hclj,show bcells (m.qs.map (·.1)) ⟨kj,⟨y1,y2,y3⟩,tj,cj⟩=Lj from hLj] at HP;rw[hLj] at HNj;unfold brkV at HP;have HFk:=h_ (fun(c p:Pt) hc (hp:p∈Lj) h=>HFw.out k hkn c p hc (by rw[Hj.out,Hbj.out,HLj.out];exact hp) h);have k0:(0:Int)≤k:=by omega
     have k1:(k:Int)<zn:=by omega
     have j0:(0:Int)≤j:=by omega
     have j1:(j:Int)<nb:=by omega
     clear hj hkv hbj hLj hnj hclj TT
     go_upto_region 10 with(fail)
     refine wp_region_by (Pl10 wr (.slice m.QA m.qs.length m.qc) (.agg #[.int .i64 kj,.int .i64 y1,.int .i64 y2,.int .i64 y3,.int .u8 tj,.int .u8 cj]) T1 (some ⟨g,off,none⟩) (some ⟨tb,t9,none⟩) nb m.cb zn tc k j ⟨g,off+j*6,none⟩ ⟨tb,t9+k,none⟩ nj Lj) (by kernel_rfl) (by kernel_rfl) (by kernel_rfl) (fun us=>⟨(Ext.refl _).drew,(nofun),(nofun),(nofun),(nofun),(nofun),(nofun),(nofun),(nofun),(nofun),(nofun),(nofun)⟩) ⟨?_,?_,?_,?_,?_,?_,?_,?_,?_,?_,?_,trivial⟩ ?_
     any_goals (intro L us wx K a ha hp hd hun hI hK;replace hp:=h_ hp;replace hd:=h_ hd;simp only[putAll,Act.put,zs,Nat.reduceAdd] at ha;subst ha;simp only[Act.put,zs] at hK)
     ·go_simp;exact hK _ _ {hI with f0:=fun _=>rfl}
     ·go_simp;exact hK _ _ {hI with f1:=fun _=>rfl}
     ·have bb:=(HB15.out.ext hI.x).cell;rw[hI.f1 (h_p hp 1)] at hK ⊢;go_simp;exact hK _ _ {hI with f2:=fun _=>rfl}
     ·go_simp;exact hK _ _ {hI with f3:=fun _=>rfl}
     ·go_simp;exact hK _ _ {hI with f4:=fun _=>rfl}
     ·rw[hI.f3 (h_p hp 3),hI.f4 (h_p hp 4)] at hK ⊢;go_simp;exact hK _ _ {hI with f5:=fun _=>rfl}
     ·have tt:=HTc.out wx hI.x;rw[hI.f5 (h_p hp 5)] at hK ⊢;go_simp;exact hK _ _ {hI with f6:=fun _=>rfl}
     ·rw[hI.f2 (h_p hp 2),hI.f6 (h_p hp 6)] at hK ⊢;go_simp;exact hK _ _ {hI with f7:=fun _=>rfl}
     ·obtain⟨d0,d1,d2,d3,d4,d5⟩:=HD.out wx hI.x;rw[hI.f7 (h_p hp 7)] at hK ⊢;go_simp;exact hK _ _ {hI with f8:=fun _=>rfl}
     ·have EX:=h_ (HE5.out.trans hI.x);rw[hI.f0 (h_p hp 0),hI.f8 (h_p hp 8)] at hK ⊢;go_simp;go_at_call 68;refine(HP.out _ EX.out).mono ?_;rintro e wn ⟨g,cp,hg,rfl,q1,q2,X,En⟩;go_simp;refine hK _ _ ?_;refine {hI with x:=hI.x.trans En,f9:= ?_,f10:= ?_}<;>(first|exact fun h=>(hI.f9 h).ext En|exact fun h=>own_ext (hI.f9 h) En|exact fun h=>(hI.f10 h).ext En|exact fun h=>own_ext (hI.f10 h) En|exact fun _=>rfl|skip)
      all_goals exact(by first|exact fun _=>⟨cp,rfl,q1,q2,X⟩)
     ·obtain⟨cu,ua,q1,q2,X⟩:=hI.f9 (h_p hp 9);obtain⟨g2,hg2⟩:=nm (bk (us 9));rw[hg2] at ua X;clear hg2;rw[ua] at hK ⊢;go_simp;exact hK _ _ {hI with f10:=fun _=>⟨cu,rfl,q1,q2,X⟩}
     intro L us V hall hI;obtain⟨c2,u10,q1,q2,X2⟩:=hI.f10 (hall 10 (by simp));obtain⟨g2,hg2⟩:=nm (bk (us 10));rw[hg2] at u10 X2;simp only[putAll,Act.put,zs,Nat.reduceAdd,u10];have EV:=E.trans hI.x;have HEV:=h_ (HE5.out.trans hI.x);have HXV:=h_ (HX5.out.ext hI.x);have HX2:=h_ X2;have hnl:nj≤maxLen:=Nat.le_trans q1 q2;unfold maxLen at hnl;clear hall hI u10 hg2 X2 HX5 HB15 HD HP HTc HE5;go_wp2_with fail;go_loopw [19] (fun i w'=> ∃q:Nat,q≤n∧i = .int .i64 q∧Ext V w'∧Hid (∀t,t<q → ∀c,Lb[t]? = some c → ∀p∈Lj,wayC c p d=false)) (fun i _=>n-(intOf i).toNat)
     case atStart=>exact⟨0,by omega,rfl,Ext.refl _,h_ (fun t ht=>by omega)⟩
     case round =>
      obtain⟨q,hq,rfl,E1,Hq⟩:=hrel;by_cases hqn:q<n
      ·have hq0:(0:Int)≤q:=by omega
       go_wp2_with fail;go_loopw [20] (fun i w'=> ∃u:Nat,u≤nj∧i = .int .i64 u∧Ext V w'∧Hid (∀t,t<u → ∀p,Lj[t]? = some p→wayC (ptAt Lb q) p d=false)) (fun i _=>nj-(intOf i).toNat)
       case atStart=>exact⟨0,by omega,rfl,E1,h_ (fun t ht=>by omega)⟩
       case round =>
        obtain⟨u,hu,rfl,E2,Hu⟩:=hrel;by_cases hun:u<nj
        ·obtain⟨⟨x,y,zz⟩,hc⟩: ∃c,Lb[q]? = some c:=⟨_,List.getElem?_eq_getElem (by rw[Hn.out];exact hqn)⟩;have hr:(Lb.map Pt.cs)[q]? = some (Pt.cs ⟨x,y,zz⟩):=by rw[List.getElem?_map,hc];rfl
         have RX:=HXV.out.ext E2;have a0:=RX.cell (pts_wide' Lb) hr (j:=0) rfl;have a1:=RX.cell (pts_wide' Lb) hr (j:=1) rfl;have a2:=RX.cell (pts_wide' Lb) hr (j:=2) rfl;simp only[Nat.add_zero] at a0;have Hc:=h_ hc;have q0:(0:Int)≤q:=by omega
         have q1:(q:Int)<n:=by omega
         have q2:(q:Int)<c1:=by omega
         clear RX hr hc;obtain⟨⟨px,py,pz⟩,hc⟩: ∃c,Lj[u]? = some c:=⟨_,List.getElem?_eq_getElem (by rw[Hnj.out];exact hun)⟩;have hr:(Lj.map Pt.cs)[u]? = some (Pt.cs ⟨px,py,pz⟩):=by rw[List.getElem?_map,hc];rfl
         have RX:=HX2.out.ext E2;have p0:=RX.cell (pts_wide' Lj) hr (j:=0) rfl;have p1:=RX.cell (pts_wide' Lj) hr (j:=1) rfl;have p2:=RX.cell (pts_wide' Lj) hr (j:=2) rfl;simp only[Nat.add_zero] at p0;have Hp:=h_ hc;have u0:(0:Int)≤u:=by omega
         have u1:(u:Int)<nj:=by omega
         have u2:(u:Int)<c2:=by omega
         clear RX hr hc;have RB:=h_ (fun W=>rbehind_c x y zz px py pz d hd (HNb.out _ (List.mem_of_getElem? Hc.out)) (HNj.out _ (List.mem_of_getElem? Hp.out)) W);obtain⟨v,hv⟩:=nm (behindZ ⟨x,y,zz⟩ ⟨px,py,pz⟩ d);rw[hv] at RB;obtain⟨r,hr⟩:=nm (inB 1 64 v);have Hr:=h_ (show wayC ⟨x,y,zz⟩ ⟨px,py,pz⟩ d=r by unfold wayC;rw[hv,hr]);have WC:=h_ (fun W=>within6_c v 1 64 W);rw[hr] at WC;clear hv hr
         go_upto_region 17 with(fail)
         refine w_g ?_
         repeat (go_big_quiet_step ((go_at_call 105;exact quiet_ext (RB.out _))))
         refine wpQuiet_nil ?_;intro W5 hW5;have E5:Ext wr W5:=by
          obtain⟨x,rfl⟩:=hW5;exact(Ext.refl _).grow x
         clear hW5;obtain⟨hcW5,hfW5,hzW5⟩:=ext_facts E5;clear a0 a1 a2 p0 p1 p2 hcW5 hfW5 hzW5;go_wp2_with fail;refine(WC.out _).mono ?_;rintro e W6 ⟨rfl,E6⟩;have E26:=(E2.trans E5).trans E6;clear E2 E5 E6;cases r
         ·go_wp2_with fail;go_roundw
          case rel=>exact⟨u+1,by omega,by go_num,E26,h_ (all_to Hu.out Hp.out (by rw[ptAt_eq Hc.out];exact Hr.out))⟩
          case measure=>simp only[intOf];omega
         ·have Hf:=h_ (HFk.out _ _ (List.mem_of_getElem? Hc.out) (List.mem_of_getElem? Hp.out) Hr.out);go_wp2_with fail;go_ret;exact⟨by rw[Hf.out];rfl,HEV.out.trans E26⟩
        ·obtain rfl:u=nj:=by omega
         have Hn2:=h_ (all_mem Hu.out Hnj.out);have Hq2:=h_ (show ∀t,t<q+1 → ∀c,Lb[t]? = some c → ∀p∈Lj,wayC c p d=false from
          have hg:=List.getElem?_eq_getElem (show q<Lb.length by rw[Hn.out];exact hqn)
          all_to Hq.out hg (by rw[←ptAt_eq hg];exact Hn2.out))
         go_wp2_with fail;go_roundw
         case rel=>exact⟨q+1,by omega,by go_num,E2,Hq2⟩
         case measure=>simp only[intOf];omega
      ·obtain rfl:n=q:=by omega
       have Hk2:=h_ (show ∀t,t<k+1 → ∀c∈Lb,∀p∈bcells m.ks (brkAt m.bs (memA z t)),wayC c p d=false from fun t ht=>by
        rcases Nat.lt_or_ge t k with h|h
        ·exact Hk.out t h
        ·obtain rfl:t=k:=by omega
         rw[Hj.out,Hbj.out,HLj.out]
         exact all_mem Hq.out Hn.out)
       go_wp2_with fail;go_roundw
       case rel=>exact⟨k+1,by omega,by go_num,EV.trans E1,Hk2⟩
       case measure=>simp only[intOf];omega
    ·obtain rfl:k=zn:=by omega
     have HFf:=h_ (fun r hr=>HFo.out r hr HTab.out Hk.out);have b1:=HB15.out.cell;clear Hk HTab;go_wp2_with fail;clear b1;refine(HFi.out _ HE5.out).mono ?_;rintro e W6 ⟨r,rfl,hr,E6⟩;have Hf:=h_ (HFf.out r hr);have HE6:=h_ (HE5.out.trans E6);clear hr E6;go_wp2_with fail;go_ret;exact⟨by rw[Hf.out];rfl,HE6.out⟩
end Go.Proofs.YtojolpbpjimfgaaGreatDoor
