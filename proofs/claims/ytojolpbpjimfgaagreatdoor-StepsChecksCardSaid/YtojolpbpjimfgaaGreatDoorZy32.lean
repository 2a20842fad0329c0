/- Texts of the proof: Caps. -/
import Derived.Test.YtojolpbpjimfgaaGreatDoorZy22
import Derived.Test.YtojolpbpjimfgaaGreatDoorZy24
import Derived.Test.YtojolpbpjimfgaaGreatDoorZy31
set_option maxHeartbeats 16000000
set_option maxRecDepth 100000
namespace Go.Proofs.YtojolpbpjimfgaaGreatDoor
open Go.RowKit
theorem look_ok{w:World}{M:Nat}{m:List (Pt×Int)}(h:MapOf encPt evI w M m)(x y z:Int) :
  (Instr.lookup 117 (.map (some M)) (.agg #[.int .i64 x,.int .i64 y,.int .i64 z]) true).run Tryz.prog w = .ok (.tuple #[.int .i64 ((getK m ⟨x,y,z⟩).getD 0),.bool (getK m ⟨x,y,z⟩).isSome]) w:=by
 have:=lookup_run ptKey Tryz.underlying117 (w:=w) (z:= .int .i64 0) (by kernel_rfl) h ⟨x,y,z⟩ true;rw[show Value.agg #[.int .i64 x,.int .i64 y,.int .i64 z]=encPt ⟨x,y,z⟩ from rfl,this];cases getK m ⟨x,y,z⟩ <;> rfl
def belB(v:Option Int)(i:Nat):Bool:=v.isSome&&decide (v.getD 0≠(i:Int))
theorem below_c(X M i:Nat)(a b c:Int)(xc:Array Value)(m:List (Pt×Int))(v:Option Int)(w:World)(hx:Blk w X 172 xc)(hxm:xc[3]? = some (.map (some M)))(hm:MapOf encPt evI w M m)(hv:getK m ⟨a,b,c + -1⟩=v)(hc: -1000000≤c∧c≤1000000) :
  Calls Tryz.prog 152 #[.pointer (some ⟨X,0,none⟩),.int .i64 i,.agg #[.int .i64 a,.int .i64 b,.int .i64 c]] w fun e w'=>e = .returned (.tuple #[.int .i64 (v.getD 0),.bool (belB v i)])∧Ext w w':=by
 obtain⟨W1,hW1,E1,B1,hz1⟩:=mk_ w #[.int .i64 a,.int .i64 b,.int .i64 c] 124;have b1:=B1.cell;have f1:=B1.frozen;obtain⟨V,hV⟩:=nm (W1.setCell ⟨w.heap.size,2,none⟩ (.int .i64 (c-1)));have BV:Blk V w.heap.size 124 #[.int .i64 a,.int .i64 b,.int .i64 (c-1)]:=hV▸B1.set_ 2 _;have EV:Ext w V:=hV▸E1.setCell (p:=⟨w.heap.size,2,none⟩) (Nat.le_refl _) _;have hcc:c + -1=c-1:=by omega
 rw[hcc] at hv;have lk:=h_ (fun x=>show(Instr.lookup 117 (.map (some M)) (.agg #[.int .i64 a,.int .i64 b,.int .i64 (c-1)]) true).run Tryz.prog (grow V x) = .ok (.tuple #[.int .i64 (v.getD 0),.bool v.isSome]) (grow V x) by
  have:=look_ok (hm.ext (EV.trans ((Ext.refl V).grow x))) a b (c-1)
  rwa [hv] at this)
 have c3:V.cell? ⟨X,3,none⟩=some (.map (some M)):=by rw[(hx.ext EV).cell,hxm]
 have bV:=BV.cell;have HE:=h_ EV;obtain⟨h1,h2⟩:=hc;clear hm hv hz1 E1 B1 BV EV hx hxm hcc;go_enter Tryz.func152,Tryz.ntmps152
 go_upto_region 2 with(fail)
 clear hW1 b1 f1;refine w_g ?_
 repeat (go_big_quiet_step ((rw[lk.out];exact⟨rfl,rfl⟩)))
 refine wpQuiet_nil ?_;intro W3 hW3;have E3:Ext V W3:=by
  obtain⟨x,rfl⟩:=hW3;exact(Ext.refl _).grow x
 clear hW3;obtain⟨hcW3,hfW3,hzW3⟩:=ext_facts E3;clear hcW3 hfW3 hzW3 bV c3 lk;cases v with
 | none =>
  simp only[Option.getD_none,Option.isSome_none];go_wp2_with fail;go_ret2;exact⟨rfl,HE.out.trans E3⟩
 | some k =>
  simp only[Option.getD_some,Option.isSome_some];obtain⟨r,hr⟩:=nm ((k != (i:Int)));have Hr:=h_ (show belB (some k) i=r by unfold belB;rw[←hr,Option.isSome_some,Option.getD_some,Bool.true_and];by_cases h:k=(i:Int) <;> simp[h]);go_wp2_with fail;go_ret2;exact⟨by rw[Hr.out];rfl,HE.out.trans E3⟩
def matN(n:Nat)(f:Nat→Nat→Int):Array Value:=((List.range n).map fun t=>Value.int .i64 (f (t / 40) (t % 40))).toArray
theorem matN_get(n:Nat)(f:Nat→Nat→Int){a b:Nat}(h:a*40+b<n)(hb:b<40):(matN n f)[a*40+b]? = some (.int .i64 (f a b)):=by
 have h1:(a*40+b) / 40=a:=by omega
 have h2:(a*40+b) % 40=b:=by omega
 unfold matN;rw[List.getElem?_toArray,List.getElem?_map,List.getElem?_range h,Option.map_some,h1,h2]
theorem matN_set(n:Nat)(f:Nat→Nat→Int){a b:Nat}(hb:b<40)(v:Int):(matN n f).setIfInBounds (a*40+b) (.int .i64 v)=matN n (upd f a b v):=by
 unfold matN;rw[List.setIfInBounds_toArray];congr 1;refine List.ext_getElem? fun t=> ?_;rw[List.getElem?_set,List.length_map,List.length_range];rcases Nat.lt_or_ge t n with ht|ht
 ·rw[List.getElem?_map,List.getElem?_map,List.getElem?_range ht];by_cases e:a*40+b=t
  ·subst e;have h1:(a*40+b) / 40=a:=by omega
   have h2:(a*40+b) % 40=b:=by omega
   rw[if_pos rfl,if_pos ht,Option.map_some,h1,h2];simp[upd]
  ·rw[if_neg e,Option.map_some,Option.map_some];unfold upd;rw[if_neg];omega
 ·rw[List.getElem?_eq_none (l:=(List.range n).map _) (by simpa using ht),List.getElem?_eq_none (l:=(List.range n).map _) (by simpa using ht)]
  split
  ·rw[if_neg (by omega)]
  ·rfl
def matA(f:Nat→Nat→Int):Array Value:=matN 1600 f
def isZ:Value→Bool
 | .int .i64 n=>n==0
 | _=>false
theorem isZ_eq{v:Value}(h:isZ v=true):v = .int .i64 0:=by
 unfold isZ at h
 split at h
 ·rw[beq_iff_eq] at h;rw[h]
 ·cases h
theorem zeroM_all:Tryz.zeroCells226.toList.all isZ=true:=by kernel_rfl
theorem zeroM_len:Tryz.zeroCells226.toList.length=1600:=by kernel_rfl
theorem zeroM:Tryz.zeroCells226=matA (fun _ _=>0):=by
 have h1:Tryz.zeroCells226.toList=List.replicate 1600 (.int .i64 0):=List.eq_replicate_iff.2 ⟨zeroM_len,fun v hv=>isZ_eq (List.all_eq_true.1 zeroM_all v hv)⟩;have h2:(matA fun _ _=>0).toList=List.replicate 1600 (.int .i64 0):=by
  unfold matA matN;refine List.eq_replicate_iff.2 ⟨by simp,fun v hv=> ?_⟩;simp only[List.mem_map] at hv;obtain⟨t,-,rfl⟩:=hv;rfl
 exact Array.ext' (h1.trans h2.symm)
theorem matA_get(f:Nat→Nat→Int){a b:Nat}(ha:a<40)(hb:b<40):(matA f)[a*40+b]? = some (.int .i64 (f a b)):=matN_get _ f (by omega) hb
theorem matA_set(f:Nat→Nat→Int){a b:Nat}(hb:b<40)(v:Int):(matA f).setIfInBounds (a*40+b) (.int .i64 v)=matA (upd f a b v):=matN_set _ f hb v
def MatB(w:World)(G:Nat)(f:Nat→Nat→Int):Prop:=Blk w G 226 (matA f)
theorem MatB.ext{w w':World}{G:Nat}{f:Nat→Nat→Int}(h:MatB w G f)(E:Ext w w'):MatB w' G f:=Blk.ext h E
theorem MatB.cell{w:World}{G:Nat}{f:Nat→Nat→Int}(h:MatB w G f){a b:Nat}(ha:a<40)(hb:b<40):w.cell? ⟨G,a*40+b,none⟩=some (.int .i64 (f a b)):=by
 rw[Blk.cell h,matA_get f ha hb]
theorem MatB.set_{w:World}{G:Nat}{f:Nat→Nat→Int}(h:MatB w G f){a b:Nat}(hb:b<40)(v:Int):MatB (w.setCell ⟨G,a*40+b,none⟩ (.int .i64 v)) G (upd f a b v):=by
 have:=Blk.set_ h (a*40+b) (.int .i64 v);rwa [matA_set f hb] at this
def stF(f:Nat→Nat→Int)(a b:Nat)(v:Int)(p q:Bool):Nat→Nat→Int:=fun x y=>if(p=true∧x=a∧y=b)∨(q=true∧x=b∧y=a) then v else f x y
theorem stF_none(f:Nat→Nat→Int)(a b:Nat)(v:Int):stF f a b v false false=f:=by
 funext x y;simp[stF]
theorem stF_fst(f:Nat→Nat→Int)(a b:Nat)(v:Int)(q:Bool):upd (stF f a b v false q) a b v=stF f a b v true q:=by
 funext x y;unfold upd stF;by_cases h:x=a∧y=b
 ·simp[h]
 ·rw[if_neg h];simp[h]
theorem stF_snd(f:Nat→Nat→Int)(a b:Nat)(v:Int)(p:Bool):upd (stF f a b v p false) b a v=stF f a b v p true:=by
 funext x y;unfold upd stF;by_cases h:x=b∧y=a
 ·simp[h]
 ·rw[if_neg h];simp[h]
theorem stF_both(f:Nat→Nat→Int)(a b:Nat)(v:Int):stF f a b v true true=upd (upd f a b v) b a v:=by
 rw[←stF_snd,←stF_fst,stF_none]
structure Cp5(W0:World)(G X a b:Nat)(st:Int)(f:Nat→Nat→Int)(jc:Array Value)(L:Nat→Bool)(us:Nat→Value)(w:World):Prop where
 x:Ext W0 w
 g0:Blk w X 242 jc
 g1:MatB w G (stF f a b (10*st) (L 16) (L 19))
 f0:L 0=true→us 0 = .pointer (some ⟨X,0,none⟩)
 f1:L 1=true→us 1 = .int .i64 a
 f2:L 2=true→us 2 = .pointer (some ⟨X,1,none⟩)
 f3:L 3=true→us 3 = .int .i64 b
 f4:L 4=true→us 4 = .pointer (some ⟨X,1,none⟩)
 f5:L 5=true→us 5 = .int .i64 b
 f6:L 6=true→us 6 = .pointer (some ⟨X,0,none⟩)
 f7:L 7=true→us 7 = .int .i64 a
 f8:L 8=true→us 8 = .pointer (some ⟨X,2,none⟩)
 f9:L 9=true→us 9 = .int .i64 st
 f10:L 10=true→us 10 = .int .i64 (10*st)
 f11:L 11=true→us 11 = .pointer (some ⟨X,2,none⟩)
 f12:L 12=true→us 12 = .int .i64 st
 f13:L 13=true→us 13 = .int .i64 (10*st)
 f14:L 14=true→us 14 = .pointer (some ⟨G,a*40,none⟩)
 f15:L 15=true→us 15 = .pointer (some ⟨G,a*40+b,none⟩)
 f17:L 17=true→us 17 = .pointer (some ⟨G,b*40,none⟩)
 f18:L 18=true→us 18 = .pointer (some ⟨G,b*40+a,none⟩)
def CapsPost(qs:List (Knd×KAt))(bs:List Brk)(w:World)(e:Ending)(w':World):Prop :=
 ∃G f,e = .returned (.pointer (some ⟨G,0,none⟩))∧w.heap.size≤G∧MatB w' G f∧(∀x,x<bs.length → ∀y,y<bs.length→f x y=capV (qs.map (·.1)) bs x y)∧Ext w w'
theorem capacities_c(X:Nat)(qs:List (Knd×KAt))(QA:Option Addr)(qc:Nat)(bs:List Brk)(B:Option Addr)(cb:Nat)(CA:Option Addr)(cc M:Nat)(JA:Option Addr)(jc:Nat)(gs cp:Nat→Nat)(mm:List (Pt×Int))(w:World)(h:BuiltAt w X qs QA qc bs B cb CA cc M JA jc gs cp mm)(hf:Fit (qs.map (·.1)) bs) :
  Calls Tryz.prog 127 #[.pointer (some ⟨X,0,none⟩)] w (CapsPost qs bs w):=by
 have hnb:=hf.n;have hpr:=pairs_of hf;have hz:=zeroM;obtain⟨G,hG⟩:=nm w.heap.size;obtain⟨W1,hW1⟩:=nm (w.alloc (.cells Tryz.zeroCells226 226));have E1:Ext w W1:=hW1▸(Ext.refl w).alloc _;have B1:MatB W1 G (fun _ _=>0):=by
  unfold MatB;rw[←zeroM,←hW1,←hG];exact Blk.new _ _ _
 have HG:=h_ hG;have HGw:=h_ (show w.heap.size≤G by omega);have HB:=h_ h;have bx:=(h.x.ext E1).cell;have HF:=h_ hf;have HF24:=h_ (fun(j:Nat) (hj:j<bs.length)=>show clen (qs.map (·.1)) bs j≤24 by
  obtain⟨n,tn,k,e1,e2,htn,hk,hv,hfi,hp,h1,h2⟩:=hf.b j hj;unfold clen;rw[h2,sortP_len,placeP_len]
  exact hfi.len)
 have HP:=h_ hpr;obtain⟨ks,hks⟩:=nm (qs.map (·.1));have Hks:=h_ hks;have HJs:=h_ h.j;have hJl:(jointL (qs.map (·.1)) bs).length≤1920:=Nat.le_trans (pj_len _ _) (linkL_len hf);have HBd:=h_ (fun(j:Jnt) (hj:j∈jointL (qs.map (·.1)) bs)=>show j.b<bs.length∧0≤j.strength∧j.strength≤9600 by
  have hjo:=jntsOk hf rfl;obtain⟨x,hx,hp⟩:=(hjo.k (jPr j)).2 (List.mem_map.2 ⟨j,hj,rfl⟩);have hb:=(mem_linkL.1 hx).b;have h1:=sumL_le (linkL (qs.map (·.1)) bs) (jPr j);have h2:=linkL_len hf;rw[(hjo.s j hj).1] at h1;unfold prOf jPr at hp;rw[Prod.mk.injEq] at hp
  omega)
 obtain⟨J,hJ⟩:=nm (jointL (qs.map (·.1)) bs);have HJ:=h_ hJ;rw[hJ] at bx HP HJs hJl HBd;obtain⟨nj,hnj⟩:=nm J.length;have Hnj:=h_ hnj;rw[hnj] at bx hJl;clear hG hf hpr hks hJ hnj h hz;go_enter Tryz.func127,Tryz.ntmps127;go_wp2_with fail;rw[HG.out];clear hW1 bx;go_loopw [17] (fun ii wr=> ∃q:Nat,q≤nj∧ii = .int .i64 q∧Ext w wr∧MatB wr G (capJ J q)) (fun ii _=>nj-(intOf ii).toNat)
 case atStart=>exact⟨0,by omega,rfl,E1,by rw[capJ_zero];exact B1⟩
 case round =>
  clear E1 B1;obtain⟨q,hq,rfl,Er,MB⟩:=hrel;by_cases hqt:q<nj
  ·obtain⟨jg,joff,hJA⟩: ∃g off,JA=some ⟨g,off,none⟩:=by
    obtain⟨g,off,hA,-,-⟩:=SliceIs.cells HJs.out (by rw[Hnj.out];omega);exact⟨g,off,hA⟩
   obtain⟨c0,c1,c2,c3,c4⟩:=jnts_cell (HJs.out.ext Er) (k:=q) (by rw[Hnj.out];exact hqt) hJA;have hget:=jntGet_get (l:=J) (i:=q) (by rw[Hnj.out];exact hqt);have hmem:=List.mem_of_getElem? hget;have hlt:=HP.out.lt _ hmem;have hbd:=HBd.out _ hmem;have hsu:=capJ_succ HP.out hget;subst hJA;obtain⟨⟨ja,jb,st,ax,sl⟩,hj⟩:=nm (jntGet J q);rw[hj] at c0 c1 c2 c3 c4 hlt hbd hsu;simp only at c0 c1 c2 c3 c4 hlt hbd hsu;have Hsu:=h_ hsu;obtain⟨hb1,hs0,hs1⟩:=hbd;obtain⟨W8,hW8,E8,B8,-⟩:=mk_ wr #[.int .i64 ja,.int .i64 jb,.int .i64 st,.int .u8 ax,.bool sl] 242;obtain⟨T,hT⟩:=nm wr.heap.size;rw[hT] at B8;have HT:=h_ hT;have E58:=Er.trans E8;have M8:=MB.ext E8;have hGT:T≠G:=by have:=Blk.lt MB;omega
   have HGT:=h_ hGT;have hGw:w.heap.size≤G:=by have:=HG.out;omega
   have HGw:=h_ hGw;have hjc:nj≤jc:=by have:=HJs.out.le;rw[Hnj.out] at this;exact this
   have q0:(0:Int)≤q:=by omega
   have q1:(q:Int)<nj:=by omega
   have q2:(q:Int)<jc:=by omega
   have a0:(0:Int)≤ja:=by omega
   have a1:(ja:Int)<40:=by omega
   have b0:(0:Int)≤jb:=by omega
   have b1:(jb:Int)<40:=by omega
   have a2:ja<40:=by omega
   have b2:jb<40:=by omega
   have Hw:=h_ (show IntKind.i64.wrap (10*st)=10*st from IntWalk.i64_in _ (by omega));clear hget hmem hlt hsu hj hT Er MB E8 hGT hGw
   go_upto_region 5 with(fail)
   rw[HT.out];clear hW8 c0 c1 c2 c3 c4;refine wp_region_byF (Cp5 w G T ja jb st (capJ J q) #[.int .i64 ja,.int .i64 jb,.int .i64 st,.int .u8 ax,.bool sl]) (by intro us;simp only[putAll,Act.put,zs,Nat.reduceAdd];rfl) (by kernel_rfl) (by kernel_rfl) (by kernel_rfl) ⟨E58.drew,B8.drew,(by rw[stF_none];exact M8.ext (Ext.refl _).drew),(nofun),(nofun),(nofun),(nofun),(nofun),(nofun),(nofun),(nofun),(nofun),(nofun),(nofun),(nofun),(nofun),(nofun),(nofun),(nofun),(nofun),(nofun)⟩ ⟨?_,?_,?_,?_,?_,?_,?_,?_,?_,?_,?_,?_,?_,?_,?_,?_,?_,?_,?_,?_,trivial⟩ ?_
   all_goals clear E58 B8 M8
   any_goals (intro L us wx K a ha hp hd hun hI hK;replace hp:=h_ hp;replace hd:=h_ hd;dsimp only at ha;subst ha;simp only[Act.put,zs] at hK)
   ·go_simp;exact hK _ _ {hI with f0:=fun _=>rfl}
   ·have bb:=hI.g0.cell;rw[hI.f0 (h_p hp 0)] at hK ⊢;go_simp;exact hK _ _ {hI with f1:=fun _=>rfl}
   ·go_simp;exact hK _ _ {hI with f2:=fun _=>rfl}
   ·have bb:=hI.g0.cell;rw[hI.f2 (h_p hp 2)] at hK ⊢;go_simp;exact hK _ _ {hI with f3:=fun _=>rfl}
   ·go_simp;exact hK _ _ {hI with f4:=fun _=>rfl}
   ·have bb:=hI.g0.cell;rw[hI.f4 (h_p hp 4)] at hK ⊢;go_simp;exact hK _ _ {hI with f5:=fun _=>rfl}
   ·go_simp;exact hK _ _ {hI with f6:=fun _=>rfl}
   ·have bb:=hI.g0.cell;rw[hI.f6 (h_p hp 6)] at hK ⊢;go_simp;exact hK _ _ {hI with f7:=fun _=>rfl}
   ·go_simp;exact hK _ _ {hI with f8:=fun _=>rfl}
   ·have bb:=hI.g0.cell;rw[hI.f8 (h_p hp 8)] at hK ⊢;go_simp;exact hK _ _ {hI with f9:=fun _=>rfl}
   ·rw[hI.f9 (h_p hp 9)] at hK ⊢;go_simp;exact hK _ _ {hI with f10:=fun _=>congrArg (Value.int .i64) Hw.out}
   ·go_simp;exact hK _ _ {hI with f11:=fun _=>rfl}
   ·have bb:=hI.g0.cell;rw[hI.f11 (h_p hp 11)] at hK ⊢;go_simp;exact hK _ _ {hI with f12:=fun _=>rfl}
   ·rw[hI.f12 (h_p hp 12)] at hK ⊢;go_simp;exact hK _ _ {hI with f13:=fun _=>congrArg (Value.int .i64) Hw.out}
   ·rw[hI.f1 (h_p hp 1)] at hK ⊢;go_simp;exact hK _ _ {hI with f14:=fun _=>rfl}
   ·rw[hI.f14 (h_p hp 14),hI.f3 (h_p hp 3)] at hK ⊢;go_simp;exact hK _ _ {hI with f15:=fun _=>rfl}
   ·have hM:=hI.g1;rw[hun] at hM;have cM:=MatB.cell hM a2 b2;have fM:=Blk.frozen hM;have hM2:=hM.set_ (a:=ja) b2 (10*st);rw[stF_fst] at hM2;obtain⟨V,hV⟩:=nm (wx.setCell ⟨G,ja*40+jb,none⟩ (.int .i64 (10*st)));rw[hV] at hM2;have EV:=hI.x.setCell (p:=⟨G,ja*40+jb,none⟩) HGw.out (.int .i64 (10*st));rw[hV] at EV;have GV:=hI.g0.far (p:=⟨G,ja*40+jb,none⟩) HGT.out (.int .i64 (10*st));rw[hV] at GV;clear hM;rw[hI.f15 (h_p hp 15),hI.f10 (h_p hp 10)] at hK ⊢;go_simp;exact hK undef _ ⟨EV,GV,hM2,hI.f0,hI.f1,hI.f2,hI.f3,hI.f4,hI.f5,hI.f6,hI.f7,hI.f8,hI.f9,hI.f10,hI.f11,hI.f12,hI.f13,hI.f14,hI.f15,hI.f17,hI.f18⟩
   ·rw[hI.f5 (h_p hp 5)] at hK ⊢;go_simp;exact hK _ _ {hI with f17:=fun _=>rfl}
   ·rw[hI.f17 (h_p hp 17),hI.f7 (h_p hp 7)] at hK ⊢;go_simp;exact hK _ _ {hI with f18:=fun _=>rfl}
   ·have hM:=hI.g1;rw[hun] at hM;have cM:=MatB.cell hM b2 a2;have fM:=Blk.frozen hM;have hM2:=hM.set_ (a:=jb) a2 (10*st);rw[stF_snd] at hM2;obtain⟨V,hV⟩:=nm (wx.setCell ⟨G,jb*40+ja,none⟩ (.int .i64 (10*st)));rw[hV] at hM2;have EV:=hI.x.setCell (p:=⟨G,jb*40+ja,none⟩) HGw.out (.int .i64 (10*st));rw[hV] at EV;have GV:=hI.g0.far (p:=⟨G,jb*40+ja,none⟩) HGT.out (.int .i64 (10*st));rw[hV] at GV;clear hM;rw[hI.f18 (h_p hp 18),hI.f13 (h_p hp 13)] at hK ⊢;go_simp;exact hK undef _ ⟨EV,GV,hM2,hI.f0,hI.f1,hI.f2,hI.f3,hI.f4,hI.f5,hI.f6,hI.f7,hI.f8,hI.f9,hI.f10,hI.f11,hI.f12,hI.f13,hI.f14,hI.f15,hI.f17,hI.f18⟩
   intro L us wx hall hI;have hM:=hI.g1;rw[hall 16 (by simp),hall 19 (by simp),stF_both,←Hsu.out] at hM;have EX:=hI.x;clear hall hI;go_wp2_with fail;go_roundw
   case rel=>exact⟨q+1,by omega,by go_num,EX,hM⟩
   case measure=>simp only[intOf];omega
  ·obtain rfl:q=nj:=by omega
   have hM0: ∃f,MatB wr G f ∧ ∀x,x<bs.length → ∀y,y<bs.length→f x y=capI ks bs J 0 0 x y:=⟨_,MB,fun x _ y _=>by rw[capI_zero,Hnj.out]⟩;have bx:=(HB.out.x.ext Er).cell;rw[HJ.out,Hnj.out] at bx;go_wp2_with fail;clear bx MB;go_loopw [45] (fun ii wr=> ∃i:Nat,i≤bs.length∧ii = .int .i64 i∧Ext w wr ∧ ∃f,MatB wr G f ∧ ∀x,x<bs.length → ∀y,y<bs.length→f x y=capI ks bs J i 0 x y) (fun ii _=>bs.length-(intOf ii).toNat)
   case atStart=>exact⟨0,by omega,rfl,Er,hM0⟩
   case round =>
    clear Er hM0;obtain⟨i,hi,rfl,Er,hM0⟩:=hrel;by_cases hlt:i<bs.length
    ·obtain⟨rg,roff,hCA⟩:=HB.out.addr (by omega);have c0:=(HB.out.ext Er).row hlt hCA;subst hCA;have hcp:=(HB.out.r i hlt).1;have Hcc:=h_ (show(bcells ks (brkAt bs i)).length=clen (qs.map (·.1)) bs i by rw[←Hks.out];rfl);have Hn24:=h_ (show clen (qs.map (·.1)) bs i≤24 from HF24.out i hlt);obtain⟨n,hn⟩:=nm (clen (qs.map (·.1)) bs i);have Hn:=h_ hn;have n24:n≤24:=by have:=Hn24.out;omega
     rw[hn] at c0 hcp;obtain⟨ci,hci⟩:=nm (cp i);rw[hci] at c0 hcp;obtain⟨gi,hgi⟩:=nm (gs i);have Hgi:=h_ hgi;rw[hgi] at c0;have i0:(0:Int)≤i:=by omega
     have i1:(i:Int)<bs.length:=by omega
     clear hn hci hgi;go_wp2_with fail;clear c0;go_loopw [52] (fun ii wr=> ∃q:Nat,q≤n∧ii = .int .i64 q∧Ext w wr ∧ ∃f,MatB wr G f ∧ ∀x,x<bs.length → ∀y,y<bs.length→f x y=capI ks bs J i q x y) (fun ii _=>n-(intOf ii).toNat)
     case atStart=>exact⟨0,by omega,rfl,Er,hM0⟩
     case round =>
      clear Er hM0;obtain⟨q,hq,rfl,Er,hM0⟩:=hrel;by_cases hqt:q<n
      ·obtain⟨c0,c1,c2⟩:=(HB.out.ext Er).r.cell hlt (q:=q) (by rw[Hn.out];exact hqt);obtain⟨⟨x,y,z⟩,hc⟩: ∃c,(bcells ks (brkAt bs i))[q]? = some c:=⟨_,List.getElem?_eq_getElem (by rw[Hcc.out,Hn.out];exact hqt)⟩;rw[Hks.out,ptAt_eq hc,Hgi.out] at c0 c1 c2;simp only at c0 c1 c2;have hcm:=List.mem_of_getElem? hc;have hok:=cell_ok (Hks.out▸HF.out) hlt hcm;have hbl:=below_of (Hks.out▸HF.out) (Hks.out▸HB.out.k) (addP ⟨x,y,z⟩ ⟨0,0,-1⟩);rw[addP_dn] at hbl;obtain⟨W8,hW8,E8,B8,-⟩:=mk_ wr #[.int .i64 x,.int .i64 y,.int .i64 z] 124;have b8:=B8.cell;have E08:=Er.trans E8;have BE:=below_c X M i x y z _ mm _ W8 (HB.out.x.ext E08) rfl (HB.out.m.ext E08) rfl hok.2.2;have q0:(0:Int)≤q:=by omega
       have q1:(q:Int)<n:=by omega
       have q2:(q:Int)<ci:=by omega
       have Hc:=h_ hc;obtain⟨f,hM,hfc⟩:=hM0;have hM8:=hM.ext E8;obtain⟨v,hv⟩:=nm (getK mm ⟨x,y,z + -1⟩);rw[hv] at BE hbl;have hcase:(belB v i=false ∧ ∀a,a<bs.length → ∀b,b<bs.length→capI ks bs J i (q+1) a b=capI ks bs J i q a b)∨(∃k,k<bs.length∧v=some (k:Int)∧belB v i=true ∧ ∀a,a<bs.length → ∀b,b<bs.length→capI ks bs J i (q+1) a b=if a=i∧b=k then 1073741824 else capI ks bs J i q a b):=by
        rcases hbl with⟨rfl,hno⟩|⟨k,hk,rfl,hpk,huni⟩
        ·exact Or.inl ⟨rfl,fun a ha b hb=>capI_keep Hc.out fun _=>by
          rw[addP_dn,←Bool.not_eq_true,hasP_iff]
          exact hno b hb⟩
        ·by_cases hki:k=i
         ·subst hki;refine Or.inl ⟨by simp[belB],fun a ha b hb=>capI_keep Hc.out fun hne=> ?_⟩;rw[addP_dn,←Bool.not_eq_true,hasP_iff];exact fun hm=>hne (huni b hb hm)
         ·refine Or.inr ⟨k,hk,rfl,by simp[belB];omega,fun a ha b hb=>capI_put Hc.out hki ?_⟩;rw[addP_dn,Bool.eq_iff_iff,hasP_iff,decide_eq_true_eq];exact⟨huni b hb,fun e=>e▸hpk⟩
       clear hcm hok hc hM hv Er E8 hbl;have HE:=h_ E08;rcases hcase with⟨hb,hput⟩|⟨k,hk,rfl,hb,hput⟩
       ·rw[hb] at BE;have HM: ∃f',MatB W8 G f' ∧ ∀a,a<bs.length → ∀b,b<bs.length→f' a b=capI ks bs J i (q+1) a b:=⟨f,hM8,fun a ha b hb=>by rw[hfc a ha b hb,hput a ha b hb]⟩;have HM2:=h_ HM;clear hM8 hfc hput hb HM E08;go_wp2_with fail;clear hW8 b8 c0 c1 c2;refine BE.mono ?_;rintro e W9 ⟨rfl,E9⟩;have HM9: ∃f',MatB W9 G f' ∧ ∀a,a<bs.length → ∀b,b<bs.length→f' a b=capI ks bs J i (q+1) a b:=by
         obtain⟨f',h1,h2⟩:=HM2.out;exact⟨f',h1.ext E9,h2⟩
        have E99:=HE.out.trans E9;clear E9;go_wp2_with fail;go_roundw
        case rel=>exact⟨q+1,by omega,by go_num,E99,HM9⟩
        case measure=>simp only[intOf];omega
       ·rw[hb] at BE;simp only[Option.getD_some] at BE;have HM2:=h_ hM8;have Hput:=h_ hput;have Hfc:=h_ hfc;clear hM8 hfc hput hb E08;go_wp2_with fail;clear hW8 b8 c0 c1 c2;refine BE.mono ?_;rintro e W9 ⟨rfl,E9⟩;have hM9:=HM2.out.ext E9;have k0:(0:Int)≤k:=by omega
        have k1:(k:Int)<40:=by omega
        have k2:k<40:=by omega
        have i2:(i:Int)<40:=by omega
        have i3:i<40:=by omega
        have cM:=MatB.cell hM9 i3 k2;have fM:=Blk.frozen hM9;have hMV:=hM9.set_ (a:=i) k2 1073741824;have EV:=(HE.out.trans E9).setCell (p:=⟨G,i*40+k,none⟩) HGw.out (.int .i64 1073741824);obtain⟨V,hV⟩:=nm (W9.setCell ⟨G,i*40+k,none⟩ (.int .i64 1073741824));rw[hV] at hMV EV;have HM9: ∃f',MatB V G f' ∧ ∀a,a<bs.length → ∀b,b<bs.length→f' a b=capI ks bs J i (q+1) a b:=⟨_,hMV,fun a ha b hb=>by
         rw[Hput.out a ha b hb,←Hfc.out a ha b hb]
         rfl⟩
        clear hM9 hMV E9;go_wp2_with fail;go_roundw
        case rel=>exact⟨q+1,by omega,by go_num,EV,HM9⟩
        case measure=>simp only[intOf];omega
      ·obtain rfl:q=n:=by omega
       have hM1: ∃f,MatB wr G f ∧ ∀x,x<bs.length → ∀y,y<bs.length→f x y=capI ks bs J (i+1) 0 x y:=by
        obtain⟨f,h1,h2⟩:=hM0;exact⟨f,h1,fun x hx y hy=>by rw[h2 x hx y hy,capI_next,Hcc.out,Hn.out]⟩
       clear hM0;go_wp2_with fail;go_roundw
       case rel=>exact⟨i+1,by omega,by go_num,Er,hM1⟩
       case measure=>simp only[intOf];omega
    ·obtain rfl:i=bs.length:=by omega
     obtain⟨f,h1,h2⟩:=hM0;have HM1:=h_ h1;have HM2:=h_ (show ∀x,x<bs.length → ∀y,y<bs.length→f x y=capV (qs.map (·.1)) bs x y from fun x hx y hy=>by
      rw[h2 x hx y hy,←HJ.out,←Hks.out]
      exact capI_all HF.out hx)
     clear h1 h2;go_wp2_with fail;go_ret;exact⟨G,f,rfl,by have:=HG.out;omega,HM1.out,HM2.out,Er⟩
end Go.Proofs.YtojolpbpjimfgaaGreatDoor
