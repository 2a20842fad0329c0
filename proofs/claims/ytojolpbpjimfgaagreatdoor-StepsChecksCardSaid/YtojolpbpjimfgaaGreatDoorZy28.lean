/- Texts of the proof: Along, LineMap, StartS, LinksP. -/
import Derived.Test.YtojolpbpjimfgaaGreatDoorZy9
import Derived.Test.YtojolpbpjimfgaaGreatDoorZy14
import Derived.Test.YtojolpbpjimfgaaGreatDoorZy15
import Derived.Test.YtojolpbpjimfgaaGreatDoorZy16
import Derived.Test.YtojolpbpjimfgaaGreatDoorZy21
import Derived.Test.YtojolpbpjimfgaaGreatDoorZy25
set_option maxHeartbeats 4000000
set_option maxRecDepth 100000
namespace Go.Proofs.YtojolpbpjimfgaaGreatDoor
open Go.RowKit
structure Al(W0:World)(T2 T4 o1 o2 o3:Nat)(xi yi zi a b c v s:Int)(L:Nat→Bool)(us:Nat→Value)(w:World):Prop where
 x:Ext W0 w
 g1:Blk w T2 124 #[.int .i64 xi,.int .i64 yi,.int .i64 zi]
 g2:L 9=false→Blk w T4 152 #[.int .i64 0,.int .i64 0]
 g3:L 9=true→Blk w T4 152 #[.int .i64 a,.int .i64 b]
 f0:L 0=true→us 0 = .pointer (some ⟨T2,o1,none⟩)
 f1:L 1=true→us 1 = .int .i64 a
 f2:L 2=true→us 2 = .pointer (some ⟨T2,o2,none⟩)
 f3:L 3=true→us 3 = .int .i64 b
 f4:L 4=true→us 4 = .agg #[.int .i64 a,.int .i64 b]
 f5:L 5=true→us 5 = .int .i64 s
 f6:L 6=true→us 6 = .pointer (some ⟨T2,o3,none⟩)
 f7:L 7=true→us 7 = .int .i64 c
 f8:L 8=true→us 8 = .int .i64 v
 f10:L 10=true→us 10 = .int .i64 v
theorem along0(x y z d e s v:Int)(q1:d.tmod 2=e)(q2:d.tdiv 2=0)(q3:0≤e∧e≤1)(q4:1-e*2=s)(q5:s*x=v)(q6: -100000≤v∧v≤100000)(w:World) :
  Calls Tryz.prog 75 #[.agg #[.int .i64 x,.int .i64 y,.int .i64 z],.int .i64 d] w fun e w'=>e = .returned (.tuple #[.agg #[.int .i64 y,.int .i64 z],.int .i64 v])∧Ext w w':=by
 obtain⟨h1,h2⟩:=q3;obtain⟨W1,hW1,E1,B1,hz1⟩:=mk_ w #[.int .i64 x,.int .i64 y,.int .i64 z] 124;obtain⟨W2,hW2,E2,B2,hz2⟩:=mk_ W1 #[.int .i64 0,.int .i64 0] 152;rw[hz1] at B2;have HE:=h_ (E1.trans E2);have HB1:=h_ (B1.ext E2);have HB2:=h_ B2;have b1:=(B1.ext E2).cell;have b2:=B2.cell;have f2:=B2.frozen;have hne:w.heap.size≠w.heap.size+1:=by omega
 have Hw:=h_ (show IntKind.i64.wrap (s*x)=v by rw[q5];simp[IntKind.wrap,IntKind.bits,IntKind.signed];omega);clear hz2 B1 B2 E1 E2 q5 q6;go_enter Tryz.func75,Tryz.ntmps75
 go_upto_region 4 with(fail)
 clear hW1 hW2;refine wp_region_by (Al w w.heap.size (w.heap.size+1) 1 2 0 x y z y z x v s) (by kernel_rfl) (by kernel_rfl) (by kernel_rfl) (fun us=>⟨HE.out.drew,HB1.out.ext (Ext.refl W2).drew,(fun _=>HB2.out.ext (Ext.refl W2).drew),(nofun),(nofun),(nofun),(nofun),(nofun),(nofun),(nofun),(nofun),(nofun),(nofun),(nofun)⟩) ⟨?_,?_,?_,?_,?_,?_,?_,?_,?_,?_,?_,trivial⟩ ?_
 any_goals (intro L us wx K a ha hp hd hun hI hK;replace hp:=h_ hp;replace hd:=h_ hd;simp only[putAll,Act.put,zs,Nat.reduceAdd] at ha;subst ha;simp only[Act.put,zs] at hK)
 ·go_simp;exact hK _ _ {hI with f0:=fun _=>rfl}
 ·have bb:=hI.g1.cell;rw[hI.f0 (h_p hp 0)] at hK ⊢;go_simp;exact hK _ _ {hI with f1:=fun _=>rfl}
 ·go_simp;exact hK _ _ {hI with f2:=fun _=>rfl}
 ·have bb:=hI.g1.cell;rw[hI.f2 (h_p hp 2)] at hK ⊢;go_simp;exact hK _ _ {hI with f3:=fun _=>rfl}
 ·rw[hI.f1 (h_p hp 1),hI.f3 (h_p hp 3)] at hK ⊢;go_simp;exact hK _ _ {hI with f4:=fun _=>rfl}
 ·go_simp;exact hK _ _ {hI with f5:=fun _=>rfl}
 ·go_simp;exact hK _ _ {hI with f6:=fun _=>rfl}
 ·have bb:=hI.g1.cell;rw[hI.f6 (h_p hp 6)] at hK ⊢;go_simp;exact hK _ _ {hI with f7:=fun _=>rfl}
 ·rw[hI.f5 (h_p hp 5),hI.f7 (h_p hp 7)] at hK ⊢;go_simp;refine hK _ _ ?_;refine {hI with f8:= ?_}<;>(first|exact fun _=>rfl|skip);exact fun _=>congrArg (Value.int .i64) Hw.out
 ·have u4:=hI.f4 (h_p hp 4);have B4:=hI.g2 hun;have bb:=B4.cell;have fb:=B4.frozen;have hs:w.heap.size≤w.heap.size+1:=by omega
  rw[u4] at hK ⊢;clear u4;go_simp;exact hK undef _ ⟨(hI.x.setCell (p:=⟨w.heap.size+1,0,none⟩) hs _).setCell (p:=⟨w.heap.size+1,1,none⟩) hs _,(hI.g1.far (p:=⟨w.heap.size+1,0,none⟩) hne _).far (p:=⟨w.heap.size+1,1,none⟩) hne _,(fun h=>nomatch (show true=false from h)),(fun _=>(B4.set_ 0 _).set_ 1 _),hI.f0,hI.f1,hI.f2,hI.f3,hI.f4,hI.f5,hI.f6,hI.f7,hI.f8,hI.f10⟩
 ·rw[hI.f8 (h_p hp 8)] at hK ⊢;go_simp;exact hK _ _ {hI with f10:=fun _=>rfl}
 intro L us V hall hI;have B4:=hI.g3 (hall 9 (by simp));have u10:=hI.f10 (hall 10 (by simp));have HEV:=h_ hI.x;simp only[putAll,Act.put,zs,Nat.reduceAdd,u10];clear hall hI u10 b1 b2 f2;go_wp2_with fail;refine bodyPost_ret (v:= .tuple #[.agg #[.int .i64 y,.int .i64 z],.int .i64 v]) ?_ rfl ⟨rfl,HEV.out⟩;have c:=B4.cell;simp[results,Tryz.results75,go_sem,c]
theorem along1(x y z d e s v:Int)(q1:d.tmod 2=e)(q2:d.tdiv 2=1)(q3:0≤e∧e≤1)(q4:1-e*2=s)(q5:s*y=v)(q6: -100000≤v∧v≤100000)(w:World) :
  Calls Tryz.prog 75 #[.agg #[.int .i64 x,.int .i64 y,.int .i64 z],.int .i64 d] w fun e w'=>e = .returned (.tuple #[.agg #[.int .i64 x,.int .i64 z],.int .i64 v])∧Ext w w':=by
 obtain⟨h1,h2⟩:=q3;obtain⟨W1,hW1,E1,B1,hz1⟩:=mk_ w #[.int .i64 x,.int .i64 y,.int .i64 z] 124;obtain⟨W2,hW2,E2,B2,hz2⟩:=mk_ W1 #[.int .i64 0,.int .i64 0] 152;rw[hz1] at B2;have HE:=h_ (E1.trans E2);have HB1:=h_ (B1.ext E2);have HB2:=h_ B2;have b1:=(B1.ext E2).cell;have b2:=B2.cell;have f2:=B2.frozen;have hne:w.heap.size≠w.heap.size+1:=by omega
 have Hw:=h_ (show IntKind.i64.wrap (s*y)=v by rw[q5];simp[IntKind.wrap,IntKind.bits,IntKind.signed];omega);clear hz2 B1 B2 E1 E2 q5 q6;go_enter Tryz.func75,Tryz.ntmps75
 go_upto_region 6 with(fail)
 clear hW1 hW2;refine wp_region_by (Al w w.heap.size (w.heap.size+1) 0 2 1 x y z x z y v s) (by kernel_rfl) (by kernel_rfl) (by kernel_rfl) (fun us=>⟨HE.out.drew,HB1.out.ext (Ext.refl W2).drew,(fun _=>HB2.out.ext (Ext.refl W2).drew),(nofun),(nofun),(nofun),(nofun),(nofun),(nofun),(nofun),(nofun),(nofun),(nofun),(nofun)⟩) ⟨?_,?_,?_,?_,?_,?_,?_,?_,?_,?_,?_,trivial⟩ ?_
 any_goals (intro L us wx K a ha hp hd hun hI hK;replace hp:=h_ hp;replace hd:=h_ hd;simp only[putAll,Act.put,zs,Nat.reduceAdd] at ha;subst ha;simp only[Act.put,zs] at hK)
 ·go_simp;exact hK _ _ {hI with f0:=fun _=>rfl}
 ·have bb:=hI.g1.cell;rw[hI.f0 (h_p hp 0)] at hK ⊢;go_simp;exact hK _ _ {hI with f1:=fun _=>rfl}
 ·go_simp;exact hK _ _ {hI with f2:=fun _=>rfl}
 ·have bb:=hI.g1.cell;rw[hI.f2 (h_p hp 2)] at hK ⊢;go_simp;exact hK _ _ {hI with f3:=fun _=>rfl}
 ·rw[hI.f1 (h_p hp 1),hI.f3 (h_p hp 3)] at hK ⊢;go_simp;exact hK _ _ {hI with f4:=fun _=>rfl}
 ·go_simp;exact hK _ _ {hI with f5:=fun _=>rfl}
 ·go_simp;exact hK _ _ {hI with f6:=fun _=>rfl}
 ·have bb:=hI.g1.cell;rw[hI.f6 (h_p hp 6)] at hK ⊢;go_simp;exact hK _ _ {hI with f7:=fun _=>rfl}
 ·rw[hI.f5 (h_p hp 5),hI.f7 (h_p hp 7)] at hK ⊢;go_simp;refine hK _ _ ?_;refine {hI with f8:= ?_}<;>(first|exact fun _=>rfl|skip);exact fun _=>congrArg (Value.int .i64) Hw.out
 ·have u4:=hI.f4 (h_p hp 4);have B4:=hI.g2 hun;have bb:=B4.cell;have fb:=B4.frozen;have hs:w.heap.size≤w.heap.size+1:=by omega
  rw[u4] at hK ⊢;clear u4;go_simp;exact hK undef _ ⟨(hI.x.setCell (p:=⟨w.heap.size+1,0,none⟩) hs _).setCell (p:=⟨w.heap.size+1,1,none⟩) hs _,(hI.g1.far (p:=⟨w.heap.size+1,0,none⟩) hne _).far (p:=⟨w.heap.size+1,1,none⟩) hne _,(fun h=>nomatch (show true=false from h)),(fun _=>(B4.set_ 0 _).set_ 1 _),hI.f0,hI.f1,hI.f2,hI.f3,hI.f4,hI.f5,hI.f6,hI.f7,hI.f8,hI.f10⟩
 ·rw[hI.f8 (h_p hp 8)] at hK ⊢;go_simp;exact hK _ _ {hI with f10:=fun _=>rfl}
 intro L us V hall hI;have B4:=hI.g3 (hall 9 (by simp));have u10:=hI.f10 (hall 10 (by simp));have HEV:=h_ hI.x;simp only[putAll,Act.put,zs,Nat.reduceAdd,u10];clear hall hI u10 b1 b2 f2;go_wp2_with fail;refine bodyPost_ret (v:= .tuple #[.agg #[.int .i64 x,.int .i64 z],.int .i64 v]) ?_ rfl ⟨rfl,HEV.out⟩;have c:=B4.cell;simp[results,Tryz.results75,go_sem,c]
theorem along2(x y z d e s v:Int)(q1:d.tmod 2=e)(q2:d.tdiv 2=2)(q3:0≤e∧e≤1)(q4:1-e*2=s)(q5:s*z=v)(q6: -100000≤v∧v≤100000)(w:World) :
  Calls Tryz.prog 75 #[.agg #[.int .i64 x,.int .i64 y,.int .i64 z],.int .i64 d] w fun e w'=>e = .returned (.tuple #[.agg #[.int .i64 x,.int .i64 y],.int .i64 v])∧Ext w w':=by
 obtain⟨h1,h2⟩:=q3;obtain⟨W1,hW1,E1,B1,hz1⟩:=mk_ w #[.int .i64 x,.int .i64 y,.int .i64 z] 124;obtain⟨W2,hW2,E2,B2,hz2⟩:=mk_ W1 #[.int .i64 0,.int .i64 0] 152;rw[hz1] at B2;have HE:=h_ (E1.trans E2);have HB1:=h_ (B1.ext E2);have HB2:=h_ B2;have b1:=(B1.ext E2).cell;have b2:=B2.cell;have f2:=B2.frozen;have hne:w.heap.size≠w.heap.size+1:=by omega
 have Hw:=h_ (show IntKind.i64.wrap (s*z)=v by rw[q5];simp[IntKind.wrap,IntKind.bits,IntKind.signed];omega);clear hz2 B1 B2 E1 E2 q5 q6;go_enter Tryz.func75,Tryz.ntmps75
 go_upto_region 7 with(fail)
 clear hW1 hW2;refine wp_region_by (Al w w.heap.size (w.heap.size+1) 0 1 2 x y z x y z v s) (by kernel_rfl) (by kernel_rfl) (by kernel_rfl) (fun us=>⟨HE.out.drew,HB1.out.ext (Ext.refl W2).drew,(fun _=>HB2.out.ext (Ext.refl W2).drew),(nofun),(nofun),(nofun),(nofun),(nofun),(nofun),(nofun),(nofun),(nofun),(nofun),(nofun)⟩) ⟨?_,?_,?_,?_,?_,?_,?_,?_,?_,?_,?_,trivial⟩ ?_
 any_goals (intro L us wx K a ha hp hd hun hI hK;replace hp:=h_ hp;replace hd:=h_ hd;simp only[putAll,Act.put,zs,Nat.reduceAdd] at ha;subst ha;simp only[Act.put,zs] at hK)
 ·go_simp;exact hK _ _ {hI with f0:=fun _=>rfl}
 ·have bb:=hI.g1.cell;rw[hI.f0 (h_p hp 0)] at hK ⊢;go_simp;exact hK _ _ {hI with f1:=fun _=>rfl}
 ·go_simp;exact hK _ _ {hI with f2:=fun _=>rfl}
 ·have bb:=hI.g1.cell;rw[hI.f2 (h_p hp 2)] at hK ⊢;go_simp;exact hK _ _ {hI with f3:=fun _=>rfl}
 ·rw[hI.f1 (h_p hp 1),hI.f3 (h_p hp 3)] at hK ⊢;go_simp;exact hK _ _ {hI with f4:=fun _=>rfl}
 ·go_simp;exact hK _ _ {hI with f5:=fun _=>rfl}
 ·go_simp;exact hK _ _ {hI with f6:=fun _=>rfl}
 ·have bb:=hI.g1.cell;rw[hI.f6 (h_p hp 6)] at hK ⊢;go_simp;exact hK _ _ {hI with f7:=fun _=>rfl}
 ·rw[hI.f5 (h_p hp 5),hI.f7 (h_p hp 7)] at hK ⊢;go_simp;refine hK _ _ ?_;refine {hI with f8:= ?_}<;>(first|exact fun _=>rfl|skip);exact fun _=>congrArg (Value.int .i64) Hw.out
 ·have u4:=hI.f4 (h_p hp 4);have B4:=hI.g2 hun;have bb:=B4.cell;have fb:=B4.frozen;have hs:w.heap.size≤w.heap.size+1:=by omega
  rw[u4] at hK ⊢;clear u4;go_simp;exact hK undef _ ⟨(hI.x.setCell (p:=⟨w.heap.size+1,0,none⟩) hs _).setCell (p:=⟨w.heap.size+1,1,none⟩) hs _,(hI.g1.far (p:=⟨w.heap.size+1,0,none⟩) hne _).far (p:=⟨w.heap.size+1,1,none⟩) hne _,(fun h=>nomatch (show true=false from h)),(fun _=>(B4.set_ 0 _).set_ 1 _),hI.f0,hI.f1,hI.f2,hI.f3,hI.f4,hI.f5,hI.f6,hI.f7,hI.f8,hI.f10⟩
 ·rw[hI.f8 (h_p hp 8)] at hK ⊢;go_simp;exact hK _ _ {hI with f10:=fun _=>rfl}
 intro L us V hall hI;have B4:=hI.g3 (hall 9 (by simp));have u10:=hI.f10 (hall 10 (by simp));have HEV:=h_ hI.x;simp only[putAll,Act.put,zs,Nat.reduceAdd,u10];clear hall hI u10 b1 b2 f2;go_wp2_with fail;refine bodyPost_ret (v:= .tuple #[.agg #[.int .i64 x,.int .i64 y],.int .i64 v]) ?_ rfl ⟨rfl,HEV.out⟩;have c:=B4.cell;simp[results,Tryz.results75,go_sem,c]
theorem along6_c(x y z:Int)(d:Nat)(hd:d<6)(hp:(-100000≤x∧x≤100000)∧(-100000≤y∧y≤100000)∧(-100000≤z∧z≤100000))(w:World) :
  Calls Tryz.prog 75 #[.agg #[.int .i64 x,.int .i64 y,.int .i64 z],.int .i64 d] w fun e w'=>e = .returned (.tuple #[.agg #[.int .i64 (lineP ⟨x,y,z⟩ d).1,.int .i64 (lineP ⟨x,y,z⟩ d).2],.int .i64 (farP ⟨x,y,z⟩ d)])∧Ext w w' :=
 step_cases (P:=fun d:Nat=>Calls Tryz.prog 75 #[.agg #[.int .i64 x,.int .i64 y,.int .i64 z],.int .i64 d] w fun e w'=>e = .returned (.tuple #[.agg #[.int .i64 (lineP ⟨x,y,z⟩ d).1,.int .i64 (lineP ⟨x,y,z⟩ d).2],.int .i64 (farP ⟨x,y,z⟩ d)])∧Ext w w') (along0 x y z 0 0 1 x rfl rfl (by decide) rfl (Int.one_mul x) hp.1 w) (along0 x y z 1 1 (-1) (-x) rfl rfl (by decide) rfl (by omega) (by omega) w) (along1 x y z 2 0 1 y rfl rfl (by decide) rfl (Int.one_mul y) hp.2.1 w) (along1 x y z 3 1 (-1) (-y) rfl rfl (by decide) rfl (by omega) (by omega) w) (along2 x y z 4 0 1 z rfl rfl (by decide) rfl (Int.one_mul z) hp.2.2 w) (along2 x y z 5 1 (-1) (-z) rfl rfl (by decide) rfl (by omega) (by omega) w) hd
theorem ln_equal(w:World)(a b c d:Int):(Op.equal 152 (.agg #[.int .i64 a,.int .i64 b]) (.agg #[.int .i64 c,.int .i64 d])).run Tryz.prog w = .ok (decide (a=c)&&decide (b=d)) w:=by
 have u3:=Tryz.underlying3;have hS:Tryz.prog.underlying 152=some (.struct (Tryz.prog.fieldsOf 152)):=by kernel_rfl
 have hp:Tryz.prog.stoodInHeld 152=false:=by kernel_rfl
 rw[Op.equal,Op.maxDepth,show(10000:Nat)=9999+1 from rfl,run_equalIn_agg w 9999 _ _ _ hS hp];simp only[Program.fieldsOf,Tryz.underlying152];go_simp;by_cases h1:a=c <;> by_cases h2:b=d <;> simp[h1,h2]
theorem lnKey:KeyEnc Tryz.prog 152 encPr where
 wide:=by kernel_rfl
 eq w x y:=by
  obtain⟨a,b⟩:=x;obtain⟨c,d⟩:=y;rw[encPr,encPr,ln_equal];simp
 check w em x:=by
  obtain⟨a,b⟩:=x;show(Instr.checkKey em 10000 152 (.agg #[.int .i64 a,.int .i64 b])).run Tryz.prog w = .ok () w
  kernel_rfl
 same x:=by
  obtain⟨a,b⟩:=x;simp[encPr,Instr.sameBits]
def evF(v:Nat×Int):Value:= .agg #[.int .i64 v.1,.int .i64 v.2]
def frB(v:Option (Nat×Int)):Int:=((v.getD (0,0)).1:Int)
def frA(v:Option (Nat×Int)):Int:=(v.getD (0,0)).2
theorem look_line{w:World}{M:Nat}{m:List ((Int×Int)×(Nat×Int))}(h:MapOf encPr evF w M m)(a b:Int) :
  (Instr.lookup 150 (.map (some M)) (.agg #[.int .i64 a,.int .i64 b]) true).run Tryz.prog w = .ok (.tuple #[.agg #[.int .i64 (frB (getK m (a,b))),.int .i64 (frA (getK m (a,b)))],.bool (getK m (a,b)).isSome]) w:=by
 have:=lookup_run lnKey Tryz.underlying150 (w:=w) (z:= .agg #[.int .i64 0,.int .i64 0]) (by kernel_rfl) h (a,b) true;rw[show Value.agg #[.int .i64 a,.int .i64 b]=encPr (a,b) from rfl,this];cases getK m (a,b) <;> rfl
section
variable {K V:Type} [DecidableEq K]
theorem keys_put(m:List (K×V))(x:K)(v:V):(putK m x v).map (·.1)=if x∈m.map (·.1) then m.map (·.1) else m.map (·.1) ++ [x]:=by
 induction m with
 | nil=>rfl
 | cons p m ih =>
  unfold putK;by_cases h:x=p.1
  ·rw[if_pos h,if_pos (by rw[List.map_cons,h];exact List.mem_cons_self),List.map_cons,List.map_cons,h]
  ·rw[if_neg h,List.map_cons,ih,List.map_cons];by_cases h2:x∈m.map (·.1)
   ·rw[if_pos h2,if_pos (List.mem_cons_of_mem _ h2)]
   ·rw[if_neg h2,if_neg (fun h3=>by rcases List.mem_cons.1 h3 with h3|h3;exact h h3;exact h2 h3)];rfl
theorem nodup_put{m:List (K×V)}(h:(m.map (·.1)).Nodup)(x:K)(v:V):((putK m x v).map (·.1)).Nodup:=by
 rw[keys_put];by_cases h2:x∈m.map (·.1)
 ·rw[if_pos h2];exact h
 ·rw[if_neg h2,List.nodup_append];refine⟨h,by simp,fun a ha b hb=> ?_⟩;rw[List.mem_singleton] at hb;rintro rfl;exact h2 (hb▸ha)
theorem getK_of_mem: ∀{m:List (K×V)},(m.map (·.1)).Nodup → ∀p∈m,getK m p.1=some p.2
 | [],_,p,hp=>by cases hp
 | q::m,h,p,hp=>by
  rw[List.map_cons,List.nodup_cons] at h;unfold getK;rcases List.mem_cons.1 hp with rfl|hp
  ·rw[if_pos rfl]
  ·rw[if_neg (fun e:p.1=q.1=>h.1 (List.mem_map.2 ⟨p,hp,e⟩))];exact getK_of_mem h.2 p hp
theorem key_of_getK: ∀{m:List (K×V)} {x:K} {v:V},getK m x=some v→x∈m.map (·.1)
 | [],x,v,h=>by cases h
 | q::m,x,v,h=>by
  unfold getK at h;rw[List.map_cons];by_cases e:x=q.1
  ·rw[e];exact List.mem_cons_self
  ·rw[if_neg e] at h;exact List.mem_cons_of_mem _ (key_of_getK h)
end
section
variable {P:Program} {K V:Type} {enc:K→Value} {ev:V→Value}
theorem next_kv{w w':World}{b r:Nat}{m:List (K×V)}{done left:List K}(h:RngOf enc ev w b r m done left){ty:TypeId}{k u:Value}
  (hr:(Instr.next (.pointer (some ⟨r,0,none⟩)) false ty).run P w = .ok (.tuple #[.bool true,k,u]) w'): ∃p∈m,k=enc p.1∧u=ev p.2:=by
 obtain⟨es,clock,since,seen,c0,hb,hm,hs1,hs2,hh,hc,hcl,hl,hp⟩:=h;rcases run_next_at (P:=P) w ty r b since c0 seen es clock hh hb hs1 hc with⟨h0,hrun⟩|⟨e,he,w1,hal,hrun⟩
 ·rw[hrun] at hr;simp at hr
 ·rw[hrun] at hr;simp only[Result.ok.injEq,Value.tuple.injEq,Array.mk.injEq,List.cons.injEq,and_true,true_and] at hr;obtain⟨⟨rfl,rfl⟩,-⟩:=hr;have h1:(e.key,e.val)∈m.map fun p=>(enc p.1,ev p.2):=by
   rw[←hm];exact List.mem_map.2 ⟨e,(mem_left he).1,rfl⟩
  obtain⟨p,hp1,hp2⟩:=List.mem_map.1 h1;rw[Prod.mk.injEq] at hp2;exact⟨p,hp1,hp2.1.symm,hp2.2.symm⟩
theorem wpList_nxtKV(hinj: ∀x y,enc x=enc y→x=y){w:World}{ops:Array Oper}{rest:List Oper}{o:Oper}{a:Act}{Q:Exit→Act→World→Prop}(hg:o.guard=none)(it:Operand)(hop:o.op=Op.next it false)(b r:Nat)(m:List (K×V))(done left:List K)
  (hit:a.eval it = .pointer (some ⟨r,0,none⟩)) (h:RngOf enc ev w b r m done left)
  (hDone:left = []→wpList P ops Q rest (a.put o.dst (.tuple #[.bool false])) w)
  (hMore: ∀(x:K) (v:V) (left':List K) (w':World),(x,v)∈m→RngOf enc ev w' b r m (done ++ [x]) left'→left'.length<left.length→w.grownBy w' (some r)→w'.heap.size=w.heap.size →
   (Instr.entry (.pointer (some ⟨r,0,none⟩))).run P w' = .ok (.tuple #[enc x,ev v]) w'→wpList P ops Q rest (a.put o.dst (.tuple #[.bool true,enc x,ev v])) w'):wpList P ops Q (o::rest) a w:=by
 refine wpList_plain hg fun K' hK'=> ?_;unfold Oper.wp;rcases next_run (P:=P) h o.type with⟨h0,hrun⟩|⟨x,u,left',w',hrun,h1,h2,h3,h4,h5⟩
 ·simp[execOp,hop,hit,hrun,Result.andThen];exact hK' _ _ (hDone h0)
 ·obtain⟨⟨y,v⟩,hp,hk,rfl⟩:=next_kv h hrun;obtain rfl:=hinj _ _ hk;simp[execOp,hop,hit,hrun,Result.andThen];exact hK' _ _ (hMore x v left' w' hp h1 h2 h3 h4 h5)
end
theorem RngOf.perm{K V:Type}{enc:K→Value}{ev:V→Value}{w:World}{b r:Nat}{m:List (K×V)}{done:List K}(h:RngOf enc ev w b r m done [])(x:K):x∈done↔x∈m.map (·.1):=by
 obtain⟨es,clock,since,seen,c0,-,-,-,-,-,-,-,-,hp⟩:=h;rw[List.append_nil] at hp;exact hp.mem_iff
theorem encPr_inj(x y:Int×Int)(h:encPr x=encPr y):x=y:=by
 obtain⟨a,b⟩:=x;obtain⟨c,d⟩:=y
 simpa [encPr] using h
def planA(Q B:Value)(tab:Int)(H C:Value)(M G n S:Nat):Array Value:= #[Q,B,.int .i64 tab,H,C,.map (some M),.slice (some ⟨G,0,none⟩) n n,.map (some S)]
structure StP where
 U:Nat
 T:Nat
 X:Nat
 M:Nat
 G:Nat
 S:Nat
 nb:Nat
 Q:Value
 B:Value
 H:Value
 tab:Int
structure StOk(w0:World)(P:StP):Prop where
 t:P.T<P.U
 x:P.X<P.U
 m:P.M<P.U
 g:P.G<P.U
 s:P.S<P.U
 ms:P.M≠P.S
 lx:w0.heap.size≤P.X
 lm:w0.heap.size≤P.M
 lg:w0.heap.size≤P.G
 lu:w0.heap.size≤P.U
 ls:w0.heap.size≤P.S
theorem blk_apart{w:World}{g g':Nat}{t t':TypeId}{cs cs':Array Value}(h:Blk w g t cs)(h':Blk w g' t' cs')(hne:t≠t'):g≠g':=fun e=>by
 subst e;exact hne (h.types h')
def KBl(ks:List Knd)(bs:List Brk)(w:World)(gs cp:Nat→Nat)(j:Nat):Prop:= ∀i,i<j→klen ks bs i≤cp i∧cp i≤maxLen∧RowX w (gs i) 137 ((bknobs ks (brkAt bs i)).map Knb.cs)
section
variable {ks:List Knd} {bs:List Brk} {w w':World} {gs cp:Nat→Nat} {j:Nat}
theorem KBl.ext(h:KBl ks bs w gs cp j)(E:Ext w w'):KBl ks bs w' gs cp j:=fun i hi=>⟨(h i hi).1,(h i hi).2.1,(h i hi).2.2.ext E⟩
theorem KBl.mapTurned(h:KBl ks bs w gs cp j){M:Nat}{m:List (Pt×Int)}(hm:MapOf encPt evI w M m)(hg:w.grownBy w' (some M)):KBl ks bs w' gs cp j:=fun i hi=>⟨(h i hi).1,(h i hi).2.1,(h i hi).2.2.grown hg ((h i hi).2.2.map_ne hm)⟩
theorem KBl.own(h:KBl ks bs w gs cp j){b:Nat}{e:TypeId}{sz:Nat}{u:Value}{m:Nat}{xs:List Value}(own:w.ownsRow b e sz u m xs)(hg:w.grownBy w' u.ownBlock)(hne:137≠e):KBl ks bs w' gs cp j:=fun i hi=>⟨(h i hi).1,(h i hi).2.1,(h i hi).2.2.own own hg hne⟩
theorem KBl.far(h:KBl ks bs w gs cp j){X:Nat}{t':TypeId}{cs:Array Value}(hb:Blk w X t' cs)(hne:137≠t')(k:Nat)(u:Value):KBl ks bs (w.setCell ⟨X,k,none⟩ u) gs cp j:=fun i hi=>⟨(h i hi).1,(h i hi).2.1,by
 have hx:=(h i hi).2.2.ne_blk hb hne;obtain⟨ex,hr⟩:=(h i hi).2.2
 exact⟨ex,hr.far (p:=⟨X,k,none⟩) hx u⟩⟩
theorem KBl.next{gs' cp':Nat→Nat}(h:KBl ks bs w gs cp j)(e: ∀i,i<j→gs' i=gs i)(e2: ∀i,i<j→cp' i=cp i)(h1:klen ks bs j≤cp' j)(h2:cp' j≤maxLen)(hb:RowX w (gs' j) 137 ((bknobs ks (brkAt bs j)).map Knb.cs)):KBl ks bs w gs' cp' (j+1):=fun i hi=>by
 rcases Nat.lt_or_ge i j with h' | h'
 ·rw[e i h',e2 i h'];exact h i h'
 ·obtain rfl:i=j:=by omega
  exact⟨h1,h2,hb⟩
end
structure StI(ks:List Knd)(bs:List Brk)(P:StP)(w0:World)(j q a b:Nat)(J:Nat→Nat→Nat)(xv v kv:Value)(gs cp kg kc:Nat→Nat)(mm:List (Pt×Int))(w:World):Prop where
 e:Ext w0 w
 u:P.U≤w.heap.size
 t:Blk w P.T 25 #[P.B]
 x:Blk w P.X 121 (planA P.Q P.B P.tab P.H xv P.M P.G P.nb P.S)
 m:MapOf encPt evI w P.M mm
 k:BrkOf ks bs j q mm
 g:JnB w P.G P.nb J
 s:MapOf enc6 evB w P.S []
 o:w.ownsRow P.U 109 1 v a (clC gs (clen ks bs) cp a)
 c:CBl ks bs w gs cp a
 ko:w.ownsRow P.U 110 1 kv b (clC kg (klen ks bs) kc b)
 kc:KBl ks bs w kg kc b
section
variable {ks:List Knd} {bs:List Brk} {P:StP} {w0 w w':World} {j q a b:Nat} {J:Nat→Nat→Nat} {xv v kv:Value} {gs cp kg kc:Nat→Nat} {mm:List (Pt×Int)}
theorem grown_size{w w':World}{row:Option Nat}(h:w.grownBy w' row):w.heap.size≤w'.heap.size:=h.size
theorem StI.ext(h:StI ks bs P w0 j q a b J xv v kv gs cp kg kc mm w)(E:Ext w w'):StI ks bs P w0 j q a b J xv v kv gs cp kg kc mm w' :=
 ⟨h.e.trans E,Nat.le_trans h.u E.size,h.t.ext E,h.x.ext E,h.m.ext E,h.k,h.g.ext E,h.s.ext E,own_ext h.o E,h.c.ext E,own_ext h.ko E,h.kc.ext E⟩
theorem StI.appC(h:StI ks bs P w0 j q a b J xv v kv gs cp kg kc mm w)(ok:StOk w0 P){g7 cap7 g6 c6 n:Nat}(hg:w.grownBy w' v.ownBlock)(own:w'.ownsRow P.U 109 1 (.slice (some ⟨g7,0,none⟩) (a+1) cap7) (a+1) (clC gs (clen ks bs) cp a ++ [.slice (some ⟨g6,0,none⟩) n c6]))(hn:clen ks bs a=n)(h1:n≤c6)(h2:c6≤maxLen)(R:RowX w g6 124 ((bcells ks (brkAt bs a)).map Pt.cs)) :
  ∃gs' cp',gs' a=g6∧cp' a=c6∧StI ks bs P w0 j q (a+1) b J xv (.slice (some ⟨g7,0,none⟩) (a+1) cap7) kv gs' cp' kg kc mm w':=by
 have hge: ∀i,i<a→updF gs a g6 i=gs i:=fun i hi=>updF_ne _ _ (by omega);have hce: ∀i,i<a→updF cp a c6 i=cp i:=fun i hi=>updF_ne _ _ (by omega);refine⟨updF gs a g6,updF cp a c6,updF_at _ _ _,updF_at _ _ _,h.e.grown hg (fun k hk=>by have:=(h.o.lt k hk).1;have:=ok.lu;omega),Nat.le_trans h.u (grown_size hg),blkGrown h.t h.o hg (by decide),blkGrown h.x h.o hg (by decide),h.m.grown hg (ownMap h.o h.m),h.k,blkGrown h.g h.o hg (by decide),h.s.grown hg (ownMap h.o h.s),?_,?_,ownGrown h.ko hg (ownApart h.ko h.o (by decide)),h.kc.own h.o hg (by decide)⟩
 ·rw[clC_succ,clC_upd hge hce,updF_at,updF_at,hn];exact own
 ·exact(h.c.own h.o hg (by decide)).next hge hce (by rw[hn,updF_at];exact h1) (by rw[updF_at];exact h2) (by rw[updF_at];exact R.own h.o hg (by decide))
theorem StI.appK(h:StI ks bs P w0 j q a b J xv v kv gs cp kg kc mm w)(ok:StOk w0 P){g7 cap7 g6 c6 n:Nat}(hg:w.grownBy w' kv.ownBlock)(own:w'.ownsRow P.U 110 1 (.slice (some ⟨g7,0,none⟩) (b+1) cap7) (b+1) (clC kg (klen ks bs) kc b ++ [.slice (some ⟨g6,0,none⟩) n c6]))(hn:klen ks bs b=n)(h1:n≤c6)(h2:c6≤maxLen)(R:RowX w g6 137 ((bknobs ks (brkAt bs b)).map Knb.cs)) :
  ∃kg' kc',StI ks bs P w0 j q a (b+1) J xv v (.slice (some ⟨g7,0,none⟩) (b+1) cap7) gs cp kg' kc' mm w':=by
 have hge: ∀i,i<b→updF kg b g6 i=kg i:=fun i hi=>updF_ne _ _ (by omega);have hce: ∀i,i<b→updF kc b c6 i=kc i:=fun i hi=>updF_ne _ _ (by omega);refine⟨updF kg b g6,updF kc b c6,h.e.grown hg (fun k hk=>by have:=(h.ko.lt k hk).1;have:=ok.lu;omega),Nat.le_trans h.u (grown_size hg),blkGrown h.t h.ko hg (by decide),blkGrown h.x h.ko hg (by decide),h.m.grown hg (ownMap h.ko h.m),h.k,blkGrown h.g h.ko hg (by decide),h.s.grown hg (ownMap h.ko h.s),ownGrown h.o hg (ownApart h.o h.ko (by decide)),h.c.own h.ko hg (by decide),?_,?_⟩
 ·rw[clC_succ,clC_upd hge hce,updF_at,updF_at,hn];exact own
 ·exact(h.kc.own h.ko hg (by decide)).next hge hce (by rw[hn,updF_at];exact h1) (by rw[updF_at];exact h2) (by rw[updF_at];exact R.own h.ko hg (by decide))
theorem StI.store(h:StI ks bs P w0 j q a b J xv v kv gs cp kg kc mm w)(ok:StOk w0 P):StI ks bs P w0 j q a b J v v kv gs cp kg kc mm (w.setCell ⟨P.X,4,none⟩ v) :=
 ⟨h.e.setCell (p:=⟨P.X,4,none⟩) ok.lx _,by rw[World.size_setCell];exact h.u,h.t.far (p:=⟨P.X,4,none⟩) (blk_apart h.t h.x (by decide)) _,h.x.set_ 4 _,h.m.far2 (p:=⟨P.X,4,none⟩) (h.m.blk_ne h.x) _,h.k,
  Blk.far h.g (p:=⟨P.X,4,none⟩) (blk_apart h.g h.x (by decide)) _,h.s.far2 (p:=⟨P.X,4,none⟩) (h.s.blk_ne h.x) _,own_setCell h.o (p:=⟨P.X,4,none⟩) ok.x _,h.c.far h.x (by decide) 4 _,own_setCell h.ko (p:=⟨P.X,4,none⟩) ok.x _,h.kc.far h.x (by decide) 4 _⟩
theorem StI.put(h:StI ks bs P w0 j q a b J xv v kv gs cp kg kc mm w)(ok:StOk w0 P)(hf:Fit ks bs)(hj:j<bs.length){c:Pt}(hc:(bcells ks (brkAt bs j))[q]? = some c)(M':MapOf encPt evI w' P.M (putK mm c (j:Int)))(hg:w.grownBy w' (some P.M)):StI ks bs P w0 j (q+1) a b J xv v kv gs cp kg kc (putK mm c (j:Int)) w' :=
 ⟨h.e.grown hg (fun k hk=>by cases hk;exact ok.lm),Nat.le_trans h.u (grown_size hg),h.t.grown hg (fun e=>h.m.blk_ne h.t (Option.some.inj e).symm),h.x.grown hg (fun e=>h.m.blk_ne h.x (Option.some.inj e).symm),M',h.k.put hf hj hc,
  Blk.grown h.g hg (fun e=>h.m.blk_ne h.g (Option.some.inj e).symm),h.s.grown hg (fun e=>ok.ms (Option.some.inj e).symm),ownGrown h.o hg (Or.inr (ownMap h.o h.m).symm),h.c.mapTurned h.m hg,ownGrown h.ko hg (Or.inr (ownMap h.ko h.m).symm),h.kc.mapTurned h.m hg⟩
theorem StI.next(h:StI ks bs P w0 j (bcells ks (brkAt bs j)).length a b J xv v kv gs cp kg kc mm w):StI ks bs P w0 (j+1) 0 a b J xv v kv gs cp kg kc mm w:=⟨h.e,h.u,h.t,h.x,h.m,h.k.next,h.g,h.s,h.o,h.c,h.ko,h.kc⟩
theorem StI.krow{ka kd:Nat}(h:StI ks bs P w0 j q a b J xv v (.slice (some ⟨ka,0,none⟩) b kd) gs cp kg kc mm w){i:Nat}(hi:i<b):w.cell? ⟨ka,i,none⟩=some (.slice (some ⟨kg i,0,none⟩) (klen ks bs i) (kc i))∧b≤kd:=by
 obtain⟨A1,c1,e1,S1,-⟩:=own_slice0 (rows:=(clC kg (klen ks bs) kc b).map fun v=> [v]) (fun r hr=>by obtain⟨v,-,rfl⟩:=List.mem_map.1 hr;rfl) (show((clC kg (klen ks bs) kc b).map fun v=> [v]).length=b by simp[clC]) (by rw[flat_ones];exact h.ko);cases e1;obtain⟨g',off',hA',-,hc⟩:=SliceIs.cells S1 (by omega);cases hA';have hr:((clC kg (klen ks bs) kc b).map fun v=> [v])[i]? = some [.slice (some ⟨kg i,0,none⟩) (klen ks bs i) (kc i)]:=by rw[List.getElem?_map,clC_at hi];rfl
 have:=hc i _ hr 0 _ rfl;rw[Nat.mul_one,Nat.add_zero,Nat.zero_add] at this;exact⟨this,S1.le⟩
theorem StI.kdir(h:StI ks bs P w0 j q a b J xv v kv gs cp kg kc mm w)(hf:Fit ks bs){i r:Nat}(hi:i<b)(hib:i<bs.length)(hr:r<klen ks bs i):w.cell? ⟨kg i,r*5+3,none⟩=some (.int .u8 (dirN ks bs i r:Nat))∧dirN ks bs i r<6∧klen ks bs i≤kc i:=by
 obtain⟨h1,-,RA⟩:=h.kc i hi;obtain⟨d1,d2⟩:=hf.dirN hib hr;have hg:(bknobs ks (brkAt bs i))[r]? = some ((bknobs ks (brkAt bs i))[r]'hr):=List.getElem?_eq_getElem _;have hrr:((bknobs ks (brkAt bs i)).map Knb.cs)[r]? = some (knbAt (bknobs ks (brkAt bs i)) r).cs:=by rw[List.getElem?_map,hg,knbAt_eq hg];rfl
 have c:=RA.cell (knbs_wide _) (j:=3) hrr rfl;rw[d1] at c;exact⟨c,d2,h1⟩
theorem StI.setJ(h:StI ks bs P w0 j q a b J xv v kv gs cp kg kc mm w)(ok:StOk w0 P){x y z:Nat}(hy:y<6):StI ks bs P w0 j q a b (putJ J x y z) xv v kv gs cp kg kc mm (w.setCell ⟨P.G,x*6+y,none⟩ (.int .u64 (putN (J x y) z:Nat))) :=
 ⟨h.e.setCell (p:=⟨P.G,x*6+y,none⟩) ok.lg _,by rw[World.size_setCell];exact h.u,h.t.far (p:=⟨P.G,x*6+y,none⟩) (blk_apart h.t h.g (by decide)) _,h.x.far (p:=⟨P.G,x*6+y,none⟩) (blk_apart h.x h.g (by decide)) _,h.m.far2 (p:=⟨P.G,x*6+y,none⟩) (h.m.blk_ne h.g) _,h.k,
  by rw[←updN_put];exact h.g.set_ hy _,h.s.far2 (p:=⟨P.G,x*6+y,none⟩) (h.s.blk_ne h.g) _,own_setCell h.o (p:=⟨P.G,x*6+y,none⟩) ok.g _,h.c.far h.g (by decide) _ _,own_setCell h.ko (p:=⟨P.G,x*6+y,none⟩) ok.g _,h.kc.far h.g (by decide) _ _⟩
end
theorem jnA_val{n:Nat}{f:Nat→Nat→Nat}{k:Nat}{v:Value}(h:(jnA n f)[k]? = some v): ∃z:Int,v = .int .u64 z:=by
 unfold jnA at h;rw[List.getElem?_toArray,List.getElem?_map] at h;obtain⟨t,-,rfl⟩:=Option.map_eq_some_iff.1 h;exact⟨_,rfl⟩
theorem Links.farJ{w:World}{A:Option Addr}{cap:Nat}{l:List Lnk}(h:Links w A cap l){G n:Nat}{J:Nat→Nat→Nat}(hG:JnB w G n J)(k:Nat)(u:Value):Links (w.setCell ⟨G,k,none⟩ u) A cap l:=by
 have hat:=fun hl:0<l.length=>h.at_ hl;obtain⟨h1,h2,h3,h4,h5⟩:=h;refine⟨h1,h2,h3,h4,fun hn=> ?_⟩;obtain⟨b,off,hA,hb,hc⟩:=h5 hn;have hne:b≠G:=by
  rintro rfl;obtain⟨b',off',p,hA',-,-,c0,-⟩:=hat hn;rw[hA] at hA';cases hA';rw[Blk.cell hG] at c0;obtain⟨z,hz⟩:=jnA_val c0;cases hz
 refine⟨b,off,hA,by simpa [World.setCell] using hb,fun i r hr j u' hu=> ?_⟩;have:=hc i r hr j u' hu;unfold World.cell? at this ⊢;rw[Below.heap_setCell w ⟨G,k,none⟩ u b hne];exact this
def LnkRes(l:List Lnk)(r:Int)(w:World)(e:Ending)(w':World):Prop:= ∃A cap,e = .returned (.tuple #[.slice A l.length cap,.int .i64 r])∧Links w' A cap l∧Ext w w'
def linkR(ks:List Knd)(bs:List Brk):List Lnk:=if checkErr ks bs=0 then linkL ks bs else []
theorem lnkRes_nil{r:Int}{w w':World}(E:Ext w w'):LnkRes [] r w (.returned (.tuple #[.slice none 0 0,.int .i64 r])) w':=⟨none,0,rfl,links_nil _,E⟩
theorem linksA_c(qs:List (Knd×KAt))(QA:Option Addr)(qc:Nat)(bs:List Brk)(B:Option Addr)(cb:Nat)(w:World)(hk:Kinds w QA qc qs)(hb:Bricks w B cb bs) :
  Calls Tryz.prog 64 #[.slice QA qs.length qc,.agg #[.slice B bs.length cb]] w (LnkRes (linkR (qs.map (·.1)) bs) (checkErr (qs.map (·.1)) bs) w):=by
 obtain⟨W1,hW1,E1,B1,hz1⟩:=mk_ w #[.slice B bs.length cb] 25;have b1:=B1.cell;clear hz1;have CK:=checkM_c qs QA qc bs B cb W1 (hk.ext E1) (hb.ext E1);obtain⟨r,hr⟩:=nm (checkErr (qs.map (·.1)) bs);rw[hr] at CK ⊢;by_cases h0:r=0
 ·subst h0;have LK:=h_ (fun W (E:Ext w W)=>links_c qs QA qc bs B cb W (hk.ext E) (hb.ext E) hr);have Hl:=h_ (show linkR (qs.map (·.1)) bs=linkL (qs.map (·.1)) bs from if_pos hr);rw[Hl.out];obtain⟨L,hL⟩:=nm (linkL (qs.map (·.1)) bs);rw[hL] at LK ⊢;clear hr hL hk hb Hl;go_enter Tryz.func64,Tryz.ntmps64;go_wp2_with fail;refine CK.mono ?_;rintro e W2 ⟨rfl,E2⟩;have b2:=(B1.ext E2).cell;go_wp2_with fail;refine(LK.out _ (E1.trans E2)).mono ?_;rintro e W3 ⟨LA,lc,PA,pc,gs,rfl,hLL,-,-,E3⟩;have HLL:=h_ hLL;clear hLL;go_wp2_with fail;go_ret2;exact⟨LA,lc,rfl,HLL.out,(E1.trans E2).trans E3⟩
 ·have Hl:=h_ (show linkR (qs.map (·.1)) bs = [] from if_neg (by rw[hr];exact h0));rw[Hl.out];have h1:(r != 0)=true:=by simpa using h0
  clear hr h0 hk hb Hl;go_enter Tryz.func64,Tryz.ntmps64;go_wp2_with fail;refine CK.mono ?_;rintro e W2 ⟨rfl,E2⟩;go_wp2_with fail;go_ret2;exact lnkRes_nil (E1.trans E2)
end Go.Proofs.YtojolpbpjimfgaaGreatDoor
