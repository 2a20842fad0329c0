/- Texts of the proof: Along, LineMap. -/
import Derived.Test.YtojolpbpjimfgaaGreatDoorZz10
import Derived.Test.YtojolpbpjimfgaaGreatDoorZz17
import Derived.Test.YtojolpbpjimfgaaGreatDoorZz43
namespace Go.Proofs.YtojolpbpjimfgaaGreatDoor
open Go.RowKit
structure Al(W0:World)(T2 T4 o1 o2 o3:Nat)(xi yi zi a b c v s:Int)(L:Nat→Bool)(us:Nat→Value)(w:World):Prop where
 x:Ext W0 w
 g1:Blk w T2 124 #[.int .i64 xi,.int .i64 yi,.int .i64 zi]
 g2:L 9=false→Blk w T4 152 #[.int .i64 0,.int .i64 0]
 g3:L 9=true→Blk w T4 152 #[.int .i64 a,.int .i64 b]
 f0:L 0=true→us 0 = .pointer (some ⟨T2,o1,none⟩)
 f1:L 1=true→us 1 = .int .i64 a
 f2:L 2=true→us 2 = .pointer (some ⟨T2,o2,none⟩)
 f3:L 3=true→us 3 = .int .i64 b
 f4:L 4=true→us 4 = .agg #[.int .i64 a,.int .i64 b]
 f5:L 5=true→us 5 = .int .i64 s
 f6:L 6=true→us 6 = .pointer (some ⟨T2,o3,none⟩)
 f7:L 7=true→us 7 = .int .i64 c
 f8:L 8=true→us 8 = .int .i64 v
 f10:L 10=true→us 10 = .int .i64 v
set_option maxRecDepth 100000 in
set_option maxHeartbeats 4000000 in
theorem along0(x y z:Int)(hp:(-100000≤x∧x≤100000)∧(-100000≤y∧y≤100000)∧(-100000≤z∧z≤100000))(w:World) :
  Calls Tryz.prog 75 #[.agg #[.int .i64 x,.int .i64 y,.int .i64 z],.int .i64 0] w fun e w'=>e = .returned (.tuple #[.agg #[.int .i64 (lineP ⟨x,y,z⟩ 0).1,.int .i64 (lineP ⟨x,y,z⟩ 0).2],.int .i64 (farP ⟨x,y,z⟩ 0)])∧Ext w w':=by
 obtain⟨⟨h1,h2⟩,⟨h3,h4⟩,⟨h5,h6⟩⟩:=hp
 obtain⟨W1,hW1,E1,B1,hz1⟩:=mk_ w #[.int .i64 x,.int .i64 y,.int .i64 z] 124
 obtain⟨W2,hW2,E2,B2,hz2⟩:=mk_ W1 #[.int .i64 0,.int .i64 0] 152
 rw[hz1] at B2
 have HE:=h_ (E1.trans E2)
 have HB1:=h_ (B1.ext E2)
 have HB2:=h_ B2
 have b1:=(B1.ext E2).cell
 have b2:=B2.cell
 have f2:=B2.frozen
 have hne:w.heap.size≠w.heap.size+1:=by omega
 have Hw:=h_ (show IntKind.i64.wrap x=x by simp[IntKind.wrap,IntKind.bits,IntKind.signed];omega)
 clear hz2 B1 B2 E1 E2
 go_enter Tryz.func75,Tryz.ntmps75
 go_upto_region 4 with(fail)
 clear hW1 hW2
 refine wp_region_by (Al w w.heap.size (w.heap.size+1) 1 2 0 x y z y z x x 1) (by kernel_rfl) (by kernel_rfl) (by kernel_rfl) (fun us=>⟨HE.out.drew,HB1.out.ext (Ext.refl W2).drew,(fun _=>HB2.out.ext (Ext.refl W2).drew),(nofun),(nofun),(nofun),(nofun),(nofun),(nofun),(nofun),(nofun),(nofun),(nofun),(nofun)⟩) ⟨?_,?_,?_,?_,?_,?_,?_,?_,?_,?_,?_,trivial⟩ ?_
 any_goals (intro L us wx K a ha hp hd hun hI hK;replace hp:=h_ hp;replace hd:=h_ hd;simp only[putAll,Act.put,zs,Nat.reduceAdd] at ha;subst ha;simp only[Act.put,zs] at hK)
 ·go_simp
  exact hK _ _ {hI with f0:=fun _=>rfl}
 ·have bb:=hI.g1.cell
  rw[hI.f0 (h_p hp 0)] at hK ⊢
  go_simp
  exact hK _ _ {hI with f1:=fun _=>rfl}
 ·go_simp
  exact hK _ _ {hI with f2:=fun _=>rfl}
 ·have bb:=hI.g1.cell
  rw[hI.f2 (h_p hp 2)] at hK ⊢
  go_simp
  exact hK _ _ {hI with f3:=fun _=>rfl}
 ·rw[hI.f1 (h_p hp 1),hI.f3 (h_p hp 3)] at hK ⊢
  go_simp
  exact hK _ _ {hI with f4:=fun _=>rfl}
 ·go_simp
  exact hK _ _ {hI with f5:=fun _=>rfl}
 ·go_simp
  exact hK _ _ {hI with f6:=fun _=>rfl}
 ·have bb:=hI.g1.cell
  rw[hI.f6 (h_p hp 6)] at hK ⊢
  go_simp
  exact hK _ _ {hI with f7:=fun _=>rfl}
 ·rw[hI.f5 (h_p hp 5),hI.f7 (h_p hp 7)] at hK ⊢
  go_simp
  refine hK _ _ ?_
  refine {hI with f8:= ?_}<;>(first|exact fun _=>rfl|skip)
  exact fun _=>congrArg (Value.int .i64) Hw.out
 ·have u4:=hI.f4 (h_p hp 4)
  have B4:=hI.g2 hun
  have bb:=B4.cell
  have fb:=B4.frozen
  have hs:w.heap.size≤w.heap.size+1:=by omega
  rw[u4] at hK ⊢
  clear u4
  go_simp
  exact hK undef _ ⟨(hI.x.setCell (p:=⟨w.heap.size+1,0,none⟩) hs _).setCell (p:=⟨w.heap.size+1,1,none⟩) hs _,(hI.g1.far (p:=⟨w.heap.size+1,0,none⟩) hne _).far (p:=⟨w.heap.size+1,1,none⟩) hne _,(fun h=>nomatch (show true=false from h)),(fun _=>(B4.set_ 0 _).set_ 1 _),hI.f0,hI.f1,hI.f2,hI.f3,hI.f4,hI.f5,hI.f6,hI.f7,hI.f8,hI.f10⟩
 ·rw[hI.f8 (h_p hp 8)] at hK ⊢
  go_simp
  exact hK _ _ {hI with f10:=fun _=>rfl}
 intro L us V hall hI
 have B4:=hI.g3 (hall 9 (by simp))
 have u10:=hI.f10 (hall 10 (by simp))
 have HEV:=h_ hI.x
 simp only[putAll,Act.put,zs,Nat.reduceAdd,u10]
 clear hall hI u10 b1 b2 f2
 go_wp2_with fail
 refine bodyPost_ret (v:= .tuple #[.agg #[.int .i64 (lineP ⟨x,y,z⟩ 0).1,.int .i64 (lineP ⟨x,y,z⟩ 0).2],.int .i64 (farP ⟨x,y,z⟩ 0)]) ?_ rfl ⟨rfl,HEV.out⟩
 have c:=B4.cell
 simp[results,Tryz.results75,go_sem,c,lineP,farP]
set_option maxRecDepth 100000 in
set_option maxHeartbeats 4000000 in
theorem along1(x y z:Int)(hp:(-100000≤x∧x≤100000)∧(-100000≤y∧y≤100000)∧(-100000≤z∧z≤100000))(w:World) :
  Calls Tryz.prog 75 #[.agg #[.int .i64 x,.int .i64 y,.int .i64 z],.int .i64 1] w fun e w'=>e = .returned (.tuple #[.agg #[.int .i64 (lineP ⟨x,y,z⟩ 1).1,.int .i64 (lineP ⟨x,y,z⟩ 1).2],.int .i64 (farP ⟨x,y,z⟩ 1)])∧Ext w w':=by
 obtain⟨⟨h1,h2⟩,⟨h3,h4⟩,⟨h5,h6⟩⟩:=hp
 obtain⟨W1,hW1,E1,B1,hz1⟩:=mk_ w #[.int .i64 x,.int .i64 y,.int .i64 z] 124
 obtain⟨W2,hW2,E2,B2,hz2⟩:=mk_ W1 #[.int .i64 0,.int .i64 0] 152
 rw[hz1] at B2
 have HE:=h_ (E1.trans E2)
 have HB1:=h_ (B1.ext E2)
 have HB2:=h_ B2
 have b1:=(B1.ext E2).cell
 have b2:=B2.cell
 have f2:=B2.frozen
 have hne:w.heap.size≠w.heap.size+1:=by omega
 have Hw:=h_ (show IntKind.i64.wrap (-x)=(-x) by simp[IntKind.wrap,IntKind.bits,IntKind.signed];omega)
 clear hz2 B1 B2 E1 E2
 go_enter Tryz.func75,Tryz.ntmps75
 go_upto_region 4 with(fail)
 clear hW1 hW2
 refine wp_region_by (Al w w.heap.size (w.heap.size+1) 1 2 0 x y z y z x (-x) (-1)) (by kernel_rfl) (by kernel_rfl) (by kernel_rfl) (fun us=>⟨HE.out.drew,HB1.out.ext (Ext.refl W2).drew,(fun _=>HB2.out.ext (Ext.refl W2).drew),(nofun),(nofun),(nofun),(nofun),(nofun),(nofun),(nofun),(nofun),(nofun),(nofun),(nofun)⟩) ⟨?_,?_,?_,?_,?_,?_,?_,?_,?_,?_,?_,trivial⟩ ?_
 any_goals (intro L us wx K a ha hp hd hun hI hK;replace hp:=h_ hp;replace hd:=h_ hd;simp only[putAll,Act.put,zs,Nat.reduceAdd] at ha;subst ha;simp only[Act.put,zs] at hK)
 ·go_simp
  exact hK _ _ {hI with f0:=fun _=>rfl}
 ·have bb:=hI.g1.cell
  rw[hI.f0 (h_p hp 0)] at hK ⊢
  go_simp
  exact hK _ _ {hI with f1:=fun _=>rfl}
 ·go_simp
  exact hK _ _ {hI with f2:=fun _=>rfl}
 ·have bb:=hI.g1.cell
  rw[hI.f2 (h_p hp 2)] at hK ⊢
  go_simp
  exact hK _ _ {hI with f3:=fun _=>rfl}
 ·rw[hI.f1 (h_p hp 1),hI.f3 (h_p hp 3)] at hK ⊢
  go_simp
  exact hK _ _ {hI with f4:=fun _=>rfl}
 ·go_simp
  exact hK _ _ {hI with f5:=fun _=>rfl}
 ·go_simp
  exact hK _ _ {hI with f6:=fun _=>rfl}
 ·have bb:=hI.g1.cell
  rw[hI.f6 (h_p hp 6)] at hK ⊢
  go_simp
  exact hK _ _ {hI with f7:=fun _=>rfl}
 ·rw[hI.f5 (h_p hp 5),hI.f7 (h_p hp 7)] at hK ⊢
  go_simp
  refine hK _ _ ?_
  refine {hI with f8:= ?_}<;>(first|exact fun _=>rfl|skip)
  exact fun _=>congrArg (Value.int .i64) Hw.out
 ·have u4:=hI.f4 (h_p hp 4)
  have B4:=hI.g2 hun
  have bb:=B4.cell
  have fb:=B4.frozen
  have hs:w.heap.size≤w.heap.size+1:=by omega
  rw[u4] at hK ⊢
  clear u4
  go_simp
  exact hK undef _ ⟨(hI.x.setCell (p:=⟨w.heap.size+1,0,none⟩) hs _).setCell (p:=⟨w.heap.size+1,1,none⟩) hs _,(hI.g1.far (p:=⟨w.heap.size+1,0,none⟩) hne _).far (p:=⟨w.heap.size+1,1,none⟩) hne _,(fun h=>nomatch (show true=false from h)),(fun _=>(B4.set_ 0 _).set_ 1 _),hI.f0,hI.f1,hI.f2,hI.f3,hI.f4,hI.f5,hI.f6,hI.f7,hI.f8,hI.f10⟩
 ·rw[hI.f8 (h_p hp 8)] at hK ⊢
  go_simp
  exact hK _ _ {hI with f10:=fun _=>rfl}
 intro L us V hall hI
 have B4:=hI.g3 (hall 9 (by simp))
 have u10:=hI.f10 (hall 10 (by simp))
 have HEV:=h_ hI.x
 simp only[putAll,Act.put,zs,Nat.reduceAdd,u10]
 clear hall hI u10 b1 b2 f2
 go_wp2_with fail
 refine bodyPost_ret (v:= .tuple #[.agg #[.int .i64 (lineP ⟨x,y,z⟩ 1).1,.int .i64 (lineP ⟨x,y,z⟩ 1).2],.int .i64 (farP ⟨x,y,z⟩ 1)]) ?_ rfl ⟨rfl,HEV.out⟩
 have c:=B4.cell
 simp[results,Tryz.results75,go_sem,c,lineP,farP]
set_option maxRecDepth 100000 in
set_option maxHeartbeats 4000000 in
theorem along2(x y z:Int)(hp:(-100000≤x∧x≤100000)∧(-100000≤y∧y≤100000)∧(-100000≤z∧z≤100000))(w:World) :
  Calls Tryz.prog 75 #[.agg #[.int .i64 x,.int .i64 y,.int .i64 z],.int .i64 2] w fun e w'=>e = .returned (.tuple #[.agg #[.int .i64 (lineP ⟨x,y,z⟩ 2).1,.int .i64 (lineP ⟨x,y,z⟩ 2).2],.int .i64 (farP ⟨x,y,z⟩ 2)])∧Ext w w':=by
 obtain⟨⟨h1,h2⟩,⟨h3,h4⟩,⟨h5,h6⟩⟩:=hp
 obtain⟨W1,hW1,E1,B1,hz1⟩:=mk_ w #[.int .i64 x,.int .i64 y,.int .i64 z] 124
 obtain⟨W2,hW2,E2,B2,hz2⟩:=mk_ W1 #[.int .i64 0,.int .i64 0] 152
 rw[hz1] at B2
 have HE:=h_ (E1.trans E2)
 have HB1:=h_ (B1.ext E2)
 have HB2:=h_ B2
 have b1:=(B1.ext E2).cell
 have b2:=B2.cell
 have f2:=B2.frozen
 have hne:w.heap.size≠w.heap.size+1:=by omega
 have Hw:=h_ (show IntKind.i64.wrap y=y by simp[IntKind.wrap,IntKind.bits,IntKind.signed];omega)
 clear hz2 B1 B2 E1 E2
 go_enter Tryz.func75,Tryz.ntmps75
 go_upto_region 6 with(fail)
 clear hW1 hW2
 refine wp_region_by (Al w w.heap.size (w.heap.size+1) 0 2 1 x y z x z y y 1) (by kernel_rfl) (by kernel_rfl) (by kernel_rfl) (fun us=>⟨HE.out.drew,HB1.out.ext (Ext.refl W2).drew,(fun _=>HB2.out.ext (Ext.refl W2).drew),(nofun),(nofun),(nofun),(nofun),(nofun),(nofun),(nofun),(nofun),(nofun),(nofun),(nofun)⟩) ⟨?_,?_,?_,?_,?_,?_,?_,?_,?_,?_,?_,trivial⟩ ?_
 any_goals (intro L us wx K a ha hp hd hun hI hK;replace hp:=h_ hp;replace hd:=h_ hd;simp only[putAll,Act.put,zs,Nat.reduceAdd] at ha;subst ha;simp only[Act.put,zs] at hK)
 ·go_simp
  exact hK _ _ {hI with f0:=fun _=>rfl}
 ·have bb:=hI.g1.cell
  rw[hI.f0 (h_p hp 0)] at hK ⊢
  go_simp
  exact hK _ _ {hI with f1:=fun _=>rfl}
 ·go_simp
  exact hK _ _ {hI with f2:=fun _=>rfl}
 ·have bb:=hI.g1.cell
  rw[hI.f2 (h_p hp 2)] at hK ⊢
  go_simp
  exact hK _ _ {hI with f3:=fun _=>rfl}
 ·rw[hI.f1 (h_p hp 1),hI.f3 (h_p hp 3)] at hK ⊢
  go_simp
  exact hK _ _ {hI with f4:=fun _=>rfl}
 ·go_simp
  exact hK _ _ {hI with f5:=fun _=>rfl}
 ·go_simp
  exact hK _ _ {hI with f6:=fun _=>rfl}
 ·have bb:=hI.g1.cell
  rw[hI.f6 (h_p hp 6)] at hK ⊢
  go_simp
  exact hK _ _ {hI with f7:=fun _=>rfl}
 ·rw[hI.f5 (h_p hp 5),hI.f7 (h_p hp 7)] at hK ⊢
  go_simp
  refine hK _ _ ?_
  refine {hI with f8:= ?_}<;>(first|exact fun _=>rfl|skip)
  exact fun _=>congrArg (Value.int .i64) Hw.out
 ·have u4:=hI.f4 (h_p hp 4)
  have B4:=hI.g2 hun
  have bb:=B4.cell
  have fb:=B4.frozen
  have hs:w.heap.size≤w.heap.size+1:=by omega
  rw[u4] at hK ⊢
  clear u4
  go_simp
  exact hK undef _ ⟨(hI.x.setCell (p:=⟨w.heap.size+1,0,none⟩) hs _).setCell (p:=⟨w.heap.size+1,1,none⟩) hs _,(hI.g1.far (p:=⟨w.heap.size+1,0,none⟩) hne _).far (p:=⟨w.heap.size+1,1,none⟩) hne _,(fun h=>nomatch (show true=false from h)),(fun _=>(B4.set_ 0 _).set_ 1 _),hI.f0,hI.f1,hI.f2,hI.f3,hI.f4,hI.f5,hI.f6,hI.f7,hI.f8,hI.f10⟩
 ·rw[hI.f8 (h_p hp 8)] at hK ⊢
  go_simp
  exact hK _ _ {hI with f10:=fun _=>rfl}
 intro L us V hall hI
 have B4:=hI.g3 (hall 9 (by simp))
 have u10:=hI.f10 (hall 10 (by simp))
 have HEV:=h_ hI.x
 simp only[putAll,Act.put,zs,Nat.reduceAdd,u10]
 clear hall hI u10 b1 b2 f2
 go_wp2_with fail
 refine bodyPost_ret (v:= .tuple #[.agg #[.int .i64 (lineP ⟨x,y,z⟩ 2).1,.int .i64 (lineP ⟨x,y,z⟩ 2).2],.int .i64 (farP ⟨x,y,z⟩ 2)]) ?_ rfl ⟨rfl,HEV.out⟩
 have c:=B4.cell
 simp[results,Tryz.results75,go_sem,c,lineP,farP]
set_option maxRecDepth 100000 in
set_option maxHeartbeats 4000000 in
theorem along3(x y z:Int)(hp:(-100000≤x∧x≤100000)∧(-100000≤y∧y≤100000)∧(-100000≤z∧z≤100000))(w:World) :
  Calls Tryz.prog 75 #[.agg #[.int .i64 x,.int .i64 y,.int .i64 z],.int .i64 3] w fun e w'=>e = .returned (.tuple #[.agg #[.int .i64 (lineP ⟨x,y,z⟩ 3).1,.int .i64 (lineP ⟨x,y,z⟩ 3).2],.int .i64 (farP ⟨x,y,z⟩ 3)])∧Ext w w':=by
 obtain⟨⟨h1,h2⟩,⟨h3,h4⟩,⟨h5,h6⟩⟩:=hp
 obtain⟨W1,hW1,E1,B1,hz1⟩:=mk_ w #[.int .i64 x,.int .i64 y,.int .i64 z] 124
 obtain⟨W2,hW2,E2,B2,hz2⟩:=mk_ W1 #[.int .i64 0,.int .i64 0] 152
 rw[hz1] at B2
 have HE:=h_ (E1.trans E2)
 have HB1:=h_ (B1.ext E2)
 have HB2:=h_ B2
 have b1:=(B1.ext E2).cell
 have b2:=B2.cell
 have f2:=B2.frozen
 have hne:w.heap.size≠w.heap.size+1:=by omega
 have Hw:=h_ (show IntKind.i64.wrap (-y)=(-y) by simp[IntKind.wrap,IntKind.bits,IntKind.signed];omega)
 clear hz2 B1 B2 E1 E2
 go_enter Tryz.func75,Tryz.ntmps75
 go_upto_region 6 with(fail)
 clear hW1 hW2
 refine wp_region_by (Al w w.heap.size (w.heap.size+1) 0 2 1 x y z x z y (-y) (-1)) (by kernel_rfl) (by kernel_rfl) (by kernel_rfl) (fun us=>⟨HE.out.drew,HB1.out.ext (Ext.refl W2).drew,(fun _=>HB2.out.ext (Ext.refl W2).drew),(nofun),(nofun),(nofun),(nofun),(nofun),(nofun),(nofun),(nofun),(nofun),(nofun),(nofun)⟩) ⟨?_,?_,?_,?_,?_,?_,?_,?_,?_,?_,?_,trivial⟩ ?_
 any_goals (intro L us wx K a ha hp hd hun hI hK;replace hp:=h_ hp;replace hd:=h_ hd;simp only[putAll,Act.put,zs,Nat.reduceAdd] at ha;subst ha;simp only[Act.put,zs] at hK)
 ·go_simp
  exact hK _ _ {hI with f0:=fun _=>rfl}
 ·have bb:=hI.g1.cell
  rw[hI.f0 (h_p hp 0)] at hK ⊢
  go_simp
  exact hK _ _ {hI with f1:=fun _=>rfl}
 ·go_simp
  exact hK _ _ {hI with f2:=fun _=>rfl}
 ·have bb:=hI.g1.cell
  rw[hI.f2 (h_p hp 2)] at hK ⊢
  go_simp
  exact hK _ _ {hI with f3:=fun _=>rfl}
 ·rw[hI.f1 (h_p hp 1),hI.f3 (h_p hp 3)] at hK ⊢
  go_simp
  exact hK _ _ {hI with f4:=fun _=>rfl}
 ·go_simp
  exact hK _ _ {hI with f5:=fun _=>rfl}
 ·go_simp
  exact hK _ _ {hI with f6:=fun _=>rfl}
 ·have bb:=hI.g1.cell
  rw[hI.f6 (h_p hp 6)] at hK ⊢
  go_simp
  exact hK _ _ {hI with f7:=fun _=>rfl}
 ·rw[hI.f5 (h_p hp 5),hI.f7 (h_p hp 7)] at hK ⊢
  go_simp
  refine hK _ _ ?_
  refine {hI with f8:= ?_}<;>(first|exact fun _=>rfl|skip)
  exact fun _=>congrArg (Value.int .i64) Hw.out
 ·have u4:=hI.f4 (h_p hp 4)
  have B4:=hI.g2 hun
  have bb:=B4.cell
  have fb:=B4.frozen
  have hs:w.heap.size≤w.heap.size+1:=by omega
  rw[u4] at hK ⊢
  clear u4
  go_simp
  exact hK undef _ ⟨(hI.x.setCell (p:=⟨w.heap.size+1,0,none⟩) hs _).setCell (p:=⟨w.heap.size+1,1,none⟩) hs _,(hI.g1.far (p:=⟨w.heap.size+1,0,none⟩) hne _).far (p:=⟨w.heap.size+1,1,none⟩) hne _,(fun h=>nomatch (show true=false from h)),(fun _=>(B4.set_ 0 _).set_ 1 _),hI.f0,hI.f1,hI.f2,hI.f3,hI.f4,hI.f5,hI.f6,hI.f7,hI.f8,hI.f10⟩
 ·rw[hI.f8 (h_p hp 8)] at hK ⊢
  go_simp
  exact hK _ _ {hI with f10:=fun _=>rfl}
 intro L us V hall hI
 have B4:=hI.g3 (hall 9 (by simp))
 have u10:=hI.f10 (hall 10 (by simp))
 have HEV:=h_ hI.x
 simp only[putAll,Act.put,zs,Nat.reduceAdd,u10]
 clear hall hI u10 b1 b2 f2
 go_wp2_with fail
 refine bodyPost_ret (v:= .tuple #[.agg #[.int .i64 (lineP ⟨x,y,z⟩ 3).1,.int .i64 (lineP ⟨x,y,z⟩ 3).2],.int .i64 (farP ⟨x,y,z⟩ 3)]) ?_ rfl ⟨rfl,HEV.out⟩
 have c:=B4.cell
 simp[results,Tryz.results75,go_sem,c,lineP,farP]
set_option maxRecDepth 100000 in
set_option maxHeartbeats 4000000 in
theorem along4(x y z:Int)(hp:(-100000≤x∧x≤100000)∧(-100000≤y∧y≤100000)∧(-100000≤z∧z≤100000))(w:World) :
  Calls Tryz.prog 75 #[.agg #[.int .i64 x,.int .i64 y,.int .i64 z],.int .i64 4] w fun e w'=>e = .returned (.tuple #[.agg #[.int .i64 (lineP ⟨x,y,z⟩ 4).1,.int .i64 (lineP ⟨x,y,z⟩ 4).2],.int .i64 (farP ⟨x,y,z⟩ 4)])∧Ext w w':=by
 obtain⟨⟨h1,h2⟩,⟨h3,h4⟩,⟨h5,h6⟩⟩:=hp
 obtain⟨W1,hW1,E1,B1,hz1⟩:=mk_ w #[.int .i64 x,.int .i64 y,.int .i64 z] 124
 obtain⟨W2,hW2,E2,B2,hz2⟩:=mk_ W1 #[.int .i64 0,.int .i64 0] 152
 rw[hz1] at B2
 have HE:=h_ (E1.trans E2)
 have HB1:=h_ (B1.ext E2)
 have HB2:=h_ B2
 have b1:=(B1.ext E2).cell
 have b2:=B2.cell
 have f2:=B2.frozen
 have hne:w.heap.size≠w.heap.size+1:=by omega
 have Hw:=h_ (show IntKind.i64.wrap z=z by simp[IntKind.wrap,IntKind.bits,IntKind.signed];omega)
 clear hz2 B1 B2 E1 E2
 go_enter Tryz.func75,Tryz.ntmps75
 go_upto_region 7 with(fail)
 clear hW1 hW2
 refine wp_region_by (Al w w.heap.size (w.heap.size+1) 0 1 2 x y z x y z z 1) (by kernel_rfl) (by kernel_rfl) (by kernel_rfl) (fun us=>⟨HE.out.drew,HB1.out.ext (Ext.refl W2).drew,(fun _=>HB2.out.ext (Ext.refl W2).drew),(nofun),(nofun),(nofun),(nofun),(nofun),(nofun),(nofun),(nofun),(nofun),(nofun),(nofun)⟩) ⟨?_,?_,?_,?_,?_,?_,?_,?_,?_,?_,?_,trivial⟩ ?_
 any_goals (intro L us wx K a ha hp hd hun hI hK;replace hp:=h_ hp;replace hd:=h_ hd;simp only[putAll,Act.put,zs,Nat.reduceAdd] at ha;subst ha;simp only[Act.put,zs] at hK)
 ·go_simp
  exact hK _ _ {hI with f0:=fun _=>rfl}
 ·have bb:=hI.g1.cell
  rw[hI.f0 (h_p hp 0)] at hK ⊢
  go_simp
  exact hK _ _ {hI with f1:=fun _=>rfl}
 ·go_simp
  exact hK _ _ {hI with f2:=fun _=>rfl}
 ·have bb:=hI.g1.cell
  rw[hI.f2 (h_p hp 2)] at hK ⊢
  go_simp
  exact hK _ _ {hI with f3:=fun _=>rfl}
 ·rw[hI.f1 (h_p hp 1),hI.f3 (h_p hp 3)] at hK ⊢
  go_simp
  exact hK _ _ {hI with f4:=fun _=>rfl}
 ·go_simp
  exact hK _ _ {hI with f5:=fun _=>rfl}
 ·go_simp
  exact hK _ _ {hI with f6:=fun _=>rfl}
 ·have bb:=hI.g1.cell
  rw[hI.f6 (h_p hp 6)] at hK ⊢
  go_simp
  exact hK _ _ {hI with f7:=fun _=>rfl}
 ·rw[hI.f5 (h_p hp 5),hI.f7 (h_p hp 7)] at hK ⊢
  go_simp
  refine hK _ _ ?_
  refine {hI with f8:= ?_}<;>(first|exact fun _=>rfl|skip)
  exact fun _=>congrArg (Value.int .i64) Hw.out
 ·have u4:=hI.f4 (h_p hp 4)
  have B4:=hI.g2 hun
  have bb:=B4.cell
  have fb:=B4.frozen
  have hs:w.heap.size≤w.heap.size+1:=by omega
  rw[u4] at hK ⊢
  clear u4
  go_simp
  exact hK undef _ ⟨(hI.x.setCell (p:=⟨w.heap.size+1,0,none⟩) hs _).setCell (p:=⟨w.heap.size+1,1,none⟩) hs _,(hI.g1.far (p:=⟨w.heap.size+1,0,none⟩) hne _).far (p:=⟨w.heap.size+1,1,none⟩) hne _,(fun h=>nomatch (show true=false from h)),(fun _=>(B4.set_ 0 _).set_ 1 _),hI.f0,hI.f1,hI.f2,hI.f3,hI.f4,hI.f5,hI.f6,hI.f7,hI.f8,hI.f10⟩
 ·rw[hI.f8 (h_p hp 8)] at hK ⊢
  go_simp
  exact hK _ _ {hI with f10:=fun _=>rfl}
 intro L us V hall hI
 have B4:=hI.g3 (hall 9 (by simp))
 have u10:=hI.f10 (hall 10 (by simp))
 have HEV:=h_ hI.x
 simp only[putAll,Act.put,zs,Nat.reduceAdd,u10]
 clear hall hI u10 b1 b2 f2
 go_wp2_with fail
 refine bodyPost_ret (v:= .tuple #[.agg #[.int .i64 (lineP ⟨x,y,z⟩ 4).1,.int .i64 (lineP ⟨x,y,z⟩ 4).2],.int .i64 (farP ⟨x,y,z⟩ 4)]) ?_ rfl ⟨rfl,HEV.out⟩
 have c:=B4.cell
 simp[results,Tryz.results75,go_sem,c,lineP,farP]
set_option maxRecDepth 100000 in
set_option maxHeartbeats 4000000 in
theorem along5(x y z:Int)(hp:(-100000≤x∧x≤100000)∧(-100000≤y∧y≤100000)∧(-100000≤z∧z≤100000))(w:World) :
  Calls Tryz.prog 75 #[.agg #[.int .i64 x,.int .i64 y,.int .i64 z],.int .i64 5] w fun e w'=>e = .returned (.tuple #[.agg #[.int .i64 (lineP ⟨x,y,z⟩ 5).1,.int .i64 (lineP ⟨x,y,z⟩ 5).2],.int .i64 (farP ⟨x,y,z⟩ 5)])∧Ext w w':=by
 obtain⟨⟨h1,h2⟩,⟨h3,h4⟩,⟨h5,h6⟩⟩:=hp
 obtain⟨W1,hW1,E1,B1,hz1⟩:=mk_ w #[.int .i64 x,.int .i64 y,.int .i64 z] 124
 obtain⟨W2,hW2,E2,B2,hz2⟩:=mk_ W1 #[.int .i64 0,.int .i64 0] 152
 rw[hz1] at B2
 have HE:=h_ (E1.trans E2)
 have HB1:=h_ (B1.ext E2)
 have HB2:=h_ B2
 have b1:=(B1.ext E2).cell
 have b2:=B2.cell
 have f2:=B2.frozen
 have hne:w.heap.size≠w.heap.size+1:=by omega
 have Hw:=h_ (show IntKind.i64.wrap (-z)=(-z) by simp[IntKind.wrap,IntKind.bits,IntKind.signed];omega)
 clear hz2 B1 B2 E1 E2
 go_enter Tryz.func75,Tryz.ntmps75
 go_upto_region 7 with(fail)
 clear hW1 hW2
 refine wp_region_by (Al w w.heap.size (w.heap.size+1) 0 1 2 x y z x y z (-z) (-1)) (by kernel_rfl) (by kernel_rfl) (by kernel_rfl) (fun us=>⟨HE.out.drew,HB1.out.ext (Ext.refl W2).drew,(fun _=>HB2.out.ext (Ext.refl W2).drew),(nofun),(nofun),(nofun),(nofun),(nofun),(nofun),(nofun),(nofun),(nofun),(nofun),(nofun)⟩) ⟨?_,?_,?_,?_,?_,?_,?_,?_,?_,?_,?_,trivial⟩ ?_
 any_goals (intro L us wx K a ha hp hd hun hI hK;replace hp:=h_ hp;replace hd:=h_ hd;simp only[putAll,Act.put,zs,Nat.reduceAdd] at ha;subst ha;simp only[Act.put,zs] at hK)
 ·go_simp
  exact hK _ _ {hI with f0:=fun _=>rfl}
 ·have bb:=hI.g1.cell
  rw[hI.f0 (h_p hp 0)] at hK ⊢
  go_simp
  exact hK _ _ {hI with f1:=fun _=>rfl}
 ·go_simp
  exact hK _ _ {hI with f2:=fun _=>rfl}
 ·have bb:=hI.g1.cell
  rw[hI.f2 (h_p hp 2)] at hK ⊢
  go_simp
  exact hK _ _ {hI with f3:=fun _=>rfl}
 ·rw[hI.f1 (h_p hp 1),hI.f3 (h_p hp 3)] at hK ⊢
  go_simp
  exact hK _ _ {hI with f4:=fun _=>rfl}
 ·go_simp
  exact hK _ _ {hI with f5:=fun _=>rfl}
 ·go_simp
  exact hK _ _ {hI with f6:=fun _=>rfl}
 ·have bb:=hI.g1.cell
  rw[hI.f6 (h_p hp 6)] at hK ⊢
  go_simp
  exact hK _ _ {hI with f7:=fun _=>rfl}
 ·rw[hI.f5 (h_p hp 5),hI.f7 (h_p hp 7)] at hK ⊢
  go_simp
  refine hK _ _ ?_
  refine {hI with f8:= ?_}<;>(first|exact fun _=>rfl|skip)
  exact fun _=>congrArg (Value.int .i64) Hw.out
 ·have u4:=hI.f4 (h_p hp 4)
  have B4:=hI.g2 hun
  have bb:=B4.cell
  have fb:=B4.frozen
  have hs:w.heap.size≤w.heap.size+1:=by omega
  rw[u4] at hK ⊢
  clear u4
  go_simp
  exact hK undef _ ⟨(hI.x.setCell (p:=⟨w.heap.size+1,0,none⟩) hs _).setCell (p:=⟨w.heap.size+1,1,none⟩) hs _,(hI.g1.far (p:=⟨w.heap.size+1,0,none⟩) hne _).far (p:=⟨w.heap.size+1,1,none⟩) hne _,(fun h=>nomatch (show true=false from h)),(fun _=>(B4.set_ 0 _).set_ 1 _),hI.f0,hI.f1,hI.f2,hI.f3,hI.f4,hI.f5,hI.f6,hI.f7,hI.f8,hI.f10⟩
 ·rw[hI.f8 (h_p hp 8)] at hK ⊢
  go_simp
  exact hK _ _ {hI with f10:=fun _=>rfl}
 intro L us V hall hI
 have B4:=hI.g3 (hall 9 (by simp))
 have u10:=hI.f10 (hall 10 (by simp))
 have HEV:=h_ hI.x
 simp only[putAll,Act.put,zs,Nat.reduceAdd,u10]
 clear hall hI u10 b1 b2 f2
 go_wp2_with fail
 refine bodyPost_ret (v:= .tuple #[.agg #[.int .i64 (lineP ⟨x,y,z⟩ 5).1,.int .i64 (lineP ⟨x,y,z⟩ 5).2],.int .i64 (farP ⟨x,y,z⟩ 5)]) ?_ rfl ⟨rfl,HEV.out⟩
 have c:=B4.cell
 simp[results,Tryz.results75,go_sem,c,lineP,farP]
theorem along6_c(x y z:Int)(d:Nat)(hd:d<6)(hp:(-100000≤x∧x≤100000)∧(-100000≤y∧y≤100000)∧(-100000≤z∧z≤100000))(w:World) :
  Calls Tryz.prog 75 #[.agg #[.int .i64 x,.int .i64 y,.int .i64 z],.int .i64 d] w fun e w'=>e = .returned (.tuple #[.agg #[.int .i64 (lineP ⟨x,y,z⟩ d).1,.int .i64 (lineP ⟨x,y,z⟩ d).2],.int .i64 (farP ⟨x,y,z⟩ d)])∧Ext w w' :=
 step_cases (P:=fun d:Nat=>Calls Tryz.prog 75 #[.agg #[.int .i64 x,.int .i64 y,.int .i64 z],.int .i64 d] w fun e w'=>e = .returned (.tuple #[.agg #[.int .i64 (lineP ⟨x,y,z⟩ d).1,.int .i64 (lineP ⟨x,y,z⟩ d).2],.int .i64 (farP ⟨x,y,z⟩ d)])∧Ext w w') (along0 x y z hp w) (along1 x y z hp w) (along2 x y z hp w) (along3 x y z hp w) (along4 x y z hp w) (along5 x y z hp w) hd
theorem ln_equal(w:World)(a b c d:Int):(Op.equal 152 (.agg #[.int .i64 a,.int .i64 b]) (.agg #[.int .i64 c,.int .i64 d])).run Tryz.prog w = .ok (decide (a=c)&&decide (b=d)) w:=by
 have u3:=Tryz.underlying3
 have hS:Tryz.prog.underlying 152=some (.struct (Tryz.prog.fieldsOf 152)):=by kernel_rfl
 have hp:Tryz.prog.stoodInHeld 152=false:=by kernel_rfl
 rw[Op.equal,Op.maxDepth,show(10000:Nat)=9999+1 from rfl,run_equalIn_agg w 9999 _ _ _ hS hp]
 simp only[Program.fieldsOf,Tryz.underlying152]
 go_simp
 by_cases h1:a=c <;> by_cases h2:b=d <;> simp[h1,h2]
theorem lnKey:KeyEnc Tryz.prog 152 encPr where
 wide:=by kernel_rfl
 eq w x y:=by
  obtain⟨a,b⟩:=x
  obtain⟨c,d⟩:=y
  rw[encPr,encPr,ln_equal]
  simp
 check w em x:=by
  obtain⟨a,b⟩:=x
  show(Instr.checkKey em 10000 152 (.agg #[.int .i64 a,.int .i64 b])).run Tryz.prog w = .ok () w
  kernel_rfl
 same x:=by
  obtain⟨a,b⟩:=x
  simp[encPr,Instr.sameBits]
def evF(v:Nat×Int):Value:= .agg #[.int .i64 v.1,.int .i64 v.2]
def frB(v:Option (Nat×Int)):Int:=((v.getD (0,0)).1:Int)
def frA(v:Option (Nat×Int)):Int:=(v.getD (0,0)).2
theorem look_line{w:World}{M:Nat}{m:List ((Int×Int)×(Nat×Int))}(h:MapOf encPr evF w M m)(a b:Int) :
  (Instr.lookup 150 (.map (some M)) (.agg #[.int .i64 a,.int .i64 b]) true).run Tryz.prog w = .ok (.tuple #[.agg #[.int .i64 (frB (getK m (a,b))),.int .i64 (frA (getK m (a,b)))],.bool (getK m (a,b)).isSome]) w:=by
 have:=lookup_run lnKey Tryz.underlying150 (w:=w) (z:= .agg #[.int .i64 0,.int .i64 0]) (by kernel_rfl) h (a,b) true
 rw[show Value.agg #[.int .i64 a,.int .i64 b]=encPr (a,b) from rfl,this]
 cases getK m (a,b) <;> rfl
section
variable {K V:Type} [DecidableEq K]
theorem keys_put(m:List (K×V))(x:K)(v:V):(putK m x v).map (·.1)=if x∈m.map (·.1) then m.map (·.1) else m.map (·.1) ++ [x]:=by
 induction m with
 | nil=>rfl
 | cons p m ih =>
  unfold putK
  by_cases h:x=p.1
  ·rw[if_pos h,if_pos (by rw[List.map_cons,h];exact List.mem_cons_self),List.map_cons,List.map_cons,h]
  ·rw[if_neg h,List.map_cons,ih,List.map_cons]
   by_cases h2:x∈m.map (·.1)
   ·rw[if_pos h2,if_pos (List.mem_cons_of_mem _ h2)]
   ·rw[if_neg h2,if_neg (fun h3=>by rcases List.mem_cons.1 h3 with h3|h3;exact h h3;exact h2 h3)]
    rfl
theorem nodup_put{m:List (K×V)}(h:(m.map (·.1)).Nodup)(x:K)(v:V):((putK m x v).map (·.1)).Nodup:=by
 rw[keys_put]
 by_cases h2:x∈m.map (·.1)
 ·rw[if_pos h2]
  exact h
 ·rw[if_neg h2,List.nodup_append]
  refine⟨h,by simp,fun a ha b hb=> ?_⟩
  rw[List.mem_singleton] at hb
  rintro rfl
  exact h2 (hb▸ha)
theorem getK_of_mem: ∀{m:List (K×V)},(m.map (·.1)).Nodup → ∀p∈m,getK m p.1=some p.2
 | [],_,p,hp=>by cases hp
 | q::m,h,p,hp=>by
  rw[List.map_cons,List.nodup_cons] at h
  unfold getK
  rcases List.mem_cons.1 hp with rfl|hp
  ·rw[if_pos rfl]
  ·rw[if_neg (fun e:p.1=q.1=>h.1 (List.mem_map.2 ⟨p,hp,e⟩))]
   exact getK_of_mem h.2 p hp
theorem key_of_getK: ∀{m:List (K×V)} {x:K} {v:V},getK m x=some v→x∈m.map (·.1)
 | [],x,v,h=>by cases h
 | q::m,x,v,h=>by
  unfold getK at h
  rw[List.map_cons]
  by_cases e:x=q.1
  ·rw[e]
   exact List.mem_cons_self
  ·rw[if_neg e] at h
   exact List.mem_cons_of_mem _ (key_of_getK h)
end
section
variable {P:Program} {K V:Type} {enc:K→Value} {ev:V→Value}
theorem next_kv{w w':World}{b r:Nat}{m:List (K×V)}{done left:List K}(h:RngOf enc ev w b r m done left){ty:TypeId}{k u:Value}
  (hr:(Instr.next (.pointer (some ⟨r,0,none⟩)) false ty).run P w = .ok (.tuple #[.bool true,k,u]) w'): ∃p∈m,k=enc p.1∧u=ev p.2:=by
 obtain⟨es,clock,since,seen,c0,hb,hm,hs1,hs2,hh,hc,hcl,hl,hp⟩:=h
 rcases run_next_at (P:=P) w ty r b since c0 seen es clock hh hb hs1 hc with⟨h0,hrun⟩|⟨e,he,w1,hal,hrun⟩
 ·rw[hrun] at hr
  simp at hr
 ·rw[hrun] at hr
  simp only[Result.ok.injEq,Value.tuple.injEq,Array.mk.injEq,List.cons.injEq,and_true,true_and] at hr
  obtain⟨⟨rfl,rfl⟩,-⟩:=hr
  have h1:(e.key,e.val)∈m.map fun p=>(enc p.1,ev p.2):=by
   rw[←hm]
   exact List.mem_map.2 ⟨e,(mem_left he).1,rfl⟩
  obtain⟨p,hp1,hp2⟩:=List.mem_map.1 h1
  rw[Prod.mk.injEq] at hp2
  exact⟨p,hp1,hp2.1.symm,hp2.2.symm⟩
theorem wpList_nxtKV(hinj: ∀x y,enc x=enc y→x=y){w:World}{ops:Array Oper}{rest:List Oper}{o:Oper}{a:Act}{Q:Exit→Act→World→Prop}(hg:o.guard=none)(it:Operand)(hop:o.op=Op.next it false)(b r:Nat)(m:List (K×V))(done left:List K)
  (hit:a.eval it = .pointer (some ⟨r,0,none⟩)) (h:RngOf enc ev w b r m done left)
  (hDone:left = []→wpList P ops Q rest (a.put o.dst (.tuple #[.bool false])) w)
  (hMore: ∀(x:K) (v:V) (left':List K) (w':World),(x,v)∈m→RngOf enc ev w' b r m (done ++ [x]) left'→left'.length<left.length→w.grownBy w' (some r)→w'.heap.size=w.heap.size →
   (Instr.entry (.pointer (some ⟨r,0,none⟩))).run P w' = .ok (.tuple #[enc x,ev v]) w'→wpList P ops Q rest (a.put o.dst (.tuple #[.bool true,enc x,ev v])) w'):wpList P ops Q (o::rest) a w:=by
 refine wpList_plain hg fun K' hK'=> ?_
 unfold Oper.wp
 rcases next_run (P:=P) h o.type with⟨h0,hrun⟩|⟨x,u,left',w',hrun,h1,h2,h3,h4,h5⟩
 ·simp[execOp,hop,hit,hrun,Result.andThen]
  exact hK' _ _ (hDone h0)
 ·obtain⟨⟨y,v⟩,hp,hk,rfl⟩:=next_kv h hrun
  obtain rfl:=hinj _ _ hk
  simp[execOp,hop,hit,hrun,Result.andThen]
  exact hK' _ _ (hMore x v left' w' hp h1 h2 h3 h4 h5)
end
theorem RngOf.perm{K V:Type}{enc:K→Value}{ev:V→Value}{w:World}{b r:Nat}{m:List (K×V)}{done:List K}(h:RngOf enc ev w b r m done [])(x:K):x∈done↔x∈m.map (·.1):=by
 obtain⟨es,clock,since,seen,c0,-,-,-,-,-,-,-,-,hp⟩:=h
 rw[List.append_nil] at hp
 exact hp.mem_iff
theorem encPr_inj(x y:Int×Int)(h:encPr x=encPr y):x=y:=by
 obtain⟨a,b⟩:=x
 obtain⟨c,d⟩:=y
 simpa [encPr] using h
end Go.Proofs.YtojolpbpjimfgaaGreatDoor
