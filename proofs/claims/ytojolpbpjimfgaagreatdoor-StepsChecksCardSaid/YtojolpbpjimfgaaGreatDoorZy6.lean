/- Texts of the proof: BrickB, Great, SameI, Chosen. -/
import Derived.Test.YtojolpbpjimfgaaGreatDoorZy2
import Derived.Test.YtojolpbpjimfgaaGreatDoorZy3
import Derived.Test.YtojolpbpjimfgaaGreatDoorZy5
set_option maxHeartbeats 3200000
namespace Go.Proofs.YtojolpbpjimfgaaGreatDoor
open Go.RowKit
structure Brk where
 kind:Int
 at_:Pt
 turn:Int
 color:Int
def Brk.v(b:Brk):Value:= .agg #[.int .i64 b.kind,.int .i64 b.at_.x,.int .i64 b.at_.y,.int .i64 b.at_.z,.int .u8 b.turn,.int .u8 b.color]
def Brk.cs(b:Brk):List Value:= [.int .i64 b.kind,.int .i64 b.at_.x,.int .i64 b.at_.y,.int .i64 b.at_.z,.int .u8 b.turn,.int .u8 b.color]
def Brk.byte(b:Brk):Prop:=(0≤b.turn∧b.turn≤255)∧0≤b.color∧b.color≤255
def Brk.ok(n:Nat)(b:Brk):Bool:=decide (0≤b.kind)&&(decide (b.kind<n)&&(nearB b.at_ (-1000) 1000&&(decide (b.turn<24)&&decide (b.color≤15))))
theorem Brk.ok_iff{n:Nat}{b:Brk}:b.ok n=true↔0≤b.kind∧b.kind<n∧nearB b.at_ (-1000) 1000=true∧b.turn<24∧b.color≤15:=by
 simp only[Brk.ok,Bool.and_eq_true,decide_eq_true_eq]
theorem Brk.ok_not{n:Nat}{b:Brk}(h: ¬(0≤b.kind∧b.kind<n∧nearB b.at_ (-1000) 1000=true∧b.turn<24∧b.color≤15)):b.ok n=false:=by
 rw[←Bool.not_eq_true,Brk.ok_iff];exact h
def Bricks(w:World)(A:Option Addr)(cap:Nat)(l:List Brk):Prop:=SliceIs w A l.length cap 6 (l.map Brk.cs) ∧ ∀b∈l,b.byte
theorem Bricks.ext{w w':World}{A:Option Addr}{cap:Nat}{l:List Brk}(h:Bricks w A cap l)(e:Ext w w'):Bricks w' A cap l:=⟨SliceIs.ext h.1 e,h.2⟩
theorem Bricks.len{w:World}{A:Option Addr}{cap:Nat}{l:List Brk}(h:Bricks w A cap l):l.length≤maxLen:=Nat.le_trans h.1.le h.1.small
theorem Bricks.at_{w:World}{A:Option Addr}{cap:Nat}{l:List Brk}(h:Bricks w A cap l){k:Nat}(hk:k<l.length) :
  ∃b off p,A=some ⟨b,off,none⟩∧l[k]? = some p∧p.byte∧b<w.heap.size∧w.cell? ⟨b,off+k*6,none⟩=some (.int .i64 p.kind)∧w.cell? ⟨b,off+k*6+1,none⟩=some (.int .i64 p.at_.x) ∧
   w.cell? ⟨b,off+k*6+2,none⟩=some (.int .i64 p.at_.y)∧w.cell? ⟨b,off+k*6+3,none⟩=some (.int .i64 p.at_.z)∧w.cell? ⟨b,off+k*6+4,none⟩=some (.int .u8 p.turn)∧w.cell? ⟨b,off+k*6+5,none⟩=some (.int .u8 p.color):=by
 obtain⟨b,off,hA,hb,hc⟩:=SliceIs.cells h.1 (by omega);have hget:l[k]? = some l[k]:=List.getElem?_eq_getElem hk;have hr:(l.map Brk.cs)[k]? = some l[k].cs:=by rw[List.getElem?_map,hget];rfl
 exact⟨b,off,l[k],hA,hget,h.2 _ (List.getElem_mem hk),hb,hc k _ hr 0 _ rfl,hc k _ hr 1 _ rfl,hc k _ hr 2 _ rfl,hc k _ hr 3 _ rfl,hc k _ hr 4 _ rfl,hc k _ hr 5 _ rfl⟩
theorem valid_c(n cap:Nat)(A:Option Addr)(k x y z t c:Int)(w:World)(hn0:n≤maxLen) :
  Calls Tryz.prog 116 #[.slice A n cap,.agg #[.int .i64 k,.int .i64 x,.int .i64 y,.int .i64 z,.int .u8 t,.int .u8 c]] w fun e w'=>e = .returned (.bool (Brk.ok n ⟨k,⟨x,y,z⟩,t,c⟩))∧Ext w w':=by
 have hn:=hn0;unfold maxLen at hn;obtain⟨W1,hW1,E1,B1,hz1⟩:=mk_ w #[.int .i64 k,.int .i64 x,.int .i64 y,.int .i64 z,.int .u8 t,.int .u8 c] 126;have b1:=B1.cell;by_cases a1:0≤k;rotate_left
 ·have Hb:=h_ (show Brk.ok n ⟨k,⟨x,y,z⟩,t,c⟩=false from Brk.ok_not (by
   show ¬(0≤k∧k<n∧_∧t<24∧c≤15)
   omega))
  go_enter Tryz.func116,Tryz.ntmps116;go_wp2_with fail;go_ret;exact⟨by rw[Hb.out];rfl,E1⟩
 by_cases a2:k<n;rotate_left
 ·have Hb:=h_ (show Brk.ok n ⟨k,⟨x,y,z⟩,t,c⟩=false from Brk.ok_not (by
   show ¬(0≤k∧k<n∧_∧t<24∧c≤15)
   omega))
  go_enter Tryz.func116,Tryz.ntmps116;go_wp2_with fail;go_ret;exact⟨by rw[Hb.out];rfl,E1⟩
 cases hr:nearB ⟨x,y,z⟩ (-1000) 1000
 ·have Hb:=h_ (show Brk.ok n ⟨k,⟨x,y,z⟩,t,c⟩=false from Brk.ok_not (by
   rw[show(Brk.mk k ⟨x,y,z⟩ t c).at_=⟨x,y,z⟩ from rfl,hr]
   exact fun h=>by cases h.2.2.1))
  go_enter Tryz.func116,Tryz.ntmps116;go_wp2_with fail;refine(near_is hr _).mono ?_;rintro v w2 ⟨rfl,E2⟩;go_wp2_with fail;go_ret;exact⟨by rw[Hb.out];rfl,E1.trans E2⟩
 by_cases a3:t<24;rotate_left
 ·have Hb:=h_ (show Brk.ok n ⟨k,⟨x,y,z⟩,t,c⟩=false from Brk.ok_not (by
   show ¬(0≤k∧k<n∧_∧t<24∧c≤15)
   omega))
  go_enter Tryz.func116,Tryz.ntmps116;go_wp2_with fail;refine(near_is hr _).mono ?_;rintro v w2 ⟨rfl,E2⟩;have b2:=(B1.ext E2).cell;go_wp2_with fail;go_ret;exact⟨by rw[Hb.out];rfl,E1.trans E2⟩
 by_cases a4:c≤15;rotate_left
 ·have Hb:=h_ (show Brk.ok n ⟨k,⟨x,y,z⟩,t,c⟩=false from Brk.ok_not (by
   show ¬(0≤k∧k<n∧_∧t<24∧c≤15)
   omega))
  have d4:decide (c≤15)=false:=by simp;omega
  go_enter Tryz.func116,Tryz.ntmps116;go_wp2_with fail;refine(near_is hr _).mono ?_;rintro v w2 ⟨rfl,E2⟩;have b2:=(B1.ext E2).cell;go_wp2_with fail;go_ret;exact⟨by rw[Hb.out];rfl,E1.trans E2⟩
 ·have Hb:=h_ (show Brk.ok n ⟨k,⟨x,y,z⟩,t,c⟩=true from Brk.ok_iff.2 ⟨a1,a2,hr,a3,a4⟩);go_enter Tryz.func116,Tryz.ntmps116;go_wp2_with fail;refine(near_is hr _).mono ?_;rintro v w2 ⟨rfl,E2⟩;have b2:=(B1.ext E2).cell;go_wp2_with fail;go_ret;exact⟨by rw[Hb.out];rfl,E1.trans E2⟩
theorem rValidBrick_c(n cap:Nat)(A:Option Addr)(k x y z t c:Int)(w:World)(hn:n≤maxLen) :
  Calls Tryz.prog 113 #[.slice A n cap,.agg #[.int .i64 k,.int .i64 x,.int .i64 y,.int .i64 z,.int .u8 t,.int .u8 c]] w fun e w'=>e = .returned (.bool (Brk.ok n ⟨k,⟨x,y,z⟩,t,c⟩))∧Ext w w':=by
 unfold maxLen at hn;obtain⟨W1,hW1,E1,B1,hz1⟩:=mk_ w #[.int .i64 k,.int .i64 x,.int .i64 y,.int .i64 z,.int .u8 t,.int .u8 c] 126;have b1:=B1.cell;have f1:IntKind.i64.wrap ((n:Int)-1)=(n:Int)-1:=IntWalk.i64_in _ (by omega);cases hi:inB 0 ((n:Int)-1) k
 ·have Hb:=h_ (show Brk.ok n ⟨k,⟨x,y,z⟩,t,c⟩=false from Brk.ok_not (by
   have:=inB_not.1 hi;show ¬(0≤k∧k<n∧_∧t<24∧c≤15)
   omega))
  go_enter Tryz.func113,Tryz.ntmps113;go_wp2_with fail;refine(within_is hi _).mono ?_;rintro v w2 ⟨rfl,rfl⟩;go_wp2_with fail;go_ret;exact⟨by rw[Hb.out];rfl,E1⟩
 have hi2:=inB_iff.1 hi;cases hr:nearB ⟨x,y,z⟩ (-1000) 1000
 ·have Hb:=h_ (show Brk.ok n ⟨k,⟨x,y,z⟩,t,c⟩=false from Brk.ok_not (by
   rw[show(Brk.mk k ⟨x,y,z⟩ t c).at_=⟨x,y,z⟩ from rfl,hr]
   exact fun h=>by cases h.2.2.1))
  go_enter Tryz.func113,Tryz.ntmps113;go_wp2_with fail;refine(within_is hi _).mono ?_;rintro v w2 ⟨rfl,rfl⟩;go_wp2_with fail;refine(rnear_is hr _).mono ?_;rintro v w2 ⟨rfl,E2⟩;go_wp2_with fail;go_ret;exact⟨by rw[Hb.out];rfl,E1.trans E2⟩
 by_cases a3:t<24;rotate_left
 ·have Hb:=h_ (show Brk.ok n ⟨k,⟨x,y,z⟩,t,c⟩=false from Brk.ok_not (by
   show ¬(0≤k∧k<n∧_∧t<24∧c≤15)
   omega))
  go_enter Tryz.func113,Tryz.ntmps113;go_wp2_with fail;refine(within_is hi _).mono ?_;rintro v w2 ⟨rfl,rfl⟩;go_wp2_with fail;refine(rnear_is hr _).mono ?_;rintro v w2 ⟨rfl,E2⟩;have b2:=(B1.ext E2).cell;go_wp2_with fail;go_ret;exact⟨by rw[Hb.out];rfl,E1.trans E2⟩
 by_cases a4:c≤15;rotate_left
 ·have Hb:=h_ (show Brk.ok n ⟨k,⟨x,y,z⟩,t,c⟩=false from Brk.ok_not (by
   show ¬(0≤k∧k<n∧_∧t<24∧c≤15)
   omega))
  have d4:decide (c≤15)=false:=by simp;omega
  go_enter Tryz.func113,Tryz.ntmps113;go_wp2_with fail;refine(within_is hi _).mono ?_;rintro v w2 ⟨rfl,rfl⟩;go_wp2_with fail;refine(rnear_is hr _).mono ?_;rintro v w2 ⟨rfl,E2⟩;have b2:=(B1.ext E2).cell;go_wp2_with fail;go_ret;exact⟨by rw[Hb.out];rfl,E1.trans E2⟩
 ·have Hb:=h_ (show Brk.ok n ⟨k,⟨x,y,z⟩,t,c⟩=true from Brk.ok_iff.2 ⟨by show 0≤k;omega,by show k<n;omega,hr,a3,a4⟩);go_enter Tryz.func113,Tryz.ntmps113;go_wp2_with fail;refine(within_is hi _).mono ?_;rintro v w2 ⟨rfl,rfl⟩;go_wp2_with fail;refine(rnear_is hr _).mono ?_;rintro v w2 ⟨rfl,E2⟩;have b2:=(B1.ext E2).cell;go_wp2_with fail;go_ret;exact⟨by rw[Hb.out];rfl,E1.trans E2⟩
theorem valid_is{n cap:Nat}{A:Option Addr}{k x y z t c:Int}{r:Bool}(h:Brk.ok n ⟨k,⟨x,y,z⟩,t,c⟩=r)(w:World)(hn:n≤maxLen) :
  Calls Tryz.prog 116 #[.slice A n cap,.agg #[.int .i64 k,.int .i64 x,.int .i64 y,.int .i64 z,.int .u8 t,.int .u8 c]] w fun e w'=>e = .returned (.bool r)∧Ext w w':=by
 subst h;exact valid_c _ _ _ _ _ _ _ _ _ _ hn
theorem rValidBrick_is{n cap:Nat}{A:Option Addr}{k x y z t c:Int}{r:Bool}(h:Brk.ok n ⟨k,⟨x,y,z⟩,t,c⟩=r)(w:World)(hn:n≤maxLen) :
  Calls Tryz.prog 113 #[.slice A n cap,.agg #[.int .i64 k,.int .i64 x,.int .i64 y,.int .i64 z,.int .u8 t,.int .u8 c]] w fun e w'=>e = .returned (.bool r)∧Ext w w':=by
 subst h;exact rValidBrick_c _ _ _ _ _ _ _ _ _ _ hn
/-! The error of kinds and bricks. -/
def brkAt(l:List Brk)(i:Nat):Brk:=l.getD i ⟨0,⟨0,0,0⟩,0,0⟩
theorem brkAt_eq{l:List Brk}{k:Nat}{p:Brk}(h:l[k]? = some p):brkAt l k=p:=by simp[brkAt,h]
def bricksB(n:Nat)(bs:List Brk):Bool:=allR bs.length fun i=>(brkAt bs i).ok n
def askedErr(ks:List Knd)(bs:List Brk):Int:=if kindsErr ks=0 then(if bricksB ks.length bs then 0 else 11) else kindsErr ks
theorem askedErr_kinds{ks:List Knd}{bs:List Brk}(h:kindsErr ks≠0):askedErr ks bs=kindsErr ks:=if_neg h
theorem askedErr_bad{ks:List Knd}{bs:List Brk}(h:kindsErr ks=0){j:Nat}(hj:j<bs.length)(hb:(brkAt bs j).ok ks.length=false):askedErr ks bs=11:=by
 rw[askedErr,if_pos h,bricksB,allR_bad hj hb];rfl
theorem askedErr_good{ks:List Knd}{bs:List Brk}(h:kindsErr ks=0)(hb: ∀j,j<bs.length→(brkAt bs j).ok ks.length=true):askedErr ks bs=0:=by
 rw[askedErr,if_pos h,bricksB,allR_good hb];rfl
theorem checkKinds_is{qs:List (Knd×KAt)}{A:Option Addr}{cap:Nat}{r:Int}(h:kindsErr (qs.map (·.1))=r){w:World}(hk:Kinds w A cap qs) :
  Calls Tryz.prog 107 #[.slice A qs.length cap] w fun e w'=>e = .returned (.int .i64 r)∧Ext w w':=by
 subst h;exact checkKinds_c _ _ _ _ hk
theorem rCheckKinds_is{qs:List (Knd×KAt)}{A:Option Addr}{cap:Nat}{r:Int}(h:kindsErr (qs.map (·.1))=r){w:World}(hk:Kinds w A cap qs) :
  Calls Tryz.prog 112 #[.slice A qs.length cap] w fun e w'=>e = .returned (.int .i64 r)∧Ext w w':=by
 subst h;exact rCheckKinds_c _ _ _ _ hk
theorem check_c(qs:List (Knd×KAt))(A:Option Addr)(cap:Nat)(bs:List Brk)(B:Option Addr)(cb:Nat)(w:World)(hk:Kinds w A cap qs)(hb:Bricks w B cb bs) :
  Calls Tryz.prog 90 #[.slice A qs.length cap,.slice B bs.length cb] w fun e w'=>e = .returned (.int .i64 (askedErr (qs.map (·.1)) bs))∧Ext w w':=by
 have hl1:qs.length≤maxLen:=hk.len;have hl2:bs.length≤9223372036854775807:=by have:=hb.len;unfold maxLen at this;omega
 obtain⟨r,hr⟩:=nm (kindsErr (qs.map (·.1)));by_cases h0:r=0;rotate_left
 ·have Hb:=h_ (show askedErr (qs.map (·.1)) bs=r by rw[askedErr_kinds (by rw[hr];exact h0),hr]);have CK:=checkKinds_is hr hk;have h1:(r != 0)=true:=by simpa using h0
  clear hr h0;go_enter Tryz.func90,Tryz.ntmps90;go_wp2_with fail;refine CK.mono ?_;rintro v w2 ⟨rfl,E2⟩;go_wp2_with fail;go_ret;exact⟨by rw[Hb.out];rfl,E2⟩
 subst h0;have CK:=checkKinds_is hr hk;have Hr:=h_ hr;clear hr;have Hml:=h_ (show(qs.map (·.1)).length=qs.length from List.length_map _);go_enter Tryz.func90,Tryz.ntmps90;go_wp2_with fail;refine CK.mono ?_;rintro v w2 ⟨rfl,E2⟩;go_wp2_with fail;go_loopw [15] (fun i wr=> ∃j:Nat,j≤bs.length∧i = .int .i64 j∧Ext w wr∧Hid (∀i,i<j→(brkAt bs i).ok qs.length=true)) (fun i _=>bs.length-(intOf i).toNat)
 case atStart=>exact⟨0,by omega,rfl,E2,h_ (fun i hi=>by omega)⟩
 case round =>
  clear E2;obtain⟨j,hj,rfl,E,Hj⟩:=hrel;by_cases hlt:j<bs.length
  ·obtain⟨g,off,⟨k,⟨x,y,z⟩,t,c⟩,rfl,hq,-,hg,c0,c1,c2,c3,c4,c5⟩:=(hb.ext E).at_ hlt;simp only at c0 c1 c2 c3 c4 c5;have Hq:=h_ hq;clear hq;obtain⟨W4,hW4,E4,B4,hz4⟩:=mk_ wr #[.int .i64 k,.int .i64 x,.int .i64 y,.int .i64 z,.int .u8 t,.int .u8 c] 126;have b4:=B4.cell;cases hv:Brk.ok qs.length ⟨k,⟨x,y,z⟩,t,c⟩
   ·have Hb:=h_ (askedErr_bad (bs:=bs) Hr.out hlt (by rw[brkAt_eq Hq.out,Hml.out];exact hv));have HV:=h_ (fun W=>valid_is (A:=A) (cap:=cap) hv W hl1);clear hv;go_wp2_with fail;refine(HV.out _).mono ?_;rintro v w2 ⟨rfl,E2⟩;go_wp2_with fail;go_ret;exact⟨by rw[Hb.out];rfl,(E.trans E4).trans E2⟩
   ·have hok: ∀i,i<j+1→(brkAt bs i).ok qs.length=true:=fun i hi=>by
     rcases Nat.lt_or_ge i j with h' | h'
     ·exact Hj.out i h'
     ·obtain rfl:i=j:=by omega
      rw[brkAt_eq Hq.out];exact hv
    have Hok:=h_ hok;have HV:=h_ (fun W=>valid_is (A:=A) (cap:=cap) hv W hl1);clear hv hok;go_wp2_with fail;refine(HV.out _).mono ?_;rintro v w2 ⟨rfl,E2⟩;go_wp2_with fail;go_roundw
    case rel=>exact⟨j+1,by omega,by go_num,(E.trans E4).trans E2,Hok⟩
    case measure=>simp only[intOf];omega
  ·obtain rfl:bs.length=j:=by omega
   have Hg:=h_ (askedErr_good (bs:=bs) Hr.out (by rw[Hml.out];exact Hj.out));go_wp2_with fail;go_ret;exact⟨by rw[Hg.out];rfl,E⟩
theorem brick_new(w:World)(b:Brk)(hb:b.byte)(t:TypeId):Bricks (w.alloc (.cells #[.int .i64 b.kind,.int .i64 b.at_.x,.int .i64 b.at_.y,.int .i64 b.at_.z,.int .u8 b.turn,.int .u8 b.color] t)) (some ⟨w.heap.size,0,none⟩) 1 [b]:=by
 refine⟨⟨rfl,Nat.le_refl _,by unfold maxLen;omega,by simp[Brk.cs],fun _=>⟨_,0,rfl,by simp,fun i r hr j u hu=> ?_⟩⟩,fun x hx=>by rw[List.mem_singleton.1 hx];exact hb⟩;have hi:i=0:=by
  rcases Nat.eq_zero_or_pos i with h|h
  ·exact h
  ·rw[List.getElem?_eq_none (by simp;omega)] at hr;cases hr
 subst hi;simp only[List.map_cons,List.map_nil,List.getElem?_cons_zero,Option.some.injEq] at hr;subst hr;rw[cell_new]
 simpa [Brk.cs] using hu
theorem check1_c(qs:List (Knd×KAt))(A:Option Addr)(cap:Nat)(k x y z t c:Int)(w:World)(hk:Kinds w A cap qs)(hb:Brk.byte ⟨k,⟨x,y,z⟩,t,c⟩)(ty:TypeId) :
  Calls Tryz.prog 90 #[.slice A qs.length cap,.slice (some ⟨w.heap.size,0,none⟩) 1 1] (w.alloc (.cells #[.int .i64 k,.int .i64 x,.int .i64 y,.int .i64 z,.int .u8 t,.int .u8 c] ty)) fun e w'=>e = .returned (.int .i64 (askedErr (qs.map (·.1)) [⟨k,⟨x,y,z⟩,t,c⟩]))∧Ext w w' :=
 (check_c qs A cap [⟨k,⟨x,y,z⟩,t,c⟩] (some ⟨w.heap.size,0,none⟩) 1 _ (hk.ext ((Ext.refl w).alloc _)) (brick_new w ⟨k,⟨x,y,z⟩,t,c⟩ hb ty)).mono fun _ _ ⟨he,hE⟩=>⟨he,((Ext.refl w).alloc _).trans hE⟩
def Knd.great(k:Knd):Bool:=decide (30<k.cells.length)||decide (60<k.knobs.length)
def greatB(l:List Knd)(n:Nat):Bool:=decide (20<l.length)||(decide (45<n) || !allR l.length fun i=> !(kindAt l i).great)
theorem great_c(qs:List (Knd×KAt))(A:Option Addr)(cap:Nat)(B:Option Addr)(n cb:Nat)(w:World)(hk:Kinds w A cap qs)(hn:n≤maxLen) :
  Calls Tryz.prog 25 #[.slice A qs.length cap,.agg #[.slice B n cb]] w fun e w'=>e = .returned (.bool (greatB (qs.map (·.1)) n))∧Ext w w':=by
 have hl1:qs.length≤9223372036854775807:=by have:=hk.len;unfold maxLen at this;omega
 have hml:(qs.map (·.1)).length=qs.length:=List.length_map _;unfold maxLen at hn;obtain⟨W1,hW1,E1,B1,hz1⟩:=mk_ w #[.slice B n cb] 25;have b1:=B1.cell;by_cases a1:(20:Int)<qs.length
 ·have Hb:=h_ (show greatB (qs.map (·.1)) n=true by rw[greatB,decide_eq_true (by rw[hml];omega)];rfl);clear hml;go_enter Tryz.func25,Tryz.ntmps25;go_wp2_with fail;go_ret;exact⟨by rw[Hb.out];rfl,E1⟩
 by_cases a2:(45:Int)<n
 ·have Hb:=h_ (show greatB (qs.map (·.1)) n=true by rw[greatB,decide_eq_true (show 45<n by omega),Bool.true_or,Bool.or_true]);clear hml;go_enter Tryz.func25,Tryz.ntmps25;go_wp2_with fail;go_ret;exact⟨by rw[Hb.out];rfl,E1⟩
 have Hg:=h_ (show greatB (qs.map (·.1)) n = !allR qs.length fun i=> !(kindAt (qs.map (·.1)) i).great by
  unfold greatB;rw[decide_eq_false (show ¬20<(qs.map (·.1)).length by rw[hml];omega),decide_eq_false (show ¬45<n by omega),hml]
  rfl)
 clear hml;go_enter Tryz.func25,Tryz.ntmps25;go_wp2_with fail;clear hW1 hz1 b1 a1 a2;go_loopw [5] (fun i wr=> ∃j:Nat,j≤qs.length∧i = .int .i64 j∧wr=W1∧Hid (∀i,i<j→(!(kindAt (qs.map (·.1)) i).great)=true)) (fun i _=>qs.length-(intOf i).toNat)
 case atStart=>exact⟨0,by omega,rfl,rfl,h_ (fun i hi=>by omega)⟩
 case round =>
  obtain⟨j,hj,rfl,rfl,Hj⟩:=hrel;by_cases hlt:j<qs.length
  ·obtain⟨g,off,⟨kc,kn,kw⟩,⟨KA,kca,KB,kcb⟩,rfl,hq,⟨hkc,hkn⟩,hg,c0,c1,c2⟩:=(hk.ext E1).at_ hlt;have hlc:=hkc.len;have hln:=hkn.len;unfold maxLen at hlc hln;simp only at c0 c1 c2 hlc hln;have Hq:=h_ (kindAt_eq hq);clear hq hkc hkn;by_cases d1:(30:Int)<kc.length
   ·have Hb:=h_ (show greatB (qs.map (·.1)) n=true by
     rw[Hg.out,allR_bad hlt (by rw[Hq.out,Knd.great,decide_eq_true (show 30<kc.length by omega)];rfl)]
     rfl)
    go_wp2_with fail;go_ret;exact⟨by rw[Hb.out];rfl,E1⟩
   by_cases d2:(60:Int)<kn.length
   ·have Hb:=h_ (show greatB (qs.map (·.1)) n=true by
     rw[Hg.out,allR_bad hlt (by rw[Hq.out,Knd.great,decide_eq_true (show 60<kn.length by omega),Bool.or_true];rfl)]
     rfl)
    go_wp2_with fail;go_ret;exact⟨by rw[Hb.out];rfl,E1⟩
   have hok: ∀i,i<j+1→(!(kindAt (qs.map (·.1)) i).great)=true:=fun i hi=>by
    rcases Nat.lt_or_ge i j with h' | h'
    ·exact Hj.out i h'
    ·obtain rfl:i=j:=by omega
     rw[Hq.out,Knd.great,decide_eq_false (show ¬30<kc.length by omega),decide_eq_false (show ¬60<kn.length by omega)];rfl
   have Hok:=h_ hok;clear hok;go_wp2_with fail;go_roundw
   case rel=>exact⟨j+1,by omega,by go_num,trivial,Hok⟩
   case measure=>simp only[intOf];omega
  ·obtain rfl:qs.length=j:=by omega
   have Hb:=h_ (show greatB (qs.map (·.1)) n=false by rw[Hg.out,allR_good Hj.out];rfl);go_wp2_with fail;go_ret;exact⟨by rw[Hb.out];rfl,E1⟩
def IntsZ(w:World)(A:Option Addr)(cap:Nat)(l:List Int):Prop:=SliceIs w A l.length cap 1 (l.map fun n=> [.int .i64 n])
theorem IntsZ.ext{w w':World}{A:Option Addr}{cap:Nat}{l:List Int}(h:IntsZ w A cap l)(e:Ext w w'):IntsZ w' A cap l:=SliceIs.ext h e
theorem IntsZ.len{w:World}{A:Option Addr}{cap:Nat}{l:List Int}(h:IntsZ w A cap l):l.length≤maxLen:=Nat.le_trans h.le h.small
theorem IntsZ.at_{w:World}{A:Option Addr}{cap:Nat}{l:List Int}(h:IntsZ w A cap l){k:Nat}(hk:k<l.length) :
  ∃b off p,A=some ⟨b,off,none⟩∧l[k]? = some p∧b<w.heap.size∧w.cell? ⟨b,off+k,none⟩=some (.int .i64 p):=by
 obtain⟨b,off,hA,hb,hc⟩:=SliceIs.cells h (by omega);have hget:l[k]? = some l[k]:=List.getElem?_eq_getElem hk;have hr:(l.map fun n=> [Value.int .i64 n])[k]? = some [.int .i64 l[k]]:=by rw[List.getElem?_map,hget];rfl
 have:=hc k _ hr 0 _ rfl;rw[Nat.mul_one,Nat.add_zero] at this;exact⟨b,off,l[k],hA,hget,hb,this⟩
def intAt(l:List Int)(k:Nat):Int:=l.getD k 0
theorem intAt_eq{l:List Int}{k:Nat}{p:Int}(h:l[k]? = some p):intAt l k=p:=by simp[intAt,h]
def eqI(a b:List Int):Bool:=decide (a.length=b.length)&&allR a.length fun i=>intAt a i==intAt b i
def chOk(l:List Int)(n:Int)(i:Nat):Bool:=inB 0 (n-1) (intAt l i)&&(decide (i=0)||decide (intAt l (i-1)<intAt l i))
def chosenB(l:List Int)(n:Int):Bool:=allR l.length (chOk l n)
theorem chosen_bad{l:List Int}{n:Int}{k:Nat}(hk:k<l.length)(h:chOk l n k=false):chosenB l n=false:=allR_bad hk h
theorem chosen_good{l:List Int}{n:Int}(h: ∀j,j<l.length→chOk l n j=true):chosenB l n=true:=allR_good h
theorem chOk_out{l:List Int}{n:Int}{k:Nat}{p:Int}(hp:l[k]? = some p)(h: ¬(0≤p∧p<n)):chOk l n k=false:=by
 unfold chOk;rw[intAt_eq hp,inB_not.2 (by omega),Bool.false_and]
theorem chOk_zero{l:List Int}{n:Int}{p:Int}(hp:l[0]? = some p)(h:0≤p∧p<n):chOk l n 0=true:=by
 unfold chOk;rw[intAt_eq hp,inB_iff.2 (by omega)];rfl
theorem chOk_next{l:List Int}{n:Int}{k:Nat}{p r:Int}(hp:l[k]? = some p)(hk:k≠0)(hr:l[k-1]? = some r)(h:0≤p∧p<n):chOk l n k=decide (r<p):=by
 unfold chOk;rw[intAt_eq hp,intAt_eq hr,inB_iff.2 (by omega),decide_eq_false hk,Bool.true_and,Bool.false_or]
def hasZ(l:List Int)(n:Int):Bool:=l.any fun x=>x==n
theorem hasZ_iff{l:List Int}{n:Int}:hasZ l n=true↔n∈l:=by
 unfold hasZ;rw[List.any_eq_true];exact⟨fun⟨q,h,e⟩=>(beq_iff_eq.1 e)▸h,fun h=>⟨n,h,beq_self_eq_true n⟩⟩
theorem hasZ_drop{l:List Int}{p q:Int}{k:Nat}(h:l[k]? = some q):hasZ (l.drop k) p=(q==p||hasZ (l.drop (k+1)) p):=by
 obtain⟨hk,hn⟩:=List.getElem?_eq_some_iff.1 h;rw[List.drop_eq_getElem_cons hk,hn];rfl
theorem hasZ_none{l:List Int}{p:Int}{k:Nat}(h:l.length≤k):hasZ (l.drop k) p=false:=by
 rw[List.drop_of_length_le h];rfl
theorem within3_c(n lo hi:Int)(w:World):Calls Tryz.prog 67 #[.int .i64 n,.int .i64 lo,.int .i64 hi] w fun e w'=>e = .returned (.bool (inB lo hi n))∧Ext w w':=by
 by_cases h1:lo≤n
 ·by_cases h2:n≤hi
  ·have Hv:=h_ (inB_iff.2 ⟨h1,h2⟩);have h3:n≥lo:=h1;go_enter Tryz.func67,Tryz.ntmps67;go_wp2_with fail;go_ret;exact⟨by rw[Hv.out];rfl,Ext.refl w⟩
  ·have Hv:=h_ (inB_not (lo:=lo) (hi:=hi) (n:=n) |>.2 (fun h=>h2 h.2));go_enter Tryz.func67,Tryz.ntmps67;go_wp2_with fail;go_ret;exact⟨by rw[Hv.out];rfl,Ext.refl w⟩
 ·have Hv:=h_ (inB_not (lo:=lo) (hi:=hi) (n:=n) |>.2 (fun h=>h1 h.1));go_enter Tryz.func67,Tryz.ntmps67;go_wp2_with fail;go_ret;exact⟨by rw[Hv.out];rfl,Ext.refl w⟩
theorem rIn_c(A:Option Addr)(ca:Nat)(l:List Int)(n:Int)(w:World)(hs:IntsZ w A ca l) :
  Calls Tryz.prog 155 #[.slice A l.length ca,.int .i64 n] w fun e w'=>e = .returned (.bool (hasZ l n))∧Ext w w':=by
 have hl:l.length≤9223372036854775807:=by have:=hs.len;unfold maxLen at this;omega
 go_enter Tryz.func155,Tryz.ntmps155;go_wp2_with fail;go_loopw [5] (fun i wr=> ∃k:Nat,k≤l.length∧i = .int .i64 k∧Hid (hasZ l n=hasZ (l.drop k) n)∧Ext w wr) (fun i _=>l.length-(intOf i).toNat)
 case atStart=>exact⟨0,by omega,rfl,h_ rfl,Ext.refl w⟩
 case round =>
  obtain⟨k,hk,rfl,Hj,E⟩:=hrel;by_cases hlt:k<l.length
  ·obtain⟨g,off,q,rfl,hq,hg,c0⟩:=hs.at_ hlt;have e0:=E.cell c0;have hle:=hs.le;clear c0;have Hd:=h_ (hasZ_drop (p:=n) hq);clear hq;have i1:(0:Int)≤k:=by omega
   have i2:(k:Int)<l.length:=by omega
   have i3:(k:Int)<ca:=by omega
   obtain⟨r,hr⟩:=nm ((q==n));have hr2:(q==n)=r:=hr;have Hr:=h_ hr;skip;cases r
   ·skip;go_wp2_with fail;go_roundw
    case rel=>exact⟨k+1,by omega,by go_num,h_ (by rw[Hj.out,Hd.out,Hr.out];rfl),E⟩
    case measure=>simp[intOf];omega
   ·skip;go_wp2_with fail;go_ret;exact⟨by rw[Hj.out,Hd.out,Hr.out];rfl,E⟩
  ·obtain rfl:k=l.length:=by omega
   go_wp2_with fail;go_ret;exact⟨by rw[Hj.out,hasZ_none (Nat.le_refl _)];rfl,E⟩
def IdxZ(b:Bool)(w:World)(e:Ending)(w':World):Prop:= ∃v:Int,e = .returned (.int .i64 v)∧decide (0≤v)=b∧Ext w w'
theorem idxZ_c(A:Option Addr)(ca:Nat)(l:List Int)(n:Int)(w:World)(hs:IntsZ w A ca l) :
  Calls Tryz.prog 94 #[.slice A l.length ca,.int .i64 n] w (IdxZ (hasZ l n) w):=by
 have hl:l.length≤9223372036854775807:=by have:=hs.len;unfold maxLen at this;omega
 go_enter Tryz.func94,Tryz.ntmps94;go_wp2_with fail;go_loopw [8] (fun i wr=> ∃k:Nat,k≤l.length∧i = .int .i64 k∧Hid (hasZ l n=hasZ (l.drop k) n)∧Ext w wr) (fun i _=>l.length-(intOf i).toNat)
 case atStart=>exact⟨0,by omega,rfl,h_ rfl,Ext.refl w⟩
 case round =>
  obtain⟨k,hk,rfl,Hj,E⟩:=hrel;by_cases hlt:k<l.length
  ·obtain⟨g,off,q,rfl,hq,hg,c0⟩:=hs.at_ hlt;have e0:=E.cell c0;have hle:=hs.le;clear c0;have Hd:=h_ (hasZ_drop (p:=n) hq);clear hq;have i1:(0:Int)≤k:=by omega
   have i2:(k:Int)<l.length:=by omega
   have i3:(k:Int)<ca:=by omega
   obtain⟨r,hr⟩:=nm ((q==n));have hr2:(n==q)=r:=(Bool.beq_comm.symm.trans hr);have Hr:=h_ hr;skip;cases r
   ·skip;go_wp2_with fail;go_roundw
    case rel=>exact⟨k+1,by omega,by go_num,h_ (by rw[Hj.out,Hd.out,Hr.out];rfl),E⟩
    case measure=>simp[intOf];omega
   ·skip;go_wp2_with fail;go_ret;exact⟨k,rfl,by rw[Hj.out,Hd.out,Hr.out];simp,E⟩
  ·obtain rfl:k=l.length:=by omega
   go_wp2_with fail;go_ret;exact⟨-1,rfl,by rw[Hj.out,hasZ_none (Nat.le_refl _)];rfl,E⟩
theorem contZ_c(A:Option Addr)(ca:Nat)(l:List Int)(n:Int)(w:World)(hs:IntsZ w A ca l) :
  Calls Tryz.prog 65 #[.slice A l.length ca,.int .i64 n] w fun e w'=>e = .returned (.bool (hasZ l n))∧Ext w w':=by
 go_enter Tryz.func65,Tryz.ntmps65;go_wp2_with fail;refine(idxZ_c A ca l n _ hs).mono ?_;rintro e w2 ⟨v,rfl,hv,E2⟩;have Hv:=h_ hv;clear hv;go_wp2_with fail;go_ret;exact⟨by rw[←Hv.out];rfl,E2⟩
theorem chosen_c(A:Option Addr)(ca:Nat)(l:List Int)(n:Int)(w:World)(hs:IntsZ w A ca l) :
  Calls Tryz.prog 89 #[.slice A l.length ca,.int .i64 n] w fun e w'=>e = .returned (.bool (chosenB l n))∧Ext w w':=by
 have hl:l.length≤9223372036854775807:=by have:=hs.len;unfold maxLen at this;omega
 go_enter Tryz.func89,Tryz.ntmps89;go_wp2_with fail;go_loopw [9] (fun i wr=> ∃k:Nat,k≤l.length∧i = .int .i64 k∧Hid (∀j,j<k→chOk l n j=true)∧Ext w wr) (fun i _=>l.length-(intOf i).toNat)
 case atStart=>exact⟨0,by omega,rfl,h_ (fun j hj=>by omega),Ext.refl w⟩
 case round =>
  obtain⟨k,hk,rfl,Hj,E⟩:=hrel;by_cases hlt:k<l.length
  ·obtain⟨g,off,q,rfl,hq,hg,c0⟩:=hs.at_ hlt;have e0:=E.cell c0;have hle:=hs.le;have Hq:=h_ hq;clear c0 hq;have i1:(0:Int)≤k:=by omega
   have i2:(k:Int)<l.length:=by omega
   have i3:(k:Int)<ca:=by omega
   by_cases h0:0≤q∧q<n;rotate_left
   ·have Hf:=h_ (chOk_out Hq.out h0);have hin:inB 0 (n-1) q=false:=inB_not.2 (by omega);by_cases h1:q<0
    ·have h2:decide (q<0)=true:=by simp;omega
     clear h0;skip;go_wp2_with fail;go_ret;exact⟨by rw[chosen_bad hlt Hf.out];rfl,E⟩
    ·have h2:decide (q<0)=false:=by simp;omega
     have h3:n≤q:=by omega
     have h4:decide (n≤q)=true:=by simp;omega
     clear h0;skip;go_wp2_with fail;go_ret;exact⟨by rw[chosen_bad hlt Hf.out];rfl,E⟩
   ·obtain⟨ha,hb⟩:=h0;have hin:inB 0 (n-1) q=true:=inB_iff.2 (by omega);have h2:decide (q<0)=false:=by simp;omega
    have h3: ¬n≤q:=by omega
    have h4:decide (n≤q)=false:=by simp;omega
    have h5: ¬q<0:=by omega
    by_cases hk0:k=0
    ·have Hf:=h_ (show chOk l n k=true by have:=Hq.out;subst hk0;exact chOk_zero this ⟨ha,hb⟩);have q3: ¬(0:Int)<(k:Int):=by omega
     have q4:decide (0<k)=false:=by simp;omega
     clear hk0;skip;go_wp2_with fail;go_roundw
     case rel=>exact⟨k+1,by omega,by go_num,h_ (fun j hj=>by rcases Nat.lt_or_ge j k with h|h;exact Hj.out j h;rw[show j=k by omega];exact Hf.out),E⟩
     case measure=>simp[intOf];omega
    ·obtain⟨g',off',r,hA',hr,hg',c1⟩:=hs.at_ (k:=k-1) (by omega);cases hA';have e1:=E.cell c1;have Hf0:=h_ (chOk_next Hq.out hk0 hr ⟨ha,hb⟩);clear c1 hr;have q3:(0:Int)<(k:Int):=by omega
     have q4:decide (0<k)=true:=by simp;omega
     have q5:decide ((0:Int)<(k:Int))=true:=by simp;omega
     have ht:((k:Int)-1).toNat=k-1:=by omega
     have hk1:(1:Int)≤k:=by omega
     have q6:(k:Int)-1<l.length:=by omega
     have q7:(0:Int)≤(k:Int)-1:=by omega
     by_cases hrq:r<q
     ·have g1: ¬q≤r:=by omega
      have g2:decide (q≤r)=false:=by simp;omega
      have Hf:=h_ (show chOk l n k=true by rw[Hf0.out];simp;omega);clear hk0 hrq;skip;go_wp2_with fail;go_roundw
      case rel=>exact⟨k+1,by omega,by go_num,h_ (fun j hj=>by rcases Nat.lt_or_ge j k with h|h;exact Hj.out j h;rw[show j=k by omega];exact Hf.out),E⟩
      case measure=>simp[intOf];omega
     ·have g1:q≤r:=by omega
      have g2:decide (q≤r)=true:=by simp;omega
      have Hf:=h_ (show chOk l n k=false by rw[Hf0.out];simp;omega);clear hk0 hrq;skip;go_wp2_with fail;go_ret;exact⟨by rw[chosen_bad hlt Hf.out];rfl,E⟩
  ·obtain rfl:k=l.length:=by omega
   go_wp2_with fail;go_ret;exact⟨by rw[chosen_good Hj.out];rfl,E⟩
theorem rChosen_c(A:Option Addr)(ca:Nat)(l:List Int)(n:Int)(w:World)(hs:IntsZ w A ca l)(hn:0≤n)(hn2:n≤1000000) :
  Calls Tryz.prog 31 #[.slice A l.length ca,.int .i64 n] w fun e w'=>e = .returned (.bool (chosenB l n))∧Ext w w':=by
 have hl:l.length≤9223372036854775807:=by have:=hs.len;unfold maxLen at this;omega
 go_enter Tryz.func31,Tryz.ntmps31;go_wp2_with fail;go_loopw [5] (fun i wr=> ∃k:Nat,k≤l.length∧i = .int .i64 k∧Hid (∀j,j<k→chOk l n j=true)∧Ext w wr) (fun i _=>l.length-(intOf i).toNat)
 case atStart=>exact⟨0,by omega,rfl,h_ (fun j hj=>by omega),Ext.refl w⟩
 case round =>
  obtain⟨k,hk,rfl,Hj,E⟩:=hrel;by_cases hlt:k<l.length
  ·obtain⟨g,off,q,rfl,hq,hg,c0⟩:=hs.at_ hlt;have e0:=E.cell c0;have hle:=hs.le;have Hq:=h_ hq;clear c0 hq;have i1:(0:Int)≤k:=by omega
   have i2:(k:Int)<l.length:=by omega
   have i3:(k:Int)<ca:=by omega
   by_cases h0:0≤q∧q<n;rotate_left
   ·have Hf:=h_ (chOk_out Hq.out h0);have hin:inB 0 (n-1) q=false:=inB_not.2 (by omega);by_cases h1:q<0
    ·have h2:decide (q<0)=true:=by simp;omega
     clear h0
     go_upto_region 4 with(fail)
     refine w_g ?_
     repeat (go_big_quiet_step ((go_at_call 67;exact quiet_ext (within3_c _ _ _ _))))
     refine wpQuiet_nil ?_;intro W4 hW4;have E4:Ext wr W4:=by
      obtain⟨x,rfl⟩:=hW4;exact(Ext.refl _).grow x
     clear hW4;obtain⟨hcW4,hfW4,hzW4⟩:=ext_facts E4;go_wp2_with fail;go_ret;exact⟨by rw[chosen_bad hlt Hf.out];rfl,(E.trans E4)⟩
    ·have h2:decide (q<0)=false:=by simp;omega
     have h3:n≤q:=by omega
     have h4:decide (n≤q)=true:=by simp;omega
     clear h0
     go_upto_region 4 with(fail)
     refine w_g ?_
     repeat (go_big_quiet_step ((go_at_call 67;exact quiet_ext (within3_c _ _ _ _))))
     refine wpQuiet_nil ?_;intro W4 hW4;have E4:Ext wr W4:=by
      obtain⟨x,rfl⟩:=hW4;exact(Ext.refl _).grow x
     clear hW4;obtain⟨hcW4,hfW4,hzW4⟩:=ext_facts E4;go_wp2_with fail;go_ret;exact⟨by rw[chosen_bad hlt Hf.out];rfl,(E.trans E4)⟩
   ·obtain⟨ha,hb⟩:=h0;have hin:inB 0 (n-1) q=true:=inB_iff.2 (by omega);have h2:decide (q<0)=false:=by simp;omega
    have h3: ¬n≤q:=by omega
    have h4:decide (n≤q)=false:=by simp;omega
    have h5: ¬q<0:=by omega
    by_cases hk0:k=0
    ·have Hf:=h_ (show chOk l n k=true by have:=Hq.out;subst hk0;exact chOk_zero this ⟨ha,hb⟩);have q3: ¬(0:Int)<(k:Int):=by omega
     have q4:decide (0<k)=false:=by simp;omega
     clear hk0
     go_upto_region 4 with(fail)
     refine w_g ?_
     repeat (go_big_quiet_step ((go_at_call 67;exact quiet_ext (within3_c _ _ _ _))))
     refine wpQuiet_nil ?_;intro W4 hW4;have E4:Ext wr W4:=by
      obtain⟨x,rfl⟩:=hW4;exact(Ext.refl _).grow x
     clear hW4;obtain⟨hcW4,hfW4,hzW4⟩:=ext_facts E4;go_wp2_with fail;go_roundw
     case rel=>exact⟨k+1,by omega,by go_num,h_ (fun j hj=>by rcases Nat.lt_or_ge j k with h|h;exact Hj.out j h;rw[show j=k by omega];exact Hf.out),(E.trans E4)⟩
     case measure=>simp[intOf];omega
    ·obtain⟨g',off',r,hA',hr,hg',c1⟩:=hs.at_ (k:=k-1) (by omega);cases hA';have e1:=E.cell c1;have Hf0:=h_ (chOk_next Hq.out hk0 hr ⟨ha,hb⟩);clear c1 hr;have q3:(0:Int)<(k:Int):=by omega
     have q4:decide (0<k)=true:=by simp;omega
     have q5:decide ((0:Int)<(k:Int))=true:=by simp;omega
     have ht:((k:Int)-1).toNat=k-1:=by omega
     have hk1:(1:Int)≤k:=by omega
     have q6:(k:Int)-1<l.length:=by omega
     have q7:(0:Int)≤(k:Int)-1:=by omega
     by_cases hrq:r<q
     ·have g1: ¬q≤r:=by omega
      have g2:decide (q≤r)=false:=by simp;omega
      have Hf:=h_ (show chOk l n k=true by rw[Hf0.out];simp;omega);clear hk0 hrq
      go_upto_region 4 with(fail)
      refine w_g ?_
      repeat (go_big_quiet_step ((go_at_call 67;exact quiet_ext (within3_c _ _ _ _))))
      refine wpQuiet_nil ?_;intro W4 hW4;have E4:Ext wr W4:=by
       obtain⟨x,rfl⟩:=hW4;exact(Ext.refl _).grow x
      clear hW4;obtain⟨hcW4,hfW4,hzW4⟩:=ext_facts E4;go_wp2_with fail;go_roundw
      case rel=>exact⟨k+1,by omega,by go_num,h_ (fun j hj=>by rcases Nat.lt_or_ge j k with h|h;exact Hj.out j h;rw[show j=k by omega];exact Hf.out),(E.trans E4)⟩
      case measure=>simp[intOf];omega
     ·have g1:q≤r:=by omega
      have g2:decide (q≤r)=true:=by simp;omega
      have Hf:=h_ (show chOk l n k=false by rw[Hf0.out];simp;omega);clear hk0 hrq
      go_upto_region 4 with(fail)
      refine w_g ?_
      repeat (go_big_quiet_step ((go_at_call 67;exact quiet_ext (within3_c _ _ _ _))))
      refine wpQuiet_nil ?_;intro W4 hW4;have E4:Ext wr W4:=by
       obtain⟨x,rfl⟩:=hW4;exact(Ext.refl _).grow x
      clear hW4;obtain⟨hcW4,hfW4,hzW4⟩:=ext_facts E4;go_wp2_with fail;go_ret;exact⟨by rw[chosen_bad hlt Hf.out];rfl,(E.trans E4)⟩
  ·obtain rfl:k=l.length:=by omega
   go_wp2_with fail;go_ret;exact⟨by rw[chosen_good Hj.out];rfl,E⟩
end Go.Proofs.YtojolpbpjimfgaaGreatDoor
