/- Texts of the proof: RLine, RLink. -/
import Derived.Test.YtojolpbpjimfgaaGreatDoorZy18
import Derived.Test.YtojolpbpjimfgaaGreatDoorZy19
import Derived.Test.YtojolpbpjimfgaaGreatDoorZy20
set_option maxHeartbeats 16000000
set_option maxRecDepth 100000
namespace Go.Proofs.YtojolpbpjimfgaaGreatDoor
open Go.RowKit
theorem rStrong_c(s:Int)(h:s=1∨s=3∨s=5)(w:World):Calls Tryz.prog 205 #[.int .u8 s] w fun e w'=>e = .returned (.int .i64 (strongS s))∧Ext w w':=by
 rcases h with rfl|rfl|rfl
 all_goals
  obtain⟨W1,hW1,E1,B1,hz1⟩:=mk_ w #[.int .i64 0,.int .i64 2,.int .i64 0,.int .i64 3,.int .i64 0,.int .i64 5] 3;have b1:=B1.cell;go_enter Tryz.func205,Tryz.ntmps205;go_wp2_with fail;go_ret;exact⟨rfl,E1⟩
theorem rLine_c(ax ay az:Int)(ad:Nat)(as_ bx by_ bz:Int)(bd:Nat)(bs_:Int)(w:World)(ha:ad<6)(hb:bd<6) :
  Calls Tryz.prog 206 #[.agg #[.int .i64 ax,.int .i64 ay,.int .i64 az,.int .u8 ad,.int .u8 as_],.agg #[.int .i64 bx,.int .i64 by_,.int .i64 bz,.int .u8 bd,.int .u8 bs_]] w fun e w'=>e = .returned (.bool (lineB ⟨⟨ax,ay,az⟩,ad,as_⟩ ⟨⟨bx,by_,bz⟩,bd,bs_⟩))∧Ext w w':=by
 obtain⟨W1,hW1,E1,B1,hz1⟩:=mk_ w #[.int .i64 ax,.int .i64 ay,.int .i64 az,.int .u8 ad,.int .u8 as_] 137;obtain⟨W2,hW2,E2,B2,hz2⟩:=mk_ W1 #[.int .i64 bx,.int .i64 by_,.int .i64 bz,.int .u8 bd,.int .u8 bs_] 137;have b1:=(B1.ext E2).cell;have b2:=B2.cell;have E12:=E1.trans E2;clear hz1 hz2;obtain⟨t,ht⟩:=nm (lineB ⟨⟨ax,ay,az⟩,ad,as_⟩ ⟨⟨bx,by_,bz⟩,bd,bs_⟩);have Ht:=h_ ht;rw[ht];have hI:=h_ (lineB_iff (a:=⟨⟨ax,ay,az⟩,ad,as_⟩) (b:=⟨⟨bx,by_,bz⟩,bd,bs_⟩));obtain⟨p,hp⟩:=nm ((ad:Int).tdiv 2);obtain⟨q,hq⟩:=nm ((bd:Int).tdiv 2);have ep:=Int.tdiv_eq_ediv_of_nonneg (a:=(ad:Int)) (b:=2) (by omega);have eq:=Int.tdiv_eq_ediv_of_nonneg (a:=(bd:Int)) (b:=2) (by omega);rw[hp] at ep;rw[hq] at eq;have p0:0≤p:=by omega
 have p2:p≤2:=by omega
 have q0:0≤q:=by omega
 have q2:q≤2:=by omega
 have Hp:=h_ ep;have Hq:=h_ eq;clear ht ep eq;by_cases h1:p=q;rotate_left
 ·have h1':(p != q)=true:=by simpa using h1
  go_enter Tryz.func206,Tryz.ntmps206;go_wp2_with fail;go_ret;refine⟨?_,E12⟩;have h1:=hI.out
  try simp only at h1
  rw[Ht.out,←Hp.out,←Hq.out] at h1;cases t
  ·rfl
  ·exfalso;have h2:=h1.1 rfl;omega
 subst h1;have e:p=0∨p=1∨p=2:=by omega
 rcases e with rfl|rfl|rfl
 ·by_cases e1:ay=by_;rotate_left
  ·have g1:(ay==by_)=false:=by simpa using e1
   have K1:=h_ e1;clear e1;go_enter Tryz.func206,Tryz.ntmps206;go_wp2_with fail;go_ret;refine⟨?_,E12⟩;have h1:=hI.out
   try simp only at h1
   rw[Ht.out,←Hp.out,←Hq.out] at h1;have K1:=K1.out;cases t
   ·first
    | rfl
    | (exfalso;have h2:=h1.2 (by omega);cases h2)
   ·first
    | rfl
    | (exfalso;have h2:=h1.1 rfl;omega)
  ·have g1:(ay==by_)=true:=by simpa using e1
   have K1:=h_ e1;clear e1;by_cases e2:az=bz
   ·have g2:(az==bz)=true:=by simpa using e2
    have K2:=h_ e2;clear e2;go_enter Tryz.func206,Tryz.ntmps206;go_wp2_with fail;go_ret;refine⟨?_,E12⟩;have h1:=hI.out
    try simp only at h1
    rw[Ht.out,←Hp.out,←Hq.out] at h1;have K1:=K1.out;have K2:=K2.out;cases t
    ·first
     | rfl
     | (exfalso;have h2:=h1.2 (by omega);cases h2)
    ·first
     | rfl
     | (exfalso;have h2:=h1.1 rfl;omega)
   ·have g2:(az==bz)=false:=by simpa using e2
    have K2:=h_ e2;clear e2;go_enter Tryz.func206,Tryz.ntmps206;go_wp2_with fail;go_ret;refine⟨?_,E12⟩;have h1:=hI.out
    try simp only at h1
    rw[Ht.out,←Hp.out,←Hq.out] at h1;have K1:=K1.out;have K2:=K2.out;cases t
    ·first
     | rfl
     | (exfalso;have h2:=h1.2 (by omega);cases h2)
    ·first
     | rfl
     | (exfalso;have h2:=h1.1 rfl;omega)
 ·by_cases e1:ax=bx;rotate_left
  ·have g1:(ax==bx)=false:=by simpa using e1
   have K1:=h_ e1;clear e1;go_enter Tryz.func206,Tryz.ntmps206;go_wp2_with fail;go_ret;refine⟨?_,E12⟩;have h1:=hI.out
   try simp only at h1
   rw[Ht.out,←Hp.out,←Hq.out] at h1;have K1:=K1.out;cases t
   ·first
    | rfl
    | (exfalso;have h2:=h1.2 (by omega);cases h2)
   ·first
    | rfl
    | (exfalso;have h2:=h1.1 rfl;omega)
  ·have g1:(ax==bx)=true:=by simpa using e1
   have K1:=h_ e1;clear e1;by_cases e2:az=bz
   ·have g2:(az==bz)=true:=by simpa using e2
    have K2:=h_ e2;clear e2;go_enter Tryz.func206,Tryz.ntmps206;go_wp2_with fail;go_ret;refine⟨?_,E12⟩;have h1:=hI.out
    try simp only at h1
    rw[Ht.out,←Hp.out,←Hq.out] at h1;have K1:=K1.out;have K2:=K2.out;cases t
    ·first
     | rfl
     | (exfalso;have h2:=h1.2 (by omega);cases h2)
    ·first
     | rfl
     | (exfalso;have h2:=h1.1 rfl;omega)
   ·have g2:(az==bz)=false:=by simpa using e2
    have K2:=h_ e2;clear e2;go_enter Tryz.func206,Tryz.ntmps206;go_wp2_with fail;go_ret;refine⟨?_,E12⟩;have h1:=hI.out
    try simp only at h1
    rw[Ht.out,←Hp.out,←Hq.out] at h1;have K1:=K1.out;have K2:=K2.out;cases t
    ·first
     | rfl
     | (exfalso;have h2:=h1.2 (by omega);cases h2)
    ·first
     | rfl
     | (exfalso;have h2:=h1.1 rfl;omega)
 ·by_cases e1:ax=bx;rotate_left
  ·have g1:(ax==bx)=false:=by simpa using e1
   have K1:=h_ e1;clear e1;go_enter Tryz.func206,Tryz.ntmps206;go_wp2_with fail;go_ret;refine⟨?_,E12⟩;have h1:=hI.out
   try simp only at h1
   rw[Ht.out,←Hp.out,←Hq.out] at h1;have K1:=K1.out;cases t
   ·first
    | rfl
    | (exfalso;have h2:=h1.2 (by omega);cases h2)
   ·first
    | rfl
    | (exfalso;have h2:=h1.1 rfl;omega)
  ·have g1:(ax==bx)=true:=by simpa using e1
   have K1:=h_ e1;clear e1;by_cases e2:ay=by_
   ·have g2:(ay==by_)=true:=by simpa using e2
    have K2:=h_ e2;clear e2;go_enter Tryz.func206,Tryz.ntmps206;go_wp2_with fail;go_ret;refine⟨?_,E12⟩;have h1:=hI.out
    try simp only at h1
    rw[Ht.out,←Hp.out,←Hq.out] at h1;have K1:=K1.out;have K2:=K2.out;cases t
    ·first
     | rfl
     | (exfalso;have h2:=h1.2 (by omega);cases h2)
    ·first
     | rfl
     | (exfalso;have h2:=h1.1 rfl;omega)
   ·have g2:(ay==by_)=false:=by simpa using e2
    have K2:=h_ e2;clear e2;go_enter Tryz.func206,Tryz.ntmps206;go_wp2_with fail;go_ret;refine⟨?_,E12⟩;have h1:=hI.out
    try simp only at h1
    rw[Ht.out,←Hp.out,←Hq.out] at h1;have K1:=K1.out;have K2:=K2.out;cases t
    ·first
     | rfl
     | (exfalso;have h2:=h1.2 (by omega);cases h2)
    ·first
     | rfl
     | (exfalso;have h2:=h1.1 rfl;omega)
def KnbV(w:World)(v:Value)(n:Nat)(l:List Knb):Prop:= ∃b,w.ownsRow b 137 5 v n (l.map Knb.cs).flatten
theorem KnbV.ext{w w':World}{v:Value}{n:Nat}{l:List Knb}(h:KnbV w v n l)(E:Ext w w'):KnbV w' v n l:=by
 obtain⟨b,h⟩:=h;exact⟨b,own_ext h E⟩
theorem KnbV.grown{w w':World}{v:Value}{n:Nat}{l:List Knb}(h:KnbV w v n l){b:Nat}{e:TypeId}{sz:Nat}{u:Value}{m:Nat}{xs:List Value}(own:w.ownsRow b e sz u m xs)(hg:w.grownBy w' u.ownBlock)(hne:137≠e):KnbV w' v n l:=by
 obtain⟨b,h⟩:=h;exact⟨b,ownGrown h hg (ownApart h own hne)⟩
theorem KnbV.slice{w:World}{v:Value}{n:Nat}{l:List Knb}(h:KnbV w v n l)(hn:l.length=n): ∃A cap,v = .slice A n cap∧SliceIs w A n cap 5 (l.map Knb.cs):=by
 obtain⟨b,h⟩:=h;obtain⟨A,cap,h1,h2,-⟩:=own_slice0 (knbs_wide _) (by rw[List.length_map];exact hn) h;exact⟨A,cap,h1,h2⟩
theorem KnbV.at_{w:World}{A:Option Addr}{n cap:Nat}{l:List Knb}(h:KnbV w (.slice A n cap) n l)(hn:l.length=n){q:Nat}(hq:q<n): ∃b off,A=some ⟨b,off,none⟩∧w.cell? ⟨b,off+q*5,none⟩=some (.int .i64 (knbAt l q).at_.x)∧w.cell? ⟨b,off+q*5+1,none⟩=some (.int .i64 (knbAt l q).at_.y) ∧
  w.cell? ⟨b,off+q*5+2,none⟩=some (.int .i64 (knbAt l q).at_.z)∧w.cell? ⟨b,off+q*5+3,none⟩=some (.int .u8 (knbAt l q).dir)∧w.cell? ⟨b,off+q*5+4,none⟩=some (.int .u8 (knbAt l q).sort):=by
 obtain⟨A',cap',he,hs⟩:=h.slice hn;cases he;obtain⟨b,off,hA,hb,hc⟩:=hs.cells (by omega);have hg:l[q]? = some (l[q]'(by omega)):=List.getElem?_eq_getElem _;have hr:(l.map Knb.cs)[q]? = some (knbAt l q).cs:=by rw[List.getElem?_map,hg,knbAt_eq hg];rfl
 exact⟨b,off,hA,hc q _ hr 0 _ rfl,hc q _ hr 1 _ rfl,hc q _ hr 2 _ rfl,hc q _ hr 3 _ rfl,hc q _ hr 4 _ rfl⟩
structure Lk8(W0:World)(vQ vI vK vb vb':Value)(G:Addr)(B:Option Addr)(bn cb:Nat)(p1 p2:Addr)(n1 n2:Nat)(L1 L2:List Knb)(L:Nat→Bool)(us:Nat→Value)(w:World):Prop where
 x:Ext W0 w
 f0:L 0=true→us 0=vQ
 f1:L 1=true→us 1 = .pointer (some G)
 f2:L 2=true→us 2 = .slice B bn cb
 f3:L 3=true→us 3=vI
 f4:L 4=true→us 4 = .pointer (some p1)
 f5:L 5=true→us 5=vb
 f6:L 6=true→KnbV w (us 6) n1 L1
 f7:L 7=true→us 7=vQ
 f8:L 8=true→us 8 = .pointer (some G)
 f9:L 9=true→us 9 = .slice B bn cb
 f10:L 10=true→us 10=vK
 f11:L 11=true→us 11 = .pointer (some p2)
 f12:L 12=true→us 12=vb'
 f13:L 13=true→KnbV w (us 13) n2 L2
 f14:L 14=true→KnbV w (us 14) n1 L1
 f15:L 15=true→KnbV w (us 15) n2 L2
def LnkPost(l:List Lnk)(w:World)(e:Ending)(w':World):Prop:= ∃A cap,e = .returned (.slice A l.length cap)∧Links w' A cap l∧Ext w w'
theorem lk_bound{a b c d n m:Nat}(ha:a≤n*(n*(m*m)))(hb:b≤n*(m*m))(hc:c≤m*m)(hd:d≤m)(hn:n≤40)(hm:m≤48):a+b+c+d≤5000000:=by
 have h1:m*m≤48*48:=Nat.mul_le_mul hm hm;have h2:n*(m*m)≤40*(48*48):=Nat.mul_le_mul hn h1;have h3:n*(n*(m*m))≤40*(40*(48*48)):=Nat.mul_le_mul hn h2;omega
theorem rLinked_c(qs:List (Knd×KAt))(QA:Option Addr)(qc:Nat)(bs:List Brk)(B:Option Addr)(cb:Nat)(w:World)(hk:Kinds w QA qc qs)(hb:Bricks w B cb bs)(hcm:checkErr (qs.map (·.1)) bs=0) :
  Calls Tryz.prog 72 #[.slice QA qs.length qc,.agg #[.slice B bs.length cb]] w (LnkPost (linkL (qs.map (·.1)) bs) w):=by
 have hf:=mfine_of hk hb.2 (check_model hcm);have hft:=fit_of hk hb.2 hcm;have hbn:=hf.n;obtain⟨W1,hW1,E1,B1,hz1⟩:=mk_ w #[.slice B bs.length cb] 25;have b1:=B1.cell;obtain⟨T,hT⟩:=nm w.heap.size;have HZ:=h_ (show W1.heap.size=T+1 by omega);rw[hT] at B1;clear hz1;have HT:=h_ hT;have PL:=h_ (fun(b:Brk) (hm:b∈bs)=>hf.b b hm);have PLc:=h_ (fun(W:World) (E:Ext w W) (i tn:Nat) (k:Knd) (p:KAt) (x y z c:Int) (hi:qs[i]? = some (k,p)) (hkf:k.Fine) (hkn:k.knobs.length≤48) (ht:tn<24) (hp:Pt.in_ 1000 ⟨x,y,z⟩) =>
  rKnobbedO_c qs QA qc i k.cells k.knobs k.weight p.A p.ca p.B p.cb hi tn x y z c W (hk.ext E) (Nat.le_trans hkn (by omega)) hkf.kok ht (hp.ok (by omega)))
 obtain⟨nq,hnq⟩:=nm qs.length;obtain⟨nb,hnb⟩:=nm bs.length;rw[hnq] at PLc ⊢;rw[hnb] at hbn ⊢;have Hnb:=h_ hnb;rw[hnb] at B1 hW1 b1;rw[hT] at b1;have HB:=h_ hb;obtain⟨ks,hks⟩:=nm (qs.map (·.1));have Hks:=h_ hks;rw[hks] at hft ⊢;have HF:=h_ hft;have HL:=h_ (show(linkL ks bs).length≤5000000 from by
  have h1:=lkA_len (ks:=ks) (bs:=bs) (m:=48) (fun i hi=>hft.klen hi) bs.length (Nat.le_refl _);have:=lk_bound h1 (Nat.zero_le _) (Nat.zero_le _) (Nat.zero_le _) (by rw[hnb];exact hbn) (Nat.le_refl _);unfold linkL
  omega)
 clear hnq hnb hks hf hk hb hT hcm hft;go_enter Tryz.func72,Tryz.ntmps72;go_wp2_with fail;rw[HT.out];obtain⟨i0,hi0,hz0,hz1,hz2⟩:=info_parts infoLnk;clear hW1 b1;go_loopw [5,6] (fun v ii wr=> ∃(j:Nat) (u:Value),j≤nb∧ii = .int .i64 j∧u=v∧Ext W1 wr∧wr.ownsRow (T+1) 135 5 u (lkA ks bs j).length ((lkA ks bs j).map Lnk.cs).flatten) (fun _ ii _=>nb-(intOf ii).toNat)
 case atStart=>exact⟨0,_,by omega,rfl,rfl,Ext.refl W1,World.ownsRow_nil _ _ _ _⟩
 case round =>
  obtain⟨j,v,hj,rfl,rfl,Er,own⟩:=hrel;have b1:=(B1.ext Er).cell;by_cases hlt:j<nb
  ·obtain⟨g,off,⟨kd1,⟨x1,y1,z1⟩,t1,c1⟩,hgo1,hq,-,hg,-,-,-,-,-,-⟩:=(HB.out.ext E1).at_ (k:=j) (by rw[Hnb.out];exact hlt);obtain⟨i1,tn1,kk1,p1,e1,e2,htn,hqi,hkf,hpt,-⟩:=PL.out _ (List.mem_of_getElem? hq);simp only at e1 e2 hpt;subst e1 e2;have hbc:bknobs ks (brkAt bs j)=placeK kk1.knobs tn1 ⟨x1,y1,z1⟩:=by rw[brkAt_eq hq,←Hks.out];exact bknobs_is rfl rfl hqi
   have hkl:=HF.out.klen (j:=j) (by rw[Hnb.out];exact hlt);rw[hbc,placeK_len] at hkl;have P1:=h_ (fun W E=>PLc.out W E i1 tn1 kk1 p1 x1 y1 z1 c1 hqi hkf hkl htn hpt);obtain⟨L1,hL⟩:=nm (placeK kk1.knobs tn1 ⟨x1,y1,z1⟩);obtain⟨n1,hn⟩:=nm kk1.knobs.length;have Hl1:=h_ (show L1.length=n1 by rw[←hL,placeK_len,hn]);rw[hL] at P1 hbc;rw[hn] at P1 hkl;have Hbc1:=h_ hbc;have Hn1:=h_ hkl;have HM1:=h_ (fun q (hq:q<n1)=>HF.out.meets (j:=j) (q:=q) (by rw[Hnb.out];exact hlt) (by rw[hbc,Hl1.out];exact hq));rw[hbc] at HM1;have hr1:(bs.map Brk.cs)[j]? = some [.int .i64 i1,.int .i64 x1,.int .i64 y1,.int .i64 z1,.int .u8 tn1,.int .u8 c1]:=by rw[List.getElem?_map,hq];rfl
   clear hq hqi hkf hpt htn hL hn hbc hkl;subst hgo1;have hc:=SliceIs.cells (HB.out.ext E1).1 (by rw[Hnb.out];omega);obtain⟨g',off',hgo,-,hcell⟩:=hc;cases hgo;have Hc1:=h_ (fun k u (h:([.int .i64 i1,.int .i64 x1,.int .i64 y1,.int .i64 z1,.int .u8 tn1,.int .u8 c1]:List Value)[k]? = some u)=>hcell _ _ hr1 k u h);have Hcell:=h_ hcell;clear hcell hr1;go_wp2_with fail;have Hown:=h_ own;clear b1;go_loopw [5,7] (fun v ii wr'=> ∃(m:Nat) (u:Value),j+1≤m∧m≤nb∧ii = .int .i64 m∧u=v∧Ext W1 wr'∧wr'.ownsRow (T+1) 135 5 u (lkA ks bs j++lkB ks bs j m).length ((lkA ks bs j++lkB ks bs j m).map Lnk.cs).flatten) (fun _ ii _=>nb-(intOf ii).toNat)
   case atStart=>exact⟨j+1,_,by omega,by omega,by go_num,rfl,Er,by rw[lkB_start,List.append_nil];exact own⟩
   case round =>
    clear own Hown Er;obtain⟨m,v2,hjm,hm,rfl,rfl,Er,own⟩:=hrel;have b1:=(B1.ext Er).cell;by_cases hmt:m<nb
    ·obtain⟨g,off,⟨kd2,⟨x2,y2,z2⟩,t2,c2⟩,hgo2,hq,-,hg,-,-,-,-,-,-⟩:=(HB.out.ext E1).at_ (k:=m) (by rw[Hnb.out];exact hmt);obtain⟨i2,tn2,kk2,p2,e1,e2,htn,hqi,hkf,hpt,-⟩:=PL.out _ (List.mem_of_getElem? hq);simp only at e1 e2 hpt;subst e1 e2;have hbc:bknobs ks (brkAt bs m)=placeK kk2.knobs tn2 ⟨x2,y2,z2⟩:=by rw[brkAt_eq hq,←Hks.out];exact bknobs_is rfl rfl hqi
     have hkl:=HF.out.klen (j:=m) (by rw[Hnb.out];exact hmt);rw[hbc,placeK_len] at hkl;have P2:=h_ (fun W E=>PLc.out W E i2 tn2 kk2 p2 x2 y2 z2 c2 hqi hkf hkl htn hpt);obtain⟨L2,hL⟩:=nm (placeK kk2.knobs tn2 ⟨x2,y2,z2⟩);obtain⟨n2,hn⟩:=nm kk2.knobs.length;have Hl2:=h_ (show L2.length=n2 by rw[←hL,placeK_len,hn]);rw[hL] at P2 hbc;rw[hn] at P2 hkl;have Hbc2:=h_ hbc;have Hn2:=h_ hkl;have HM2:=h_ (fun q (hq:q<n2)=>HF.out.meets (j:=m) (q:=q) (by rw[Hnb.out];exact hmt) (by rw[hbc,Hl2.out];exact hq));rw[hbc] at HM2;have hr1:(bs.map Brk.cs)[m]? = some [.int .i64 i2,.int .i64 x2,.int .i64 y2,.int .i64 z2,.int .u8 tn2,.int .u8 c2]:=by rw[List.getElem?_map,hq];rfl
     clear hq hqi hkf hpt htn hL hn hbc hkl;cases hgo2;have Hc2:=h_ (fun k u (h:([.int .i64 i2,.int .i64 x2,.int .i64 y2,.int .i64 z2,.int .u8 tn2,.int .u8 c2]:List Value)[k]? = some u)=>Hcell.out _ _ hr1 k u h);have j1:(0:Int)≤j:=by omega
     have j2:(j:Int)<nb:=by omega
     have m1:(0:Int)≤m:=by omega
     have m2:(m:Int)<nb:=by omega
     have HB1:=h_ (B1.ext Er);have HEr:=h_ Er;have HE1:=h_ E1;have Hown:=h_ own;have hzr:=Er.size;clear hr1
     go_upto_region 8 with(fail)
     clear b1 own;refine wp_region_by (Lk8 wr (.slice QA nq qc) (.int .i64 j) (.int .i64 m) (.agg #[.int .i64 i1,.int .i64 x1,.int .i64 y1,.int .i64 z1,.int .u8 tn1,.int .u8 c1]) (.agg #[.int .i64 i2,.int .i64 x2,.int .i64 y2,.int .i64 z2,.int .u8 tn2,.int .u8 c2]) ⟨T,0,none⟩ (some ⟨g,off,none⟩) nb cb ⟨g,off+j*6,none⟩ ⟨g,off+m*6,none⟩ n1 n2 L1 L2) (by kernel_rfl) (by kernel_rfl) (by kernel_rfl) (fun us=>⟨(Ext.refl _).drew,(nofun),(nofun),(nofun),(nofun),(nofun),(nofun),(nofun),(nofun),(nofun),(nofun),(nofun),(nofun),(nofun),(nofun),(nofun),(nofun)⟩) ⟨?_,?_,?_,?_,?_,?_,?_,?_,?_,?_,?_,?_,?_,?_,?_,?_,trivial⟩ ?_
     any_goals (intro L us wx K a ha hp hd hun hI hK;replace hp:=h_ hp;replace hd:=h_ hd;simp only[putAll,Act.put,zs,Nat.reduceAdd] at ha;subst ha;simp only[Act.put,zs] at hK)
     ·go_simp;exact hK _ _ {hI with f0:=fun _=>rfl}
     ·go_simp;exact hK _ _ {hI with f1:=fun _=>rfl}
     ·have bb:=(HB1.out.ext hI.x).cell;rw[hI.f1 (h_p hp 1)] at hK ⊢;go_simp;exact hK _ _ {hI with f2:=fun _=>rfl}
     ·go_simp;exact hK _ _ {hI with f3:=fun _=>rfl}
     ·rw[hI.f2 (h_p hp 2),hI.f3 (h_p hp 3)] at hK ⊢;go_simp;exact hK _ _ {hI with f4:=fun _=>rfl}
     ·have EX:=HEr.out.trans hI.x;have d0:=EX.cell (Hc1.out 0 _ rfl);have d1:=EX.cell (Hc1.out 1 _ rfl);have d2:=EX.cell (Hc1.out 2 _ rfl);have d3:=EX.cell (Hc1.out 3 _ rfl);have d4:=EX.cell (Hc1.out 4 _ rfl);have d5:=EX.cell (Hc1.out 5 _ rfl);simp only[Nat.add_zero] at d0;clear EX;rw[hI.f4 (h_p hp 4)] at hK ⊢;go_simp;exact hK _ _ {hI with f5:=fun _=>rfl}
     ·have EX:=h_ ((HE1.out.trans HEr.out).trans hI.x);rw[hI.f0 (h_p hp 0),hI.f5 (h_p hp 5)] at hK ⊢;go_simp;go_at_call 101;refine(P1.out _ EX.out).mono ?_;rintro e wn ⟨vv,rfl,bb,hbb,own1,En⟩;go_simp;refine hK _ _ ?_;refine {hI with x:=hI.x.trans En,f6:= ?_,f13:= ?_,f14:= ?_,f15:= ?_}<;>(first|exact fun h=>(hI.f6 h).ext En|exact fun h=>own_ext (hI.f6 h) En|exact fun h=>(hI.f13 h).ext En|exact fun h=>own_ext (hI.f13 h) En|exact fun h=>(hI.f14 h).ext En|exact fun h=>own_ext (hI.f14 h) En|exact fun h=>(hI.f15 h).ext En|exact fun h=>own_ext (hI.f15 h) En|exact fun _=>rfl|skip)
      all_goals exact fun _=>⟨bb,own1⟩
     ·go_simp;exact hK _ _ {hI with f7:=fun _=>rfl}
     ·go_simp;exact hK _ _ {hI with f8:=fun _=>rfl}
     ·have bb:=(HB1.out.ext hI.x).cell;rw[hI.f8 (h_p hp 8)] at hK ⊢;go_simp;exact hK _ _ {hI with f9:=fun _=>rfl}
     ·go_simp;exact hK _ _ {hI with f10:=fun _=>rfl}
     ·rw[hI.f9 (h_p hp 9),hI.f10 (h_p hp 10)] at hK ⊢;go_simp;exact hK _ _ {hI with f11:=fun _=>rfl}
     ·have EX:=HEr.out.trans hI.x;have d0:=EX.cell (Hc2.out 0 _ rfl);have d1:=EX.cell (Hc2.out 1 _ rfl);have d2:=EX.cell (Hc2.out 2 _ rfl);have d3:=EX.cell (Hc2.out 3 _ rfl);have d4:=EX.cell (Hc2.out 4 _ rfl);have d5:=EX.cell (Hc2.out 5 _ rfl);simp only[Nat.add_zero] at d0;clear EX;rw[hI.f11 (h_p hp 11)] at hK ⊢;go_simp;exact hK _ _ {hI with f12:=fun _=>rfl}
     ·have EX:=h_ ((HE1.out.trans HEr.out).trans hI.x);rw[hI.f7 (h_p hp 7),hI.f12 (h_p hp 12)] at hK ⊢;go_simp;go_at_call 101;refine(P2.out _ EX.out).mono ?_;rintro e wn ⟨vv,rfl,bb,hbb,own1,En⟩;go_simp;refine hK _ _ ?_;refine {hI with x:=hI.x.trans En,f6:= ?_,f13:= ?_,f14:= ?_,f15:= ?_}<;>(first|exact fun h=>(hI.f6 h).ext En|exact fun h=>own_ext (hI.f6 h) En|exact fun h=>(hI.f13 h).ext En|exact fun h=>own_ext (hI.f13 h) En|exact fun h=>(hI.f14 h).ext En|exact fun h=>own_ext (hI.f14 h) En|exact fun h=>(hI.f15 h).ext En|exact fun h=>own_ext (hI.f15 h) En|exact fun _=>rfl|skip)
      all_goals exact fun _=>⟨bb,own1⟩
     ·have u6:=hI.f6 (h_p hp 6);go_simp;refine hK _ _ ?_;refine {hI with f14:= ?_}<;>(first|exact fun _=>rfl|skip);exact fun _=>u6
     ·have u13:=hI.f13 (h_p hp 13);go_simp;refine hK _ _ ?_;refine {hI with f15:= ?_}<;>(first|exact fun _=>rfl|skip);exact fun _=>u13
     intro L us wx hall hI;have S1:=hI.f14 (hall 14 (by simp));have S2:=hI.f15 (hall 15 (by simp));have EX:=hI.x;obtain⟨A1,k1,e14,-⟩:=S1.slice Hl1.out;obtain⟨A2,k2,e15,-⟩:=S2.slice Hl2.out;rw[e14] at S1;rw[e15] at S2;simp only[putAll,Act.put,zs,Nat.reduceAdd,e14,e15];clear hall hI e14 e15;have own:=own_ext Hown.out EX;have ErX:=HEr.out.trans EX;go_wp2_with fail;go_loopw [5,10] (fun v ii wr'=> ∃(q:Nat) (u:Value),q≤n1∧ii = .int .i64 q∧u=v∧Ext W1 wr'∧wr'.ownsRow (T+1) 135 5 u (lkA ks bs j++lkB ks bs j m++lkI L1 L2 j m q).length ((lkA ks bs j++lkB ks bs j m++lkI L1 L2 j m q).map Lnk.cs).flatten∧KnbV wr' (.slice A1 n1 k1) n1 L1∧KnbV wr' (.slice A2 n2 k2) n2 L2) (fun _ ii _=>n1-(intOf ii).toNat)
     case atStart=>exact⟨0,_,by omega,rfl,rfl,ErX,by rw[show lkI L1 L2 j m 0 = [] from rfl,List.append_nil];exact own,S1,S2⟩
     case round =>
      clear own S1 S2 ErX Hown;obtain⟨q,v3,hq,rfl,rfl,Er,own,S1,S2⟩:=hrel;have hZl:(lkA ks bs j++lkB ks bs j m++lkI L1 L2 j m q).length≤4000000:=by
       rw[List.length_append,List.length_append];have hk48:=fun i (hi:i<bs.length)=>HF.out.klen hi;have h1:=lkA_len (ks:=ks) (bs:=bs) (m:=48) hk48 j (by rw[Hnb.out];exact hj);have h2:=lkB_len (ks:=ks) (bs:=bs) (m:=48) hk48 (a:=j) (by rw[Hnb.out];exact hlt) m (by rw[Hnb.out];exact hm);have h3:=lkI_len L1 L2 j m q;have h4:q*L2.length≤48*48:=Nat.mul_le_mul (Nat.le_trans hq Hn1.out) (by rw[Hl2.out];exact Hn2.out);have h5:j*(bs.length*(48*48))≤40*(40*(48*48)):=Nat.mul_le_mul (by omega) (Nat.mul_le_mul (by rw[Hnb.out];exact hbn) (Nat.le_refl _));have h6:m*(48*48)≤40*(48*48):=Nat.mul_le_mul (by omega) (Nat.le_refl _);omega
      by_cases hqt:q<n1
      ·have Hsq:=h_ (lkI_succ L1 L2 j m q);obtain⟨Z,hZ⟩:=nm (lkA ks bs j++lkB ks bs j m++lkI L1 L2 j m q);rw[hZ] at own hZl;have HZ':=h_ hZ;clear hZ;have hM:=HM1.out q hqt;have hn240:=Hn2.out;have hn148:=Hn1.out;go_wp2_with fail;go_loopw [5,11] (fun v ii wr'=> ∃(r:Nat) (u:Value),r≤n2∧ii = .int .i64 r∧u=v∧Ext W1 wr'∧wr'.ownsRow (T+1) 135 5 u (Z++lkC L1 L2 j m q r).length ((Z++lkC L1 L2 j m q r).map Lnk.cs).flatten∧KnbV wr' (.slice A1 n1 k1) n1 L1∧KnbV wr' (.slice A2 n2 k2) n2 L2) (fun _ ii _=>n2-(intOf ii).toNat)
       case atStart=>exact⟨0,_,by omega,rfl,rfl,Er,by rw[show lkC L1 L2 j m q 0 = [] from rfl,List.append_nil];exact own,S1,S2⟩
       case round =>
        clear own S1 S2 Er;obtain⟨r,v4,hr,rfl,rfl,Er,own,S1,S2⟩:=hrel;have hlC:=lkC_len L1 L2 j m q r;by_cases hrt:r<n2
        ·obtain⟨g1,o1,rfl,c0,c1,c2,c3,c4⟩:=S1.at_ Hl1.out hqt;obtain⟨g2,o2,rfl,d0,d1,d2,d3,d4⟩:=S2.at_ Hl2.out hrt;have hMr:=HM2.out r hrt;have Hcs:=h_ (lkC_succ L1 L2 j m q r);obtain⟨kq,hkq⟩:=nm (knbAt L1 q);obtain⟨kr,hkr⟩:=nm (knbAt L2 r);rw[hkq] at c0 c1 c2 c3 c4 hM;rw[hkr] at d0 d1 d2 d3 d4 hMr;obtain⟨qx,qy,qz,qd,qs',rfl,hM'⟩:=hM.nat;obtain⟨rx,ry,rz,rd,rs',rfl,hMr'⟩:=hMr.nat;simp only at c0 c1 c2 c3 c4 d0 d1 d2 d3 d4;rw[hkq,hkr] at Hcs;have RM:=h_ (fun W=>rMeet_c qx qy qz qd qs' rx ry rz rd rs' W hM' hMr');have RO:=h_ (fun W=>rodd_c qs' ⟨hM'.s1,hM'.s6⟩ W);have hod:=oddS_in ⟨hM'.s1,hM'.s6⟩;simp only at hod Hcs;obtain⟨t,ht⟩:=nm (meetB ⟨⟨qx,qy,qz⟩,qd,qs'⟩ ⟨⟨rx,ry,rz⟩,rd,rs'⟩);rw[ht] at RM Hcs;obtain⟨od,hod'⟩:=nm (oddS qs');rw[hod'] at RO Hcs hod;have q0:(0:Int)≤q:=by omega
         have q1:(q:Int)<n1:=by omega
         have r0:(0:Int)≤r:=by omega
         have r1:(r:Int)<n2:=by omega
         have HM3:=h_ hM;clear hkq hkr ht hM' hMr' hMr hod' hM
         go_upto_region 15 with(fail)
         refine w_g ?_
         repeat (go_big_quiet_step ((go_at_call 102;exact quiet_ext (RM.out _))))
         refine wpQuiet_nil ?_;intro W5 hW5;have E5:Ext wr W5:=by
          obtain⟨x,rfl⟩:=hW5;exact(Ext.refl _).grow x
         clear hW5;obtain⟨hcW5,hfW5,hzW5⟩:=ext_facts E5;clear hcW5 hfW5 hzW5 d0 d1 d2 d3 d4;have Er5:=Er.trans E5;have own5:=own_ext own E5;have S15:=S1.ext E5;have S25:=S2.ext E5;cases t
         ·clear RM RO;go_wp2_with fail;go_roundw
          case rel=>exact⟨r+1,_,by omega,by go_num,rfl,Er5,by rw[Hcs.out];simpa using own5,S15,S25⟩
          case measure=>simp only[intOf];omega
         ·have c4':=E5.cell c4;have hlX:(Z++lkC L1 L2 j m q r).length+1≤maxLen:=by rw[List.length_append];unfold maxLen;omega
          have hby:((Z++lkC L1 L2 j m q r).length+1)*40≤140737488355328:=by rw[List.length_append];omega
          have hTx:T+1≤W5.heap.size:=by have:=Er5.size;have:=HZ.out;omega
          clear c0 c1 c2 c3 c4 RM own S1 S2;obtain⟨len,hlen⟩:=nm ((Z++lkC L1 L2 j m q r).length);rw[hlen] at own5 hlX hby;have Hlen:=h_ hlen;clear hlen;go_wp2_with fail;refine(RO.out _).mono ?_;rintro e W6 ⟨rfl,rfl⟩;go_wp2_with (at_builtin;refine wpList_append_one #[.int .i64 j,.int .i64 m,.int .i64 q,.int .i64 r,.int .u8 od] rfl (.tmp 63) (.tmp 75) 131 rfl (T+1) 135 135 i0 _ 5 40 Tryz.underlying131 hi0 hz0 hz1 hz2 rfl (by decide) _ _ _ _ rfl own5 rfl rfl (by simp[Value.oneCell']) hlX hby hTx ?_;intro g7 cap7 w7 own7 hg7);go_roundw
          case rel =>
           have ownA:=own_ext own5 ((Ext.refl W5).alloc (.cells #[.int .i64 j,.int .i64 m,.int .i64 q,.int .i64 r,.int .u8 od] 135));have EA:=(Ext.refl W5).alloc (.cells #[.int .i64 j,.int .i64 m,.int .i64 q,.int .i64 r,.int .u8 od] 135);refine⟨r+1,_,by omega,by go_num,rfl,(Er5.alloc _).grown hg7 (fun k hk=>by have:=(ownA.lt k hk).1;have:=HZ.out;omega),?_,(S15.ext EA).grown ownA hg7 (by decide),(S25.ext EA).grown ownA hg7 (by decide)⟩;rw[Hcs.out,if_true,←List.append_assoc];obtain⟨Y,hY⟩:=nm (Z++lkC L1 L2 j m q r);have hl:=Hlen.out;rw[hY] at own7 hl ⊢;rw[List.length_append,List.map_append,List.flatten_append,hl];exact own7
          case measure=>simp only[intOf];omega
        ·obtain rfl:r=n2:=by omega
         go_wp2_with fail;go_roundw
         case rel=>exact⟨q+1,_,by omega,by go_num,rfl,Er,by rw[Hsq.out,←List.append_assoc,HZ'.out,Hl2.out];exact own,S1,S2⟩
         case measure=>simp only[intOf];omega
      ·obtain rfl:q=n1:=by omega
       have hn148:=Hn1.out;have Hsb:=h_ (lkB_succ (ks:=ks) (bs:=bs) (a:=j) (n:=m) (by omega));rw[Hbc1.out,Hbc2.out,Hl1.out] at Hsb;go_wp2_with fail;go_roundw
       case rel=>exact⟨m+1,_,by omega,by omega,by go_num,rfl,Er,by rw[Hsb.out,←List.append_assoc];exact own⟩
       case measure=>simp only[intOf];omega
    ·obtain rfl:m=nb:=by omega
     go_wp2_with fail;go_roundw
     case rel=>exact⟨j+1,_,by omega,by go_num,rfl,Er,by rw[lkA_succ,Hnb.out];exact own⟩
     case measure=>simp only[intOf];omega
  ·obtain rfl:j=nb:=by omega
   go_wp2_with fail;go_ret;obtain⟨RA,rc,rfl,h1,-⟩:=own_slice0 (rows:=(lkA ks bs j).map Lnk.cs) (lnk_wide _) (by rw[List.length_map]) own;have e:lkA ks bs j=linkL ks bs:=by unfold linkL;rw[Hnb.out]
   rw[e] at h1;exact⟨RA,rc,by rw[e];rfl,h1,E1.trans Er⟩
end Go.Proofs.YtojolpbpjimfgaaGreatDoor
