/- Texts of the proof: Free, Must. -/
import Derived.Test.YtojolpbpjimfgaaGreatDoorZy1
import Derived.Test.YtojolpbpjimfgaaGreatDoorZy25
import Derived.Test.YtojolpbpjimfgaaGreatDoorZy29
import Derived.Test.YtojolpbpjimfgaaGreatDoorZy32
import Derived.Defers
import Derived.Recover
import Derived.WalkLawsBesides
import Derived.Laws.Pointers
set_option maxHeartbeats 16000000
set_option maxRecDepth 100000
namespace Go.Proofs.YtojolpbpjimfgaaGreatDoor
open Go.RowKit
theorem back6_c(d:Nat)(hd:d<6)(w:World) :
  Calls Tryz.prog 100 #[.int .i64 d] w fun e w'=>e = .returned (.agg #[.int .i64 (-(stepS d).x),.int .i64 (-(stepS d).y),.int .i64 (-(stepS d).z)])∧Ext w w':=by
 have hi: ∀(a b c:Int) (w:World),(Instr.index 234 (.agg #[.int .i64 a,.int .i64 0,.int .i64 0,.int .i64 0,.int .i64 b,.int .i64 0,.int .i64 0,.int .i64 0,.int .i64 c]) (.int .i64 0)).run Tryz.prog w = .ok (.agg #[.int .i64 a,.int .i64 0,.int .i64 0]) w:=fun _ _ _ _=>by kernel_rfl
 have hj: ∀(a b c:Int) (w:World),(Instr.index 234 (.agg #[.int .i64 a,.int .i64 0,.int .i64 0,.int .i64 0,.int .i64 b,.int .i64 0,.int .i64 0,.int .i64 0,.int .i64 c]) (.int .i64 1)).run Tryz.prog w = .ok (.agg #[.int .i64 0,.int .i64 b,.int .i64 0]) w:=fun _ _ _ _=>by kernel_rfl
 have hk: ∀(a b c:Int) (w:World),(Instr.index 234 (.agg #[.int .i64 a,.int .i64 0,.int .i64 0,.int .i64 0,.int .i64 b,.int .i64 0,.int .i64 0,.int .i64 0,.int .i64 c]) (.int .i64 2)).run Tryz.prog w = .ok (.agg #[.int .i64 0,.int .i64 0,.int .i64 c]) w:=fun _ _ _ _=>by kernel_rfl
 have e1:d=0∨d=1∨d=2∨d=3∨d=4∨d=5:=by omega
 rcases e1 with rfl|rfl|rfl|rfl|rfl|rfl
 all_goals
  go_enter Tryz.func100,Tryz.ntmps100
  go_wp2
  refine bodyPost_ret (v:= .agg #[.int .i64 (-(stepS _).x),.int .i64 (-(stepS _).y),.int .i64 (-(stepS _).z)]) ?_ rfl ⟨rfl,by apply_rules [Ext.refl,Ext.alloc]⟩;simp[results,Tryz.results100,go_sem,stepS]
theorem index6(f:Nat→Nat)(o:Nat)(ho:o<6)(w:World):(Instr.index 138 (.agg #[.int .u64 (f 0:Nat),.int .u64 (f 1:Nat),.int .u64 (f 2:Nat),.int .u64 (f 3:Nat),.int .u64 (f 4:Nat),.int .u64 (f 5:Nat)]) (.int .i64 (o:Int))).run Tryz.prog w = .ok (.int .u64 (f o:Nat)) w:=by
 refine step_cases (P:=fun o:Nat=>(Instr.index 138 (.agg #[.int .u64 (f 0:Nat),.int .u64 (f 1:Nat),.int .u64 (f 2:Nat),.int .u64 (f 3:Nat),.int .u64 (f 4:Nat),.int .u64 (f 5:Nat)]) (.int .i64 (o:Int))).run Tryz.prog w = .ok (.int .u64 (f o:Nat)) w) ?_ ?_ ?_ ?_ ?_ ?_ ho <;> kernel_rfl
theorem free6_c(m:MB)(p:PlV)(hm:List (Int×Bool))(z b d:Nat)(w:World)(hp:PlanAt w m p hm)(hM:MBAt w m)(h0:checkErr m.ks m.bs=0)(hlow:m.tab≤lowZ m.ks m.bs b)(hz:SetB m.bs.length z)(hb:b<m.bs.length)(hd:d<6) :
  Calls Tryz.prog 71 #[.pointer (some ⟨p.X,0,none⟩),.int .u64 z,.int .i64 b,.int .i64 d] w fun e w'=>e = .returned (.bool (freeB m.ks m.bs m.tab z b d))∧Ext w w':=by
 have hf:=hM.fit h0;have hnb:=hf.n;obtain⟨cg,coff,hCA⟩:=hp.addr (by omega);have HFit:=h_ (fit_join hf (z:=z) (d:=d) hb);have HJz:=h_ (fun o=>(joinF_set (n:=m.bs.length) (fun x h=>⟨(lnk_lt h).1,(lnk_lt h).2.1⟩) (l:=linkL m.ks m.bs) (fun x h=>h) b o).mono (show m.bs.length≤64 by omega) |>.lt);have HP:=h_ hp;have HZ:=h_ hz;have HZ2:=h_ hnb;have hzz:z<2 ^ 64:=(hz.mono (show m.bs.length≤64 by omega)).lt;have Hnear:=h_ (show ∀q∈bcells m.ks (brkAt m.bs b),Pt.in_ 1015 q from cells_near hM.k hM.b.2 (check_model h0) hb);have HLow:=h_ (fun(c:Pt) (hc:c∈bcells m.ks (brkAt m.bs b))=>Int.le_trans hlow (low_le hc));have Hcl:=h_ (show clen m.ks m.bs b≤24 from(clen_pos hM.k hM.b.2 (check_model h0) hb).2);have hxb:=hp.x;have r0:=hp.row hb hCA;have HR:=h_ (hp.r b hb);have c0:=hp.j.cell hb (b:=0) (by decide);have c1:=hp.j.cell hb (b:=1) (by decide);have c2:=hp.j.cell hb (b:=2) (by decide);have c3:=hp.j.cell hb (b:=3) (by decide);have c4:=hp.j.cell hb (b:=4) (by decide);have c5:=hp.j.cell hb (b:=5) (by decide);simp only[Nat.add_zero] at c0;obtain⟨J,hJ⟩:=nm (joinF m.ks m.bs (linkL m.ks m.bs) b);rw[hJ] at c0 c1 c2 c3 c4 c5 HFit HJz;obtain⟨nb,hnbe⟩:=nm m.bs.length;have Hnb:=h_ hnbe;rw[hnbe] at hxb hb hnb;obtain⟨L,hL⟩:=nm (bcells m.ks (brkAt m.bs b));obtain⟨n,hn⟩:=nm (clen m.ks m.bs b);have HL:=h_ (show L.length=n by rw[←hL,←hn];rfl);have HLe:=h_ hL;have Hn:=h_ hn;rw[hn] at r0 Hcl HR;have Hnear2:=h_ (show ∀c∈L,Pt.in_ 1015 c from fun c hc=>Hnear.out c (by rw[hL];exact hc));have HLow2:=h_ (show ∀c∈L,m.tab≤c.z from fun c hc=>HLow.out c (by rw[hL];exact hc));rw[hL] at HR;rw[hCA] at hxb;have hx:=hxb.cell;have HXB:=h_ hxb;have HR0:=h_ r0;have Hix:=h_ (index6 J);have hb0:(0:Int)≤b:=by omega
 have hb1:(b:Int)<nb:=by omega
 clear hxb hJ hnbe hL hn hp hM h0 hlow hz hf hCA Hnear HLow;have hcl:=Hcl.out;go_enter Tryz.func71,Tryz.ntmps71;go_wp2_with fail;clear c0 c1 c2 c3 c4 c5;go_loopw [23] (fun ii wr=> ∃o:Nat,o≤6∧ii = .int .i64 o∧Ext w wr∧Hid (∀k,k<o→k≠d→J k&&&z=0)) (fun ii _=>6-(intOf ii).toNat)
 case atStart=>exact⟨0,by omega,rfl,Ext.refl w,h_ (fun k hk=>by omega)⟩
 case round =>
  obtain⟨o,ho,rfl,E,Ho⟩:=hrel;by_cases hlt:o<6
  ·have hix:=fun w=>Hix.out o hlt w;have o0:(0:Int)≤o:=by omega
   have o1:(o:Int)<6:=by omega
   by_cases hod:o=d
   ·have hne:((o:Int) != (d:Int))=false:=by simp[hod]
    have Ho2:=h_ (show ∀k,k<o+1→k≠d→J k&&&z=0 from fun k hk hkd=>Ho.out k (by omega) hkd);clear hod;go_wp2_with fail;go_roundw
    case rel=>exact⟨o+1,by omega,by go_num,E,Ho2⟩
    case measure=>simp only[intOf];omega
   ·have hne:((o:Int) != (d:Int))=true:=by simp;omega
    have hband:=bits_and_u64_nat (J o) z (HJz.out o) hzz;obtain⟨v,hv⟩:=nm (J o&&&z);rw[hv] at hband;by_cases hv0:v=0
    ·have hq:((v:Int) != 0)=false:=by simp[hv0]
     have Ho2:=h_ (show ∀k,k<o+1→k≠d→J k&&&z=0 from fun k hk hkd=>by
      rcases Nat.lt_or_ge k o with h|h
      ·exact Ho.out k h hkd
      ·obtain rfl:k=o:=by omega
       rw[hv,hv0])
     clear hv hv0 hod;go_wp2_with fail;go_roundw
     case rel=>exact⟨o+1,by omega,by go_num,E,Ho2⟩
     case measure=>simp only[intOf];omega
    ·have hq:((v:Int) != 0)=true:=by simp[hv0]
     have Hv:=h_ (show freeB m.ks m.bs m.tab z b d=false from freeB_not fun h=>hv0 (by rw[←hv];exact HFit.out.1 h.fit o hlt hod));clear hv hv0 hod;go_wp2_with fail;refine bodyPost_ret (v:= .bool false) (by simp[results,Tryz.results71,go_sem]) rfl ⟨by rw[Hv.out],E⟩
  ·obtain rfl:o=6:=by omega
   have Hfit:=h_ (HFit.out.2 Ho.out);have BK:=back6_c d hd wr;obtain⟨sx,hsx⟩:=nm (-(stepS d).x);obtain⟨sy,hsy⟩:=nm (-(stepS d).y);obtain⟨sz,hsz⟩:=nm (-(stepS d).z);rw[hsx,hsy,hsz] at BK;have Hstep:=h_ (show ∀(t:Nat) (c:Pt),(backP d t c).x+sx=(backP d (t+1) c).x∧(backP d t c).y+sy=(backP d (t+1) c).y∧(backP d t c).z+sz=(backP d (t+1) c).z from fun t c=>by
    rw[backP_succ,←hsx,←hsy,←hsz]
    refine⟨?_,?_,?_⟩ <;> simp only <;> omega)
   clear hsx hsy hsz;go_wp2_with fail;refine BK.mono ?_;rintro e W1 ⟨rfl,E1⟩;obtain⟨W2,hW2,E2,B2,hz2⟩:=mk_ W1 #[.int .i64 sx,.int .i64 sy,.int .i64 sz] 124;obtain⟨S,hS⟩:=nm W1.heap.size;rw[hS] at B2;have HSw:=h_ (show w.heap.size≤S by have:=E.size;have:=E1.size;omega);have HS:=h_ hS;have EW:=(E.trans E1).trans E2;have HW2:=h_ hW2;clear hS hz2 E E1 E2 BK hW2 hx r0
   go_upto_region 8 with(fail)
   rw[HW2.out,HS.out];have hx:=(HXB.out.ext EW).cell;have r0:=EW.cell HR0.out;go_wp2_with fail;clear hx r0;go_loopw [47] (fun ii wr=> ∃q:Nat,q≤n∧ii = .int .i64 q∧Ext w wr∧Blk wr S 124 #[.int .i64 sx,.int .i64 sy,.int .i64 sz]∧Hid (∀r,r<q → ∀c,L[r]? = some c → ∀t,1≤t→t≤64→m.tab≤(backP d t c).z ∧ ∀i,z.testBit i=true → ¬backP d t c∈bcells m.ks (brkAt m.bs i))) (fun ii _=>n-(intOf ii).toNat)
   case atStart=>exact⟨0,by omega,rfl,EW,B2,h_ (fun r hr=>by omega)⟩
   case round =>
    clear EW B2;obtain⟨q,hq,rfl,E,BS,Hq⟩:=hrel;by_cases hqt:q<n
    ·obtain⟨c,hc⟩: ∃c,L[q]? = some c:=⟨_,List.getElem?_eq_getElem (by rw[HL.out];exact hqt)⟩;have hr:(L.map Pt.cs)[q]? = some (Pt.cs c):=by rw[List.getElem?_map,hc];rfl
     have RX:=HR.out.2.2.ext E;have c0:=RX.cell (pts_wide' L) hr (j:=0) rfl;have c1:=RX.cell (pts_wide' L) hr (j:=1) rfl;have c2:=RX.cell (pts_wide' L) hr (j:=2) rfl;simp only[Nat.add_zero] at c0;have hcm:=List.mem_of_getElem? hc;have HcB:=h_ (fun(t:Nat) (ht:t≤64)=>backP_near hd ht (Hnear2.out c hcm));have Hcz:=h_ (HLow2.out c hcm);have Hcm:=h_ hcm;have Hc:=h_ hc;obtain⟨W3,hW3,E3,B3,-⟩:=mk_ wr #[.int .i64 c.x,.int .i64 c.y,.int .i64 c.z] 124;obtain⟨C,hC⟩:=nm wr.heap.size;rw[hC] at B3;have HCw:=h_ (show w.heap.size≤C by have:=E.size;omega);have HSC:=h_ (show S≠C by have:=BS.lt;omega);have HC:=h_ hC;have EW:=E.trans E3;have BS3:=BS.ext E3;have HW3:=h_ hW3;have q0:(0:Int)≤q:=by omega
     have q1:(q:Int)<n:=by omega
     have q2:(q:Int)<p.cp b:=by have:=HR.out.1;omega
     have b00:Blk W3 C 124 #[.int .i64 (backP d 0 c).x,.int .i64 (backP d 0 c).y,.int .i64 (backP d 0 c).z]:=by rw[backP_zero];exact B3
     clear hc hr RX hcm hC hW3 E E3 B3 BS
     go_upto_region 11 with(fail)
     rw[HW3.out,HC.out];clear c0 c1 c2;go_wp2_with fail;go_loopw [51] (fun ii wr'=> ∃t:Nat,t≤64∧ii = .int .i64 t∧Ext w wr'∧Blk wr' S 124 #[.int .i64 sx,.int .i64 sy,.int .i64 sz]∧Blk wr' C 124 #[.int .i64 (backP d t c).x,.int .i64 (backP d t c).y,.int .i64 (backP d t c).z]∧Hid (∀u,1≤u→u≤t→m.tab≤(backP d u c).z ∧ ∀i,z.testBit i=true → ¬backP d u c∈bcells m.ks (brkAt m.bs i))) (fun ii _=>64-(intOf ii).toNat)
     case atStart=>exact⟨0,by omega,rfl,EW,BS3,b00,h_ (fun u h1 h2=>by omega)⟩
     case round =>
      clear EW BS3 b00;obtain⟨t,ht,rfl,E,BS,BC,Ht⟩:=hrel;by_cases htt:t<64
      ·obtain⟨s1,s2,s3⟩:=Hstep.out t c;obtain⟨⟨l1,l2⟩,⟨l3,l4⟩,⟨l5,l6⟩⟩:=HcB.out t ht;obtain⟨⟨k1,k2⟩,⟨k3,k4⟩,⟨k5,k6⟩⟩:=HcB.out (t+1) htt;obtain⟨⟨x1,y1,z1⟩,h1⟩:=nm (backP d t c);obtain⟨⟨x2,y2,z2⟩,h2⟩:=nm (backP d (t+1) c);rw[h1] at s1 s2 s3 BC l1 l2 l3 l4 l5 l6;rw[h2] at s1 s2 s3 k1 k2 k3 k4 k5 k6;simp only at s1 s2 s3 BC l1 l2 l3 l4 l5 l6 k1 k2 k3 k4 k5 k6;have H2:=h_ h2;have bS:=BS.cell;have bC:=BC.cell;have fC:=BC.frozen;obtain⟨V,hV⟩:=nm (((wr.setCell ⟨C,0,none⟩ (.int .i64 x2)).setCell ⟨C,1,none⟩ (.int .i64 y2)).setCell ⟨C,2,none⟩ (.int .i64 z2));have BV:Blk V C 124 #[.int .i64 x2,.int .i64 y2,.int .i64 z2]:=hV▸((BC.set_ 0 _).set_ 1 _).set_ 2 _;have BSV:Blk V S 124 #[.int .i64 sx,.int .i64 sy,.int .i64 sz]:=hV▸((BS.far (p:=⟨C,0,none⟩) HSC.out _).far (p:=⟨C,1,none⟩) HSC.out _).far (p:=⟨C,2,none⟩) HSC.out _;have EV:Ext w V:=hV▸((E.setCell (p:=⟨C,0,none⟩) HCw.out _).setCell (p:=⟨C,1,none⟩) HCw.out _).setCell (p:=⟨C,2,none⟩) HCw.out _;have t0:(0:Int)≤t:=by omega
       have t1:(t:Int)<64:=by omega
       clear h1 h2 E BS BC
       go_upto_region 14 with(fail)
       clear bS bC fC hV s1 s2 s3 l1 l2 l3 l4 l5 l6;obtain⟨v,hv⟩:=nm (getK p.mm ⟨x2,y2,z2⟩);have lk:=h_ (fun x=>show(Instr.lookup 117 (.map (some p.M)) (.agg #[.int .i64 x2,.int .i64 y2,.int .i64 z2]) true).run Tryz.prog (grow V x) = .ok (.tuple #[.int .i64 (v.getD 0),.bool v.isSome]) (grow V x) by
        have:=look_ok (HP.out.at_.ext (EV.trans ((Ext.refl V).grow x))) x2 y2 z2
        rwa [hv] at this)
       have Hv:=h_ hv;have bV:=BV.cell;have hx:=(HXB.out.ext EV).cell;clear hv;refine w_g ?_
       repeat (go_big_quiet_step ((rw[lk.out];exact⟨rfl,rfl⟩)))
       refine wpQuiet_nil ?_;intro W5 hW5;have E5:Ext V W5:=by
        obtain⟨x,rfl⟩:=hW5;exact(Ext.refl _).grow x
       clear hW5;obtain⟨hcW5,hfW5,hzW5⟩:=ext_facts E5;clear hcW5 hfW5 hzW5 bV hx lk;have BV5:=BV.ext E5;have BS5:=BSV.ext E5;have EV5:=EV.trans E5;have bV:=BV5.cell;have hx:=(HXB.out.ext EV5).cell;clear BV BSV EV E5
       go_upto_region 15 with(fail)
       by_cases hA:z2<m.tab
       ·have Hno:=h_ (show freeB m.ks m.bs m.tab z b d=false from freeB_not fun h=>tab_way hd (show 1≤t+1 by omega) htt Hcz.out (by rw[H2.out];simp only;omega) (h.tab c (by rw[HLe.out];exact Hcm.out)));refine w_g ?_
        repeat (go_big_quiet_step ((fail)))
        refine wpQuiet_nil ?_;intro W6 hW6;have E6:Ext W5 W6:=by
         obtain⟨x,rfl⟩:=hW6;exact(Ext.refl _).grow x
        clear hW6;obtain⟨hcW6,hfW6,hzW6⟩:=ext_facts E6;clear hcW6 hfW6 hzW6 bV hx;have HE6:=h_ (EV5.trans E6);clear E6;go_wp2_with fail;refine bodyPost_ret (v:= .bool false) (by simp[results,Tryz.results71,go_sem]) rfl ⟨by rw[Hno.out],HE6.out⟩
       have hA':decide (z2<m.tab)=false:=by simpa using hA
       cases v with
       | none =>
        simp only[Option.getD_none,Option.isSome_none];have Ht2:=h_ (show ∀u,1≤u→u≤t+1→m.tab≤(backP d u c).z ∧ ∀i,z.testBit i=true → ¬backP d u c∈bcells m.ks (brkAt m.bs i) from fun u hu1 hu2=>by
         rcases Nat.lt_or_ge u (t+1) with h|h
         ·exact Ht.out u hu1 (by omega)
         ·obtain rfl:u=t+1:=by omega
          rw[H2.out];refine⟨by simp only;omega,fun i hi hmem=> ?_⟩;have:=(HP.out.k ⟨x2,y2,z2⟩ (i:Int)).2 ⟨i,HZ.out i hi,rfl,hmem⟩;rw[Hv.out] at this
          cases this)
        refine w_g ?_
        repeat (go_big_quiet_step ((fail)))
        refine wpQuiet_nil ?_;intro W6 hW6;have E6:Ext W5 W6:=by
         obtain⟨x,rfl⟩:=hW6;exact(Ext.refl _).grow x
        clear hW6;obtain⟨hcW6,hfW6,hzW6⟩:=ext_facts E6;clear hcW6 hfW6 hzW6 bV hx hA hA';have BV6:=BV5.ext E6;have BS6:=BS5.ext E6;have EV6:=EV5.trans E6;clear E6 BV5 BS5;go_wp2_with fail;go_roundw
        case rel=>exact⟨t+1,by omega,by go_num,EV6,BS6,by rw[H2.out];exact BV6,Ht2⟩
        case measure=>simp only[intOf];omega
       | some k =>
        obtain⟨i,hi,rfl,hmem⟩:=(HP.out.k ⟨x2,y2,z2⟩ k).1 Hv.out;simp only[Option.getD_some,Option.isSome_some];have HSc:=h_ (fun W=>has6_c z i hzz (by have:=HZ2.out;omega) W);obtain⟨r,hr⟩:=nm (z.testBit i);rw[hr] at HSc;refine w_g ?_
        repeat (go_big_quiet_step ((go_at_call 33;exact quiet_ext (HSc.out _))))
        refine wpQuiet_nil ?_;intro W6 hW6;have E6:Ext W5 W6:=by
         obtain⟨x,rfl⟩:=hW6;exact(Ext.refl _).grow x
        clear hW6;obtain⟨hcW6,hfW6,hzW6⟩:=ext_facts E6;clear hcW6 hfW6 hzW6 bV hx hA';cases r
        ·have Ht2:=h_ (show ∀u,1≤u→u≤t+1→m.tab≤(backP d u c).z ∧ ∀i,z.testBit i=true → ¬backP d u c∈bcells m.ks (brkAt m.bs i) from fun u hu1 hu2=>by
          rcases Nat.lt_or_ge u (t+1) with h|h
          ·exact Ht.out u hu1 (by omega)
          ·obtain rfl:u=t+1:=by omega
           rw[H2.out];refine⟨by simp only;omega,fun i' hi' hmem'=> ?_⟩;have:=(HP.out.k ⟨x2,y2,z2⟩ (i':Int)).2 ⟨i',HZ.out i' hi',rfl,hmem'⟩;rw[Hv.out] at this;have e:=Option.some.inj this;have e2:i=i':=by omega
           rw[←e2,hr] at hi'
           cases hi')
         clear hr hA hmem hi;have BV6:=BV5.ext E6;have BS6:=BS5.ext E6;have EV6:=EV5.trans E6;clear E6 BV5 BS5;go_wp2_with fail;go_roundw
         case rel=>exact⟨t+1,by omega,by go_num,EV6,BS6,by rw[H2.out];exact BV6,Ht2⟩
         case measure=>simp only[intOf];omega
        ·have Hno:=h_ (show freeB m.ks m.bs m.tab z b d=false from freeB_not fun h=>h.way i hr c (by rw[HLe.out];exact Hcm.out) (t+1) (by omega) htt (by rw[H2.out];exact hmem));have HE6:=h_ (EV5.trans E6);clear E6 hr hA hmem hi;go_wp2_with fail;refine bodyPost_ret (v:= .bool false) (by simp[results,Tryz.results71,go_sem]) rfl ⟨by rw[Hno.out],HE6.out⟩
      ·obtain rfl:t=64:=by omega
       have Hq2:=h_ (show ∀r,r<q+1 → ∀c,L[r]? = some c → ∀t,1≤t→t≤64→m.tab≤(backP d t c).z ∧ ∀i,z.testBit i=true → ¬backP d t c∈bcells m.ks (brkAt m.bs i) from fun r hr c' hc' u hu1 hu2=>by
        rcases Nat.lt_or_ge r q with h|h
        ·exact Hq.out r h c' hc' u hu1 hu2
        ·obtain rfl:r=q:=by omega
         rw[Hc.out] at hc';cases hc'
         exact Ht.out u hu1 hu2)
       clear BC;go_wp2_with fail;go_roundw
       case rel=>exact⟨q+1,by omega,by go_num,E,BS,Hq2⟩
       case measure=>simp only[intOf];omega
    ·obtain rfl:q=n:=by omega
     have Hyes:=h_ (show freeB m.ks m.bs m.tab z b d=true from freeB_iff.2 ⟨Hfit.out,fun c hc=>by
      rw[HLe.out] at hc;obtain⟨r,hr⟩:=List.getElem?_of_mem hc;exact(Hq.out r (by have:=(List.getElem?_eq_some_iff.1 hr).1;rw[HL.out] at this;exact this) c hr 64 (by omega) (by omega)).1,fun i hi c hc t ht1 ht2=>by
      rw[HLe.out] at hc;obtain⟨r,hr⟩:=List.getElem?_of_mem hc
      exact(Hq.out r (by have:=(List.getElem?_eq_some_iff.1 hr).1;rw[HL.out] at this;exact this) c hr t ht1 ht2).2 i hi⟩)
     have HEr:=h_ E;clear E BS;go_wp2_with fail;refine bodyPost_ret (v:= .bool true) (by simp[results,Tryz.results71,go_sem]) rfl ⟨by rw[Hyes.out],HEr.out⟩
theorem must_ok(e:Int)(w:World):Calls Tryz.prog 81 #[.bool true,.int .i64 e] w fun r w'=>r = .returned (.tuple #[])∧w'=w:=by
 go_enter Tryz.func81,Tryz.ntmps81;go_wp2_with fail
 first
 | go_end0
 | refine bodyPost_ret (results_none rfl _ _ _) rfl ?_
 exact⟨rfl,rfl⟩
theorem must_bad(e:Int)(w:World):Calls Tryz.prog 81 #[.bool false,.int .i64 e] w fun r w'=>r = .panicked [{ v:= .iface 30 (.int .i64 e),recovered:=false }]∧w'=w:=by
 go_enter Tryz.func81,Tryz.ntmps81;go_wp2_with fail;exact⟨rfl,rfl,rfl⟩
theorem catch6_idle(R:Nat)(w:World) :
  CallsD Tryz.prog 80 #[.pointer (some ⟨R,0,none⟩)] .returning w fun e u' w'=>e = .returned (.tuple #[])∧u' = .returning∧w'=w:=by
 refine callsD_of_wpS Tryz.func80 rfl fun c₀ cs hu=> ?_;apply wpS_seq;apply wpS_region;simp[wpOpsS,go_sem,recoverD,hu,Tryz.ntmps80,Exit.thenS];simp only[Array.replicate_succ,Array.replicate_zero,List.push_toArray,zs,List.append_toArray,List.cons_append,List.nil_append];refine wpS_of_wp ?_;go_wp2_with fail;cases c₀
 simp_all [bodyPostS,results,Tryz.results80]
theorem catch6_bad(R:Nat)(x e:Int)(older:List PanicEntry)(w:World)(hc:w.cell? ⟨R,0,none⟩=some (.int .i64 x))(hz:w.frozen? ⟨R,0,none⟩=false) :
  CallsD Tryz.prog 80 #[.pointer (some ⟨R,0,none⟩)] (.panicking ({ v:= .iface 30 (.int .i64 e),recovered:=false }::older)) w fun r u' w'=>r = .returned (.tuple #[])∧u' = .panicking ({ v:= .iface 30 (.int .i64 e),recovered:=true }::older)∧w'=w.setCell ⟨R,0,none⟩ (.int .i64 e):=by
 have hta: ∀(t:TypeId) (w:World),(Instr.typeAssert (.iface 30 (.int .i64 e)) t 30 true).run Tryz.prog w = .ok (.tuple #[.int .i64 e,.bool true]) w:=fun _ _=>by kernel_rfl
 refine callsD_of_wpS Tryz.func80 rfl fun c₀ cs hu=> ?_;apply wpS_seq;apply wpS_region;simp[wpOpsS,go_sem,recoverD,hu,Tryz.ntmps80,Exit.thenS];simp only[Array.replicate_succ,Array.replicate_zero,List.push_toArray,zs,List.append_toArray,List.cons_append,List.nil_append];refine wpS_of_wp ?_;go_wp2_with fail;cases c₀
 simp_all [bodyPostS,results,Tryz.results80]
end Go.Proofs.YtojolpbpjimfgaaGreatDoor
