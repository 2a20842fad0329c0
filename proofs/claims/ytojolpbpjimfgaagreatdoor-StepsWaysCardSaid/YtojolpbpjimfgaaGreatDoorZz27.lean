/- Texts of the proof: StartS, LinksP. -/
import Derived.Test.YtojolpbpjimfgaaGreatDoorZz15
import Derived.Test.YtojolpbpjimfgaaGreatDoorZz16
import Derived.Test.YtojolpbpjimfgaaGreatDoorZz17
import Derived.Test.YtojolpbpjimfgaaGreatDoorZz22
import Derived.Test.YtojolpbpjimfgaaGreatDoorZz26
namespace Go.Proofs.YtojolpbpjimfgaaGreatDoor
open Go.RowKit
def planA(Q B:Value)(tab:Int)(H C:Value)(M G n S:Nat):Array Value:= #[Q,B,.int .i64 tab,H,C,.map (some M),.slice (some ⟨G,0,none⟩) n n,.map (some S)]
structure StP where
 U:Nat
 T:Nat
 X:Nat
 M:Nat
 G:Nat
 S:Nat
 nb:Nat
 Q:Value
 B:Value
 H:Value
 tab:Int
structure StOk(w0:World)(P:StP):Prop where
 t:P.T<P.U
 x:P.X<P.U
 m:P.M<P.U
 g:P.G<P.U
 s:P.S<P.U
 ms:P.M≠P.S
 lx:w0.heap.size≤P.X
 lm:w0.heap.size≤P.M
 lg:w0.heap.size≤P.G
 lu:w0.heap.size≤P.U
 ls:w0.heap.size≤P.S
theorem blk_apart{w:World}{g g':Nat}{t t':TypeId}{cs cs':Array Value}(h:Blk w g t cs)(h':Blk w g' t' cs')(hne:t≠t'):g≠g':=fun e=>by
 subst e
 exact hne (h.types h')
def KBl(ks:List Knd)(bs:List Brk)(w:World)(gs cp:Nat→Nat)(j:Nat):Prop:= ∀i,i<j→klen ks bs i≤cp i∧cp i≤maxLen∧RowX w (gs i) 137 ((bknobs ks (brkAt bs i)).map Knb.cs)
section
variable {ks:List Knd} {bs:List Brk} {w w':World} {gs cp:Nat→Nat} {j:Nat}
theorem KBl.ext(h:KBl ks bs w gs cp j)(E:Ext w w'):KBl ks bs w' gs cp j:=fun i hi=>⟨(h i hi).1,(h i hi).2.1,(h i hi).2.2.ext E⟩
theorem KBl.mapTurned(h:KBl ks bs w gs cp j){M:Nat}{m:List (Pt×Int)}(hm:MapOf encPt evI w M m)(hg:w.grownBy w' (some M)):KBl ks bs w' gs cp j:=fun i hi=>⟨(h i hi).1,(h i hi).2.1,(h i hi).2.2.grown hg ((h i hi).2.2.map_ne hm)⟩
theorem KBl.own(h:KBl ks bs w gs cp j){b:Nat}{e:TypeId}{sz:Nat}{u:Value}{m:Nat}{xs:List Value}(own:w.ownsRow b e sz u m xs)(hg:w.grownBy w' u.ownBlock)(hne:137≠e):KBl ks bs w' gs cp j:=fun i hi=>⟨(h i hi).1,(h i hi).2.1,(h i hi).2.2.own own hg hne⟩
theorem KBl.far(h:KBl ks bs w gs cp j){X:Nat}{t':TypeId}{cs:Array Value}(hb:Blk w X t' cs)(hne:137≠t')(k:Nat)(u:Value):KBl ks bs (w.setCell ⟨X,k,none⟩ u) gs cp j:=fun i hi=>⟨(h i hi).1,(h i hi).2.1,by
 have hx:=(h i hi).2.2.ne_blk hb hne
 obtain⟨ex,hr⟩:=(h i hi).2.2
 exact⟨ex,hr.far (p:=⟨X,k,none⟩) hx u⟩⟩
theorem KBl.next{gs' cp':Nat→Nat}(h:KBl ks bs w gs cp j)(e: ∀i,i<j→gs' i=gs i)(e2: ∀i,i<j→cp' i=cp i)(h1:klen ks bs j≤cp' j)(h2:cp' j≤maxLen)(hb:RowX w (gs' j) 137 ((bknobs ks (brkAt bs j)).map Knb.cs)):KBl ks bs w gs' cp' (j+1):=fun i hi=>by
 rcases Nat.lt_or_ge i j with h' | h'
 ·rw[e i h',e2 i h']
  exact h i h'
 ·obtain rfl:i=j:=by omega
  exact⟨h1,h2,hb⟩
end
structure StI(ks:List Knd)(bs:List Brk)(P:StP)(w0:World)(j q a b:Nat)(J:Nat→Nat→Nat)(xv v kv:Value)(gs cp kg kc:Nat→Nat)(mm:List (Pt×Int))(w:World):Prop where
 e:Ext w0 w
 u:P.U≤w.heap.size
 t:Blk w P.T 25 #[P.B]
 x:Blk w P.X 121 (planA P.Q P.B P.tab P.H xv P.M P.G P.nb P.S)
 m:MapOf encPt evI w P.M mm
 k:BrkOf ks bs j q mm
 g:JnB w P.G P.nb J
 s:MapOf enc6 evB w P.S []
 o:w.ownsRow P.U 109 1 v a (clC gs (clen ks bs) cp a)
 c:CBl ks bs w gs cp a
 ko:w.ownsRow P.U 110 1 kv b (clC kg (klen ks bs) kc b)
 kc:KBl ks bs w kg kc b
section
variable {ks:List Knd} {bs:List Brk} {P:StP} {w0 w w':World} {j q a b:Nat} {J:Nat→Nat→Nat} {xv v kv:Value} {gs cp kg kc:Nat→Nat} {mm:List (Pt×Int)}
theorem grown_size{w w':World}{row:Option Nat}(h:w.grownBy w' row):w.heap.size≤w'.heap.size:=h.size
theorem StI.ext(h:StI ks bs P w0 j q a b J xv v kv gs cp kg kc mm w)(E:Ext w w'):StI ks bs P w0 j q a b J xv v kv gs cp kg kc mm w' :=
 ⟨h.e.trans E,Nat.le_trans h.u E.size,h.t.ext E,h.x.ext E,h.m.ext E,h.k,h.g.ext E,h.s.ext E,own_ext h.o E,h.c.ext E,own_ext h.ko E,h.kc.ext E⟩
theorem StI.appC(h:StI ks bs P w0 j q a b J xv v kv gs cp kg kc mm w)(ok:StOk w0 P){g7 cap7 g6 c6 n:Nat}(hg:w.grownBy w' v.ownBlock)(own:w'.ownsRow P.U 109 1 (.slice (some ⟨g7,0,none⟩) (a+1) cap7) (a+1) (clC gs (clen ks bs) cp a ++ [.slice (some ⟨g6,0,none⟩) n c6]))(hn:clen ks bs a=n)(h1:n≤c6)(h2:c6≤maxLen)(R:RowX w g6 124 ((bcells ks (brkAt bs a)).map Pt.cs)) :
  ∃gs' cp',gs' a=g6∧cp' a=c6∧StI ks bs P w0 j q (a+1) b J xv (.slice (some ⟨g7,0,none⟩) (a+1) cap7) kv gs' cp' kg kc mm w':=by
 have hge: ∀i,i<a→updF gs a g6 i=gs i:=fun i hi=>updF_ne _ _ (by omega)
 have hce: ∀i,i<a→updF cp a c6 i=cp i:=fun i hi=>updF_ne _ _ (by omega)
 refine⟨updF gs a g6,updF cp a c6,updF_at _ _ _,updF_at _ _ _,h.e.grown hg (fun k hk=>by have:=(h.o.lt k hk).1;have:=ok.lu;omega),Nat.le_trans h.u (grown_size hg),blkGrown h.t h.o hg (by decide),blkGrown h.x h.o hg (by decide),h.m.grown hg (ownMap h.o h.m),h.k,blkGrown h.g h.o hg (by decide),h.s.grown hg (ownMap h.o h.s),?_,?_,ownGrown h.ko hg (ownApart h.ko h.o (by decide)),h.kc.own h.o hg (by decide)⟩
 ·rw[clC_succ,clC_upd hge hce,updF_at,updF_at,hn]
  exact own
 ·exact(h.c.own h.o hg (by decide)).next hge hce (by rw[hn,updF_at];exact h1) (by rw[updF_at];exact h2) (by rw[updF_at];exact R.own h.o hg (by decide))
theorem StI.appK(h:StI ks bs P w0 j q a b J xv v kv gs cp kg kc mm w)(ok:StOk w0 P){g7 cap7 g6 c6 n:Nat}(hg:w.grownBy w' kv.ownBlock)(own:w'.ownsRow P.U 110 1 (.slice (some ⟨g7,0,none⟩) (b+1) cap7) (b+1) (clC kg (klen ks bs) kc b ++ [.slice (some ⟨g6,0,none⟩) n c6]))(hn:klen ks bs b=n)(h1:n≤c6)(h2:c6≤maxLen)(R:RowX w g6 137 ((bknobs ks (brkAt bs b)).map Knb.cs)) :
  ∃kg' kc',StI ks bs P w0 j q a (b+1) J xv v (.slice (some ⟨g7,0,none⟩) (b+1) cap7) gs cp kg' kc' mm w':=by
 have hge: ∀i,i<b→updF kg b g6 i=kg i:=fun i hi=>updF_ne _ _ (by omega)
 have hce: ∀i,i<b→updF kc b c6 i=kc i:=fun i hi=>updF_ne _ _ (by omega)
 refine⟨updF kg b g6,updF kc b c6,h.e.grown hg (fun k hk=>by have:=(h.ko.lt k hk).1;have:=ok.lu;omega),Nat.le_trans h.u (grown_size hg),blkGrown h.t h.ko hg (by decide),blkGrown h.x h.ko hg (by decide),h.m.grown hg (ownMap h.ko h.m),h.k,blkGrown h.g h.ko hg (by decide),h.s.grown hg (ownMap h.ko h.s),ownGrown h.o hg (ownApart h.o h.ko (by decide)),h.c.own h.ko hg (by decide),?_,?_⟩
 ·rw[clC_succ,clC_upd hge hce,updF_at,updF_at,hn]
  exact own
 ·exact(h.kc.own h.ko hg (by decide)).next hge hce (by rw[hn,updF_at];exact h1) (by rw[updF_at];exact h2) (by rw[updF_at];exact R.own h.ko hg (by decide))
theorem StI.store(h:StI ks bs P w0 j q a b J xv v kv gs cp kg kc mm w)(ok:StOk w0 P):StI ks bs P w0 j q a b J v v kv gs cp kg kc mm (w.setCell ⟨P.X,4,none⟩ v) :=
 ⟨h.e.setCell (p:=⟨P.X,4,none⟩) ok.lx _,by rw[World.size_setCell];exact h.u,h.t.far (p:=⟨P.X,4,none⟩) (blk_apart h.t h.x (by decide)) _,h.x.set_ 4 _,h.m.far2 (p:=⟨P.X,4,none⟩) (h.m.blk_ne h.x) _,h.k,
  Blk.far h.g (p:=⟨P.X,4,none⟩) (blk_apart h.g h.x (by decide)) _,h.s.far2 (p:=⟨P.X,4,none⟩) (h.s.blk_ne h.x) _,own_setCell h.o (p:=⟨P.X,4,none⟩) ok.x _,h.c.far h.x (by decide) 4 _,own_setCell h.ko (p:=⟨P.X,4,none⟩) ok.x _,h.kc.far h.x (by decide) 4 _⟩
theorem StI.put(h:StI ks bs P w0 j q a b J xv v kv gs cp kg kc mm w)(ok:StOk w0 P)(hf:Fit ks bs)(hj:j<bs.length){c:Pt}(hc:(bcells ks (brkAt bs j))[q]? = some c)(M':MapOf encPt evI w' P.M (putK mm c (j:Int)))(hg:w.grownBy w' (some P.M)):StI ks bs P w0 j (q+1) a b J xv v kv gs cp kg kc (putK mm c (j:Int)) w' :=
 ⟨h.e.grown hg (fun k hk=>by cases hk;exact ok.lm),Nat.le_trans h.u (grown_size hg),h.t.grown hg (fun e=>h.m.blk_ne h.t (Option.some.inj e).symm),h.x.grown hg (fun e=>h.m.blk_ne h.x (Option.some.inj e).symm),M',h.k.put hf hj hc,
  Blk.grown h.g hg (fun e=>h.m.blk_ne h.g (Option.some.inj e).symm),h.s.grown hg (fun e=>ok.ms (Option.some.inj e).symm),ownGrown h.o hg (Or.inr (ownMap h.o h.m).symm),h.c.mapTurned h.m hg,ownGrown h.ko hg (Or.inr (ownMap h.ko h.m).symm),h.kc.mapTurned h.m hg⟩
theorem StI.next(h:StI ks bs P w0 j (bcells ks (brkAt bs j)).length a b J xv v kv gs cp kg kc mm w):StI ks bs P w0 (j+1) 0 a b J xv v kv gs cp kg kc mm w:=⟨h.e,h.u,h.t,h.x,h.m,h.k.next,h.g,h.s,h.o,h.c,h.ko,h.kc⟩
theorem StI.krow{ka kd:Nat}(h:StI ks bs P w0 j q a b J xv v (.slice (some ⟨ka,0,none⟩) b kd) gs cp kg kc mm w){i:Nat}(hi:i<b):w.cell? ⟨ka,i,none⟩=some (.slice (some ⟨kg i,0,none⟩) (klen ks bs i) (kc i))∧b≤kd:=by
 obtain⟨A1,c1,e1,S1,-⟩:=own_slice0 (rows:=(clC kg (klen ks bs) kc b).map fun v=> [v]) (fun r hr=>by obtain⟨v,-,rfl⟩:=List.mem_map.1 hr;rfl) (show((clC kg (klen ks bs) kc b).map fun v=> [v]).length=b by simp[clC]) (by rw[flat_ones];exact h.ko)
 cases e1
 obtain⟨g',off',hA',-,hc⟩:=SliceIs.cells S1 (by omega)
 cases hA'
 have hr:((clC kg (klen ks bs) kc b).map fun v=> [v])[i]? = some [.slice (some ⟨kg i,0,none⟩) (klen ks bs i) (kc i)]:=by rw[List.getElem?_map,clC_at hi];rfl
 have:=hc i _ hr 0 _ rfl
 rw[Nat.mul_one,Nat.add_zero,Nat.zero_add] at this
 exact⟨this,S1.le⟩
theorem StI.kdir(h:StI ks bs P w0 j q a b J xv v kv gs cp kg kc mm w)(hf:Fit ks bs){i r:Nat}(hi:i<b)(hib:i<bs.length)(hr:r<klen ks bs i):w.cell? ⟨kg i,r*5+3,none⟩=some (.int .u8 (dirN ks bs i r:Nat))∧dirN ks bs i r<6∧klen ks bs i≤kc i:=by
 obtain⟨h1,-,RA⟩:=h.kc i hi
 obtain⟨d1,d2⟩:=hf.dirN hib hr
 have hg:(bknobs ks (brkAt bs i))[r]? = some ((bknobs ks (brkAt bs i))[r]'hr):=List.getElem?_eq_getElem _
 have hrr:((bknobs ks (brkAt bs i)).map Knb.cs)[r]? = some (knbAt (bknobs ks (brkAt bs i)) r).cs:=by rw[List.getElem?_map,hg,knbAt_eq hg];rfl
 have c:=RA.cell (knbs_wide _) (j:=3) hrr rfl
 rw[d1] at c
 exact⟨c,d2,h1⟩
theorem StI.setJ(h:StI ks bs P w0 j q a b J xv v kv gs cp kg kc mm w)(ok:StOk w0 P){x y z:Nat}(hy:y<6):StI ks bs P w0 j q a b (putJ J x y z) xv v kv gs cp kg kc mm (w.setCell ⟨P.G,x*6+y,none⟩ (.int .u64 (putN (J x y) z:Nat))) :=
 ⟨h.e.setCell (p:=⟨P.G,x*6+y,none⟩) ok.lg _,by rw[World.size_setCell];exact h.u,h.t.far (p:=⟨P.G,x*6+y,none⟩) (blk_apart h.t h.g (by decide)) _,h.x.far (p:=⟨P.G,x*6+y,none⟩) (blk_apart h.x h.g (by decide)) _,h.m.far2 (p:=⟨P.G,x*6+y,none⟩) (h.m.blk_ne h.g) _,h.k,
  by rw[←updN_put];exact h.g.set_ hy _,h.s.far2 (p:=⟨P.G,x*6+y,none⟩) (h.s.blk_ne h.g) _,own_setCell h.o (p:=⟨P.G,x*6+y,none⟩) ok.g _,h.c.far h.g (by decide) _ _,own_setCell h.ko (p:=⟨P.G,x*6+y,none⟩) ok.g _,h.kc.far h.g (by decide) _ _⟩
end
theorem jnA_val{n:Nat}{f:Nat→Nat→Nat}{k:Nat}{v:Value}(h:(jnA n f)[k]? = some v): ∃z:Int,v = .int .u64 z:=by
 unfold jnA at h
 rw[List.getElem?_toArray,List.getElem?_map] at h
 obtain⟨t,-,rfl⟩:=Option.map_eq_some_iff.1 h
 exact⟨_,rfl⟩
theorem Links.farJ{w:World}{A:Option Addr}{cap:Nat}{l:List Lnk}(h:Links w A cap l){G n:Nat}{J:Nat→Nat→Nat}(hG:JnB w G n J)(k:Nat)(u:Value):Links (w.setCell ⟨G,k,none⟩ u) A cap l:=by
 have hat:=fun hl:0<l.length=>h.at_ hl
 obtain⟨h1,h2,h3,h4,h5⟩:=h
 refine⟨h1,h2,h3,h4,fun hn=> ?_⟩
 obtain⟨b,off,hA,hb,hc⟩:=h5 hn
 have hne:b≠G:=by
  rintro rfl
  obtain⟨b',off',p,hA',-,-,c0,-⟩:=hat hn
  rw[hA] at hA'
  cases hA'
  rw[Blk.cell hG] at c0
  obtain⟨z,hz⟩:=jnA_val c0
  cases hz
 refine⟨b,off,hA,by simpa [World.setCell] using hb,fun i r hr j u' hu=> ?_⟩
 have:=hc i r hr j u' hu
 unfold World.cell? at this ⊢
 rw[Below.heap_setCell w ⟨G,k,none⟩ u b hne]
 exact this
def LnkRes(l:List Lnk)(r:Int)(w:World)(e:Ending)(w':World):Prop:= ∃A cap,e = .returned (.tuple #[.slice A l.length cap,.int .i64 r])∧Links w' A cap l∧Ext w w'
def linkR(ks:List Knd)(bs:List Brk):List Lnk:=if checkErr ks bs=0 then linkL ks bs else []
theorem lnkRes_nil{r:Int}{w w':World}(E:Ext w w'):LnkRes [] r w (.returned (.tuple #[.slice none 0 0,.int .i64 r])) w':=⟨none,0,rfl,links_nil _,E⟩
set_option maxHeartbeats 1600000 in
theorem linksA_c(qs:List (Knd×KAt))(QA:Option Addr)(qc:Nat)(bs:List Brk)(B:Option Addr)(cb:Nat)(w:World)(hk:Kinds w QA qc qs)(hb:Bricks w B cb bs) :
  Calls Tryz.prog 64 #[.slice QA qs.length qc,.agg #[.slice B bs.length cb]] w (LnkRes (linkR (qs.map (·.1)) bs) (checkErr (qs.map (·.1)) bs) w):=by
 obtain⟨W1,hW1,E1,B1,hz1⟩:=mk_ w #[.slice B bs.length cb] 25
 have b1:=B1.cell
 clear hz1
 have CK:=checkM_c qs QA qc bs B cb W1 (hk.ext E1) (hb.ext E1)
 obtain⟨r,hr⟩:=nm (checkErr (qs.map (·.1)) bs)
 rw[hr] at CK ⊢
 by_cases h0:r=0
 ·subst h0
  have LK:=h_ (fun W (E:Ext w W)=>links_c qs QA qc bs B cb W (hk.ext E) (hb.ext E) hr)
  have Hl:=h_ (show linkR (qs.map (·.1)) bs=linkL (qs.map (·.1)) bs from if_pos hr)
  rw[Hl.out]
  obtain⟨L,hL⟩:=nm (linkL (qs.map (·.1)) bs)
  rw[hL] at LK ⊢
  clear hr hL hk hb Hl
  go_enter Tryz.func64,Tryz.ntmps64
  go_wp2_with fail
  refine CK.mono ?_
  rintro e W2 ⟨rfl,E2⟩
  have b2:=(B1.ext E2).cell
  go_wp2_with fail
  refine(LK.out _ (E1.trans E2)).mono ?_
  rintro e W3 ⟨LA,lc,PA,pc,gs,rfl,hLL,-,-,E3⟩
  have HLL:=h_ hLL
  clear hLL
  go_wp2_with fail
  go_ret2
  exact⟨LA,lc,rfl,HLL.out,(E1.trans E2).trans E3⟩
 ·have Hl:=h_ (show linkR (qs.map (·.1)) bs = [] from if_neg (by rw[hr];exact h0))
  rw[Hl.out]
  have h1:(r != 0)=true:=by simpa using h0
  clear hr h0 hk hb Hl
  go_enter Tryz.func64,Tryz.ntmps64
  go_wp2_with fail
  refine CK.mono ?_
  rintro e W2 ⟨rfl,E2⟩
  go_wp2_with fail
  go_ret2
  exact lnkRes_nil (E1.trans E2)
end Go.Proofs.YtojolpbpjimfgaaGreatDoor
