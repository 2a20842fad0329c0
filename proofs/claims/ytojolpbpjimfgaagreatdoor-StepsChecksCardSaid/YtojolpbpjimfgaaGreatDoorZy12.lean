/- Texts of the proof: Fate, Own2, OvlS, Ovl, ROver. -/
import Derived.Test.YtojolpbpjimfgaaGreatDoorZy1
import Derived.Test.YtojolpbpjimfgaaGreatDoorZy2
import Derived.Test.YtojolpbpjimfgaaGreatDoorZy8
import Derived.Test.YtojolpbpjimfgaaGreatDoorZy9
import Derived.Test.YtojolpbpjimfgaaGreatDoorZy11
import Derived.Laws.AppendOwnNone
set_option maxHeartbeats 16000000
set_option maxRecDepth 100000
namespace Go.Proofs.YtojolpbpjimfgaaGreatDoor
open Go.RowKit
structure Only(K:Nat→Prop)(w w':World):Prop where
 os:w'.os=w.os
 tape:w'.tape=w.tape
 output:w'.output=w.output
 size:w.heap.size≤w'.heap.size
 block: ∀k,k<w.heap.size → ¬K k→w'.heap[k]? = w.heap[k]?
theorem Only.refl(K:Nat→Prop)(w:World):Only K w w:=⟨rfl,rfl,rfl,Nat.le_refl _,fun _ _ _=>rfl⟩
theorem Only.trans{K K':Nat→Prop}{a b c:World}(h:Only K a b)(k:Only K' b c)(hk: ∀i,i<a.heap.size→K' i→K i):Only K a c :=
 ⟨k.os.trans h.os,k.tape.trans h.tape,k.output.trans h.output,Nat.le_trans h.size k.size,fun i hi hK =>
  (k.block i (Nat.lt_of_lt_of_le hi h.size) (fun e=>hK (hk i hi e))).trans (h.block i hi hK)⟩
theorem Only.mono{K K':Nat→Prop}{a b:World}(h:Only K a b)(hk: ∀i,i<a.heap.size→K i→K' i):Only K' a b :=
 ⟨h.os,h.tape,h.output,h.size,fun i hi hK=>h.block i hi (fun e=>hK (hk i hi e))⟩
theorem Only.of_ext(K:Nat→Prop){a b:World}(h:Ext a b):Only K a b:=⟨h.1,h.2,h.3,h.size,fun k hk _=>h.block k hk⟩
theorem Only.ext{K:Nat→Prop}{a b c:World}(h:Only K a b)(k:Ext b c):Only K a c:=h.trans (Only.of_ext (fun _=>False) k) (fun _ _ e=>e.elim)
theorem Only.alloc{K:Nat→Prop}{a b:World}(h:Only K a b)(o:Obj):Only K a (b.alloc o):=h.ext ((Ext.refl b).alloc o)
theorem Only.of_grown{K:Nat→Prop}{a b:World}{row:Option Nat}(h:a.grownBy b row)(hk: ∀r,row=some r→K r):Only K a b :=
 ⟨h.os,h.tape,h.output,h.size,fun k hk' hK=>h.block k hk' (fun e=>hK (hk k e.symm))⟩
theorem Only.grown{K:Nat→Prop}{a b c:World}{row:Option Nat}(h:Only K a b)(g:b.grownBy c row)(hk: ∀r,row=some r→r<a.heap.size→K r):Only K a c :=
 h.trans (Only.of_grown (K:=fun r=>row=some r) g (fun _ e=>e)) (fun i hi e=>hk i e hi)
theorem Only.setCell{K:Nat→Prop}{a b:World}(h:Only K a b){p:Addr}(hp:p.block<a.heap.size→K p.block)(u:Value):Only K a (b.setCell p u) :=
 ⟨h.os,h.tape,h.output,by rw[show(b.setCell p u).heap.size=b.heap.size by simp[World.setCell]];exact h.size,fun k hk hK=>by
  have hne:k≠p.block:=fun e=>hK (by rw[e];exact hp (by rw[←e];exact hk));rw[Below.heap_setCell _ _ _ _ hne]
  exact h.block k hk hK⟩
theorem Only.below{K:Nat→Prop}{t a b:World}(h0:Ext t a)(h:Only K a b)(hk: ∀k,K k→t.heap.size≤k):Ext t b :=
 ⟨h.os.trans h0.1,h.tape.trans h0.2,h.output.trans h0.3,Nat.le_trans h0.size h.size,fun k hk' =>
  (h.block k (Nat.lt_of_lt_of_le hk' h0.size) (fun e=>by have:=hk k e;omega)).trans (h0.block k hk')⟩
theorem Blk.only{K:Nat→Prop}{a b:World}{g:Nat}{t:TypeId}{cs:Array Value}(h:Blk a g t cs)(k:Only K a b)(hg: ¬K g):Blk b g t cs:=(k.block g h.lt hg).trans h
theorem own_only{K:Nat→Prop}{a b:World}{base:Nat}{e:TypeId}{size:Nat}{v:Value}{n:Nat}{xs:List Value}(h:a.ownsRow base e size v n xs)(k:Only K a b)(hv: ∀r,v.ownBlock=some r → ¬K r):b.ownsRow base e size v n xs:=by
 obtain⟨h1,h2⟩:=h;refine⟨h1,?_⟩;rcases h2 with h2|⟨g,cap,cur,hv',hg,hh,r⟩
 ·exact Or.inl h2
 ·refine Or.inr ⟨g,cap,cur,hv',hg,?_,r⟩;rw[k.block g (Array.getElem?_eq_some_iff.1 hh).1 (hv g (by rw[hv'];rfl))];exact hh
theorem SliceIs.only{K:Nat→Prop}{a b:World}{A:Option Addr}{n cap sz:Nat}{rows:List (List Value)}(h:SliceIs a A n cap sz rows)(k:Only K a b)(hA: ∀q,A=some q → ¬K q.block):SliceIs b A n cap sz rows:=by
 obtain⟨h1,h2,h3,h4,h5⟩:=h;refine⟨h1,h2,h3,h4,fun hn=> ?_⟩;obtain⟨g,off,rfl,hb,hc⟩:=h5 hn;refine⟨g,off,rfl,Nat.lt_of_lt_of_le hb k.size,fun i r hr j u hu=> ?_⟩;have:=hc i r hr j u hu;rw[←this];exact World.cell?_of_block (k.block g hb (hA _ rfl))
theorem own_typed{w:World}{base:Nat}{e:TypeId}{size:Nat}{v:Value}{n:Nat}{xs:List Value}(h:w.ownsRow base e size v n xs){r:Nat}(hr:v.ownBlock=some r): ∃cs,Blk w r e cs:=by
 rcases h.2 with⟨rfl,_⟩|⟨g,cap,cur,rfl,hg,hh,_⟩
 ·cases hr
 ·cases hr;exact⟨cur,hh⟩
theorem Blk.types{w:World}{g:Nat}{t t':TypeId}{cs cs':Array Value}(h:Blk w g t cs)(h':Blk w g t' cs'):t=t':=by
 have:=h.symm.trans h';cases this;rfl
def Fate(W w':World)(base:Nat)(e:TypeId)(size:Nat)(v v':Value)(n:Nat)(xs news:List Value):Prop :=
 w'.ownsRow base e size v' (n+1) (xs++news) ∧ ∃g cap,v' = .slice (some ⟨g,0,none⟩) (n+1) cap∧((v = .slice (some ⟨g,0,none⟩) n cap∧W.grownBy w' (some g))∨(W.heap.size≤g∧W.grownBy w' none))
section
variable {P:Program}
theorem run_append_fate(w:World)(base:Nat)(t ty e:TypeId)(i:TypeInfo)(z:Value)(size bytes:Nat)(ht:P.underlying t=some (.slice e))(hi:P.info? e=some i)(hz:i.zero=some z)
  (hsize:i.size=size) (hby:i.bytes=bytes) (hzs:z.cells.size=size) (hsz:0<size)
  (v:Value) (n:Nat) (xs:List Value) (hown:w.ownsRow base e size v n xs)
  (g c:Nat) (news:List Value) (hl:news.length=size) (hnews: ∀j,w.cell? ⟨g,j,none⟩=news[j]?) (h1: ∀u∈news,u.oneCell'=true)
  (h63:n+1≤maxLen) (hbytes:(n+1)*bytes≤140737488355328) (hbase:base≤w.heap.size) :
  ∃v' w',(Builtin.append_ #[t,t] ty #[v,.slice (some ⟨g,0,none⟩) 1 c]).run P w = .ok v' w'∧Fate w w' base e size v v' n xs news:=by
 have hl':news.length=1*size:=by omega
 have hn': ∀j u,news[j]? = some u→w.cell? ((⟨g,0,none⟩:Addr).add j)=some u:=fun j u hu=>by rw[add_zero_addr,hnews j];exact hu
 obtain⟨v',w',hr,h2,h3,h4⟩:=run_append_own (P:=P) w base t ty e i z size bytes ht hi hz hsize hby hzs hsz v n xs hown ⟨g,0,none⟩ 1 c news hl' hn' h1 h63 hbytes hbase;refine⟨v',w',hr,h2,?_⟩;rcases hown.2 with⟨rfl,rfl⟩|⟨b,cap,cur,rfl,hbg,hg,hnc,hcm,hcs,htake⟩
 ·have hx:xs = []:=List.eq_nil_of_length_eq_zero (by simpa using hown.1);subst hx;obtain⟨v2,w2,hr2,h5,h6,_⟩:=run_append_own (P:=P) w w.heap.size t ty e i z size bytes ht hi hz hsize hby hzs hsz (.slice none 0 0) 0 [] (World.ownsRow_nil w _ e size) ⟨g,0,none⟩ 1 c news hl' hn' h1 h63 hbytes (Nat.le_refl _);rw[hr] at hr2;cases hr2;obtain⟨b,cap,rfl⟩:=own_form h5 (by omega);exact⟨b,cap,rfl,Or.inr ⟨(h5.lt b rfl).1,h6⟩⟩
 ·by_cases hroom:n+1≤cap
  ·have hr2:=run_append_room (P:=P) w t ty e i ht hi b n cap cur hg ⟨g,0,none⟩ 1 c news (by rw[hsize];exact hl') hn' h1 hroom (by rw[hsize,hl',hcs,←Nat.add_mul];exact Nat.mul_le_mul_right _ hroom);rw[hr] at hr2;injection hr2 with e1 e2
   exact⟨b,cap,e1,Or.inl ⟨rfl,h3⟩⟩
  ·have hx: ∀j u,xs[j]? = some u→w.cell? ((⟨b,0,none⟩:Addr).add j)=some u:=hown.cells (g:=b) rfl;obtain⟨v2,w2,hr2,h5,h6⟩:=run_append_arg_grows (P:=P) w t ty e i z size bytes ht hi hz hsize hby hzs hsz ⟨b,0,none⟩ n cap xs hown.1 hx ⟨g,0,none⟩ 1 c news hl' hn' (by omega) h63 hbytes;rw[hr] at hr2;cases hr2;obtain⟨b2,cap2,rfl⟩:=own_form h5 (by omega);exact⟨b2,cap2,rfl,Or.inr ⟨(h5.lt b2 rfl).1,h6⟩⟩
theorem step_append_fate{w:World}{ops:Array Oper}{o:Oper}{a:Act}{K:Act→World→Prop}{Q:Exit→Act→World→Prop}{F:Prop}(hgd:o.guard=none)(s x:Operand)(t:TypeId)(ho:o.op = .call { callee:= .builtin .append,args:= #[s,x],argTypes:= #[t,t] })
  (base:Nat) (e:TypeId) (i:TypeInfo) (z:Value) (size bytes:Nat) (ht:P.underlying t=some (.slice e)) (hi:P.info? e=some i) (hz:i.zero=some z)
  (hsize:i.size=size) (hby:i.bytes=bytes) (hzs:z.cells.size=size) (hsz:0<size)
  (v:Value) (n:Nat) (xs:List Value) (hs:a.eval s=v) (hown:w.ownsRow base e size v n xs)
  (g c:Nat) (news:List Value) (hx:a.eval x = .slice (some ⟨g,0,none⟩) 1 c) (hl:news.length=size) (hnews: ∀j,w.cell? ⟨g,j,none⟩=news[j]?) (h1: ∀u∈news,u.oneCell'=true)
  (h63:n+1≤maxLen) (hbytes:(n+1)*bytes≤140737488355328) (hbase:base≤w.heap.size)
  (h: ∀v' w',Fate w w' base e size v v' n xs news→K (a.put o.dst v') w'):if Region.wanted o (yielded ops a.tmps)=true then o.wp P a w K Q else F:=by
 rw[if_pos (by simp[Region.wanted,hgd])];obtain⟨v',w',hr,hf⟩:=run_append_fate (P:=P) w base t o.type e i z size bytes ht hi hz hsize hby hzs hsz v n xs hown g c news hl hnews h1 h63 hbytes hbase;unfold Oper.wp execOp;simp only[ho,resolve,invoke,builtin,Sem.run_bind,Sem.run_pure,Result.andThen_ok,List.map_toArray,List.map_cons,List.map_nil,hs,hx,hr];exact h v' w' hf
end
theorem ownApart{w:World}{b b':Nat}{e e':TypeId}{sz sz':Nat}{v v':Value}{n n':Nat}{xs xs':List Value}(h:w.ownsRow b e sz v n xs)(h':w.ownsRow b' e' sz' v' n' xs')(he:e≠e'):v.ownBlock=none∨v.ownBlock≠v'.ownBlock:=by
 rcases h.2 with⟨rfl,_⟩|⟨g,cap,cur,rfl,_,hg,_⟩
 ·exact Or.inl rfl
 ·right;rcases h'.2 with⟨rfl,_⟩|⟨g',cap',cur',rfl,_,hg',_⟩
  ·intro e1;cases e1
  ·intro e1;simp only[Value.ownBlock,Option.some.injEq] at e1;subst e1;rw[hg] at hg';simp only[Option.some.injEq,Obj.cells.injEq] at hg';exact he hg'.2.1
theorem ownGrown{w w':World}{base:Nat}{e:TypeId}{size:Nat}{v:Value}{n:Nat}{xs:List Value}{row:Option Nat}(h:w.ownsRow base e size v n xs)(hg:w.grownBy w' row)(hr:v.ownBlock=none∨v.ownBlock≠row) :
  w'.ownsRow base e size v n xs :=
 own_only (K:=fun k=>row=some k) h (Only.of_grown hg fun _ e=>e) fun r hr' e=>by
  rcases hr with hr|hr
  ·rw[hr] at hr';cases hr'
  ·exact hr (hr'.trans e.symm)
theorem ownForm{w:World}{base:Nat}{e:TypeId}{size:Nat}{v:Value}{n:Nat}{xs:List Value}(h:w.ownsRow base e size v n xs): ∃A cap,v = .slice A n cap:=by
 rcases h.2 with⟨rfl,rfl⟩|⟨g,cap,cur,hv,_⟩
 ·exact⟨none,0,rfl⟩
 ·exact⟨_,cap,hv⟩
theorem blkGrown{w w':World}{g:Nat}{t:TypeId}{cs:Array Value}{b:Nat}{e:TypeId}{sz:Nat}{v:Value}{n:Nat}{xs:List Value}(h:Blk w g t cs)(own:w.ownsRow b e sz v n xs)(hg:w.grownBy w' v.ownBlock)(hne:t≠e):Blk w' g t cs:=by
 refine h.grown hg fun e1=> ?_;obtain⟨cs',h'⟩:=own_typed own e1.symm;unfold Blk at h h';rw[h] at h';cases h';exact hne rfl
section
variable {P:Program} {w:World} {ops:Array Oper} {o:Oper} {a:Act} {K:Act→World→Prop} {Q:Exit→Act→World→Prop} {F:Prop}
theorem step_append_any(hgd:o.guard=none)(s x:Operand)(t:TypeId)(ho:o.op = .call { callee:= .builtin .append,args:= #[s,x],argTypes:= #[t,t] })
  (base:Nat) (e:TypeId) (i:TypeInfo) (z:Value) (size bytes:Nat) (ht:P.underlying t=some (.slice e)) (hi:P.info? e=some i) (hz:i.zero=some z)
  (hsize:i.size=size) (hby:i.bytes=bytes) (hzs:z.cells.size=size) (hsz:0<size)
  (v:Value) (n:Nat) (xs:List Value) (hs:a.eval s=v) (hown:w.ownsRow base e size v n xs)
  (A:Option Addr) (m c:Nat) (rows:List (List Value)) (hx:a.eval x = .slice A m c) (hsrc:SliceIs w A m c size rows) (hnil:A=none→c=0) (h1: ∀u∈rows.flatten,u.oneCell'=true)
  (h63:n+m≤maxLen) (hbytes:(n+m)*bytes≤140737488355328) (hbase:base≤w.heap.size)
  (h: ∀v' w',w'.ownsRow base e size v' (n+m) (xs++rows.flatten)→w.grownBy w' v.ownBlock→K (a.put o.dst v') w'):if Region.wanted o (yielded ops a.tmps)=true then o.wp P a w K Q else F:=by
 rw[if_pos (by simp[Region.wanted,hgd])];have hfl:rows.flatten.length=m*size:=by rw[rowsF_len hsrc.wide,hsrc.len]
 cases A with
 | none =>
  obtain rfl:=hnil rfl;obtain rfl:m=0:=by
   have:=hsrc.le;omega
  have e0:rows.flatten = []:=List.eq_nil_of_length_eq_zero (by rw[hfl,Nat.zero_mul]);rw[e0,List.append_nil] at h;have hrun:=run_append_owned_none (P:=P) (w:=w) base t o.type e i size ht hi v n xs hown;unfold Oper.wp;simp[execOp,ho,resolve,invoke,builtin,hs,hx,hrun,Result.andThen];exact h _ _ hown (World.grownBy.refl _ _)
 | some ad =>
  refine wp_append_own w s x t ho base e i z size bytes ht hi hz hsize hby hzs hsz v n xs hs hown ad m c rows.flatten hx hfl (fun j u hu=> ?_) h1 h63 hbytes hbase fun v' w' h2 h3 _=>h v' w' h2 h3;by_cases hm:0<m
  ·obtain⟨b,off,hA,hc⟩:=hsrc.adds hm hsz;cases hA;exact hc j u hu
  ·obtain rfl:m=0:=by omega
   have e0:rows.flatten = []:=List.eq_nil_of_length_eq_zero (by rw[hfl,Nat.zero_mul]);rw[e0] at hu;simp at hu
end
def bcells(ks:List Knd)(b:Brk):List Pt:=sortP (placeP (kindAt ks b.kind.toNat).cells b.turn.toNat b.at_)
def overB(ks:List Knd)(bs:List Brk)(i k:Nat):Bool:=commonB (bcells ks (brkAt bs i)) (bcells ks (brkAt bs k))
def rowO(ks:List Knd)(bs:List Brk)(i m:Nat):List (Int×Int):=((List.range m).filter fun k=>decide (i<k)&&overB ks bs i k).map fun(k:Nat)=>((i:Int),(k:Int))
def overL(ks:List Knd)(bs:List Brk)(j:Nat):List (Int×Int):=(List.range j).flatMap fun i=>rowO ks bs i bs.length
theorem rowO_zero(ks:List Knd)(bs:List Brk)(i:Nat):rowO ks bs i (i+1) = []:=by
 unfold rowO;rw[List.map_eq_nil_iff,List.filter_eq_nil_iff];intro k hk;have:=List.mem_range.1 hk;simp;omega
theorem rowO_succ{ks:List Knd}{bs:List Brk}{i m:Nat}(h:i<m):rowO ks bs i (m+1)=rowO ks bs i m++if overB ks bs i m then [((i:Int),(m:Int))] else []:=by
 unfold rowO;rw[List.range_succ,List.filter_append,List.map_append];congr 1;cases hb:overB ks bs i m
 ·simp[hb]
 ·simp[hb,h]
theorem overL_succ(ks:List Knd)(bs:List Brk)(j:Nat):overL ks bs (j+1)=overL ks bs j++rowO ks bs j bs.length:=by
 unfold overL;rw[List.range_succ,List.flatMap_append];simp
theorem rowO_len(ks:List Knd)(bs:List Brk)(i m:Nat):(rowO ks bs i m).length≤m:=by
 unfold rowO;rw[List.length_map];exact Nat.le_trans (List.length_filter_le _ _) (by simp)
theorem overL_len(ks:List Knd)(bs:List Brk): ∀j,(overL ks bs j).length≤j*bs.length
 | 0=>by simp[overL]
 | j+1=>by
  rw[overL_succ,List.length_append,Nat.succ_mul];have:=overL_len ks bs j;have:=rowO_len ks bs j bs.length;omega
structure MFine(qs:List (Knd×KAt))(bs:List Brk):Prop where
 n:bs.length≤40
 b: ∀b∈bs,∃(i tn:Nat) (k:Knd) (p:KAt),b.kind=i∧b.turn=tn∧tn<24∧qs[i]? = some (k,p)∧k.Fine∧Pt.in_ 1000 b.at_∧b.byte
theorem mfine_of{w:World}{QA:Option Addr}{qc:Nat}{qs:List (Knd×KAt)}(hk:Kinds w QA qc qs){bs:List Brk}(hb: ∀b∈bs,b.byte)(h:modelErr (qs.map (·.1)) bs=0):MFine qs bs:=by
 by_cases h0:kindsErr (qs.map (·.1))=0;rotate_left
 ·rw[modelErr_kinds h0] at h;exact absurd h h0
 by_cases h1:40<bs.length
 ·rw[modelErr_many h0 h1] at h;cases h
 refine⟨by omega,fun b hm=> ?_⟩;rw[modelErr_few h0 h1] at h;unfold askedErr at h;rw[if_pos h0] at h
 split at h
 rotate_left
 ·cases h
 rename_i h2;obtain⟨j,hj⟩:=List.getElem?_of_mem hm;have h3:=allR_at h2 (List.getElem?_eq_some_iff.1 hj).1;rw[brkAt_eq hj] at h3;have hby:=hb b hm;obtain⟨kd,at_,t,c⟩:=b;obtain⟨i,k,p,a1,a2,a3,a4,a5⟩:=asked_kind hk (b:=⟨kd,at_,t,c⟩) (askedErr_good h0 (fun i hi=>by
  have hi0:i=0:=by simpa using hi
  subst hi0
  exact h3))
 have hb1:=hby.1.1;simp only at a1 a5 hb1;exact⟨i,t.toNat,k,p,a1,by show t=_;omega,by omega,a2,a3,near_in' a4,hby⟩
theorem bcells_is{qs:List (Knd×KAt)}{b:Brk}{i tn:Nat}{k:Knd}{p:KAt}(h1:b.kind=i)(h2:b.turn=tn)(hi:qs[i]? = some (k,p)):bcells (qs.map (·.1)) b=sortP (placeP k.cells tn b.at_):=by
 unfold bcells kindAt;rw[h1,h2];simp[hi]
structure Ov8(W0:World)(vQ vI vK vb vb':Value)(G:Addr)(B:Option Addr)(bn cb:Nat)(p1 p2:Addr)(n1 n2:Nat)(L1 L2:List Pt)(r:Bool)(L:Nat→Bool)(us:Nat→Value)(w:World):Prop where
 x:Ext W0 w
 f0:L 0=true→us 0=vQ
 f1:L 1=true→us 1 = .pointer (some G)
 f2:L 2=true→us 2 = .slice B bn cb
 f3:L 3=true→us 3=vI
 f4:L 4=true→us 4 = .pointer (some p1)
 f5:L 5=true→us 5=vb
 f6:L 6=true→RowV w (us 6) n1 L1
 f7:L 7=true→us 7=vQ
 f8:L 8=true→us 8 = .pointer (some G)
 f9:L 9=true→us 9 = .slice B bn cb
 f10:L 10=true→us 10=vK
 f11:L 11=true→us 11 = .pointer (some p2)
 f12:L 12=true→us 12=vb'
 f13:L 13=true→RowV w (us 13) n2 L2
 f14:L 14=true→us 14 = .bool r
theorem info2:(Tryz.prog.info? 198).map (fun i=>(i.zero,i.size,i.bytes))=some (some (.agg #[.int .i64 0,.int .i64 0]),2,16):=by kernel_rfl
def PrsPost(l:List (Int×Int))(w:World)(e:Ending)(w':World):Prop:= ∃A cap,e = .returned (.slice A l.length cap)∧Prs w' A cap l∧Ext w w'
theorem rRow{w:World}{v:Value}{n:Nat}{l:List Pt}(h:RowV w v n l)(hn:l.length=n): ∃g cp,v = .slice (some ⟨g,0,none⟩) n cp∧Cells w (some ⟨g,0,none⟩) cp l:=by
 obtain⟨cp,h1,h2,h3,h4⟩:=h;refine⟨_,cp,h1,?_⟩;unfold Cells;rw[hn];exact RowX.slice h4 (pts_wide l) (by rw[List.length_map,hn]) h2 h3
theorem overlapping_c(qs:List (Knd×KAt))(QA:Option Addr)(qc:Nat)(bs:List Brk)(B:Option Addr)(cb:Nat)(w:World)(hk:Kinds w QA qc qs)(hb:Bricks w B cb bs)(hf:MFine qs bs) :
  Calls Tryz.prog 78 #[.slice QA qs.length qc,.agg #[.slice B bs.length cb]] w (PrsPost (overL (qs.map (·.1)) bs bs.length) w):=by
 have hbn:=hf.n;obtain⟨W1,hW1,E1,B1,hz1⟩:=mk_ w #[.slice B bs.length cb] 25;have b1:=B1.cell;obtain⟨T,hT⟩:=nm w.heap.size;have hTW:T<W1.heap.size:=by omega
 have HZ:=h_ (show W1.heap.size=T+1 by omega);rw[hT] at B1;clear hz1;have HT:=h_ hT;have PL:=h_ (fun(b:Brk) (hm:b∈bs)=>hf.b b hm);have PLc:=h_ (fun(W:World) (E:Ext w W) (i tn:Nat) (k:Knd) (p:KAt) (x y z c:Int) (hi:qs[i]? = some (k,p)) (hkf:k.Fine) (ht:tn<24) (hp:Pt.in_ 1000 ⟨x,y,z⟩) =>
  rPlaced_c qs QA qc i k.cells k.knobs k.weight p.A p.ca p.B p.cb hi tn x y z c W (hk.ext E) hkf.pos (Nat.le_trans hkf.len (by omega)) hkf.cok ht (hp.ok (by omega)))
 obtain⟨nq,hnq⟩:=nm qs.length;obtain⟨nb,hnb⟩:=nm bs.length;rw[hnq] at PLc ⊢;rw[hnb] at hbn ⊢;have Hnb:=h_ hnb;rw[hnb] at B1 hW1 b1;rw[hT] at b1;have HB:=h_ hb;obtain⟨ks,hks⟩:=nm (qs.map (·.1));have Hks:=h_ hks;rw[hks];clear hnq hnb hks hf hk hb hT;go_enter Tryz.func78,Tryz.ntmps78;go_wp2_with fail;rw[HT.out];obtain⟨i0,hi0,hz0,hz1,hz2⟩:=info_parts info2;clear hW1 b1;go_loopw [5,6] (fun v ii wr=> ∃(j:Nat) (u:Value),j≤nb∧ii = .int .i64 j∧u=v∧Ext W1 wr∧wr.ownsRow (T+1) 198 2 u (overL ks bs j).length ((overL ks bs j).map prC).flatten) (fun _ ii _=>nb-(intOf ii).toNat)
 case atStart=>exact⟨0,_,by omega,rfl,rfl,Ext.refl W1,World.ownsRow_nil _ _ _ _⟩
 case round =>
  obtain⟨j,v,hj,rfl,rfl,Er,own⟩:=hrel;have b1:=(B1.ext Er).cell;have hlen:=overL_len ks bs j;rw[Hnb.out] at hlen;have hlen2:(overL ks bs j).length≤1600:=Nat.le_trans hlen (Nat.le_trans (Nat.mul_le_mul hj (Nat.le_refl nb)) (Nat.mul_le_mul hbn hbn));clear hlen;by_cases hlt:j<nb
  ·obtain⟨g,off,⟨kd,⟨x,y,z⟩,t,c⟩,rfl,hq,-,hg,-,-,-,-,-,-⟩:=(HB.out.ext E1).at_ (k:=j) (by rw[Hnb.out];exact hlt);obtain⟨i,tn,kk,p,e1,e2,htn,hqi,hkf,hpt,-⟩:=PL.out _ (List.mem_of_getElem? hq);simp only at e1 e2 hpt;subst e1 e2;have Hbc:=h_ (show bcells ks (brkAt bs j)=sortP (placeP kk.cells tn ⟨x,y,z⟩) by rw[brkAt_eq hq,←Hks.out];exact bcells_is rfl rfl hqi);have P1:=h_ (fun W E=>PLc.out W E i tn kk p x y z c hqi hkf htn hpt);have hc:=SliceIs.cells (HB.out.ext E1).1 (by rw[Hnb.out];omega);obtain⟨g',off',hgo,-,hcell⟩:=hc;cases hgo;have hr1:(bs.map Brk.cs)[j]? = some [.int .i64 i,.int .i64 x,.int .i64 y,.int .i64 z,.int .u8 tn,.int .u8 c]:=by rw[List.getElem?_map,hq];rfl
   have Hc1:=h_ (fun k u (h:([.int .i64 i,.int .i64 x,.int .i64 y,.int .i64 z,.int .u8 tn,.int .u8 c]:List Value)[k]? = some u)=>hcell _ _ hr1 k u h);have Hcell:=h_ hcell;clear hq hqi hkf hpt htn hcell hr1;go_wp2_with fail;have Hown:=h_ own;clear b1;go_loopw [5,7] (fun v ii wr'=> ∃(m:Nat) (u:Value),j+1≤m∧m≤nb∧ii = .int .i64 m∧u=v∧Ext W1 wr'∧wr'.ownsRow (T+1) 198 2 u (overL ks bs j++rowO ks bs j m).length ((overL ks bs j++rowO ks bs j m).map prC).flatten) (fun _ ii _=>nb-(intOf ii).toNat)
   case atStart=>exact⟨j+1,_,by omega,by omega,by go_num,rfl,Er,by rw[rowO_zero,List.append_nil];exact own⟩
   case round =>
    clear own Hown Er;obtain⟨m,v2,hjm,hm,rfl,rfl,Er,own⟩:=hrel;have b1:=(B1.ext Er).cell;have hlen3:=rowO_len ks bs j m;by_cases hmt:m<nb
    ·have hq2:bs[m]? = some (bs[m]'(by rw[Hnb.out];exact hmt)):=List.getElem?_eq_getElem _;obtain⟨i2,tn2,k2,p2,e1,e2,htn2,hqi2,hkf2,hpt2,-⟩:=PL.out _ (List.mem_of_getElem? hq2);obtain⟨⟨kd2,⟨x2,y2,z2⟩,t2,c2⟩,hbb⟩:=nm (bs[m]'(by rw[Hnb.out];exact hmt));rw[hbb] at hq2 e1 e2 hpt2;simp only at e1 e2 hpt2;subst e1 e2;have Hbc2:=h_ (show bcells ks (brkAt bs m)=sortP (placeP k2.cells tn2 ⟨x2,y2,z2⟩) by rw[brkAt_eq hq2,←Hks.out];exact bcells_is rfl rfl hqi2);have P2:=h_ (fun W E=>PLc.out W E i2 tn2 k2 p2 x2 y2 z2 c2 hqi2 hkf2 htn2 hpt2);have hr2:(bs.map Brk.cs)[m]? = some [.int .i64 i2,.int .i64 x2,.int .i64 y2,.int .i64 z2,.int .u8 tn2,.int .u8 c2]:=by rw[List.getElem?_map,hq2];rfl
     have Hc2:=h_ (fun k u (h:([.int .i64 i2,.int .i64 x2,.int .i64 y2,.int .i64 z2,.int .u8 tn2,.int .u8 c2]:List Value)[k]? = some u)=>Hcell.out _ _ hr2 k u h);obtain⟨L1,hL1⟩:=nm (sortP (placeP kk.cells tn ⟨x,y,z⟩));obtain⟨L2,hL2⟩:=nm (sortP (placeP k2.cells tn2 ⟨x2,y2,z2⟩));obtain⟨n1,hn1⟩:=nm kk.cells.length;obtain⟨n2,hn2⟩:=nm k2.cells.length;obtain⟨r,hr⟩:=nm (commonB L1 L2);have Hl1:=h_ (show L1.length=n1 by rw[←hL1,sortP_len,placeP_len,hn1]);have Hl2:=h_ (show L2.length=n2 by rw[←hL2,sortP_len,placeP_len,hn2]);have Hr:=h_ hr;have Hov:=h_ (show overB ks bs j m=r by unfold overB;rw[Hbc.out,Hbc2.out,hL1,hL2];exact hr);have Hro:=h_ (rowO_succ (ks:=ks) (bs:=bs) (i:=j) (m:=m) (by omega));rw[hL1,hn1] at P1;rw[hL2,hn2] at P2;have j1:(0:Int)≤j:=by omega
     have j2:(j:Int)<nb:=by omega
     have m1:(0:Int)≤m:=by omega
     have m2:(m:Int)<nb:=by omega
     have HB1:=h_ (B1.ext Er);have HEr:=h_ Er;have HE1:=h_ E1;have Hown:=h_ own;have hzr:=Er.size;clear hq2 hbb hqi2 hkf2 hpt2 htn2 hr2 hL1 hL2 hn1 hn2 hr
     go_upto_region 8 with(fail)
     clear b1 own;refine wp_region_by (Ov8 wr (.slice QA nq qc) (.int .i64 j) (.int .i64 m) (.agg #[.int .i64 i,.int .i64 x,.int .i64 y,.int .i64 z,.int .u8 tn,.int .u8 c]) (.agg #[.int .i64 i2,.int .i64 x2,.int .i64 y2,.int .i64 z2,.int .u8 tn2,.int .u8 c2]) ⟨T,0,none⟩ (some ⟨g,off,none⟩) nb cb ⟨g,off+j*6,none⟩ ⟨g,off+m*6,none⟩ n1 n2 L1 L2 r) (by kernel_rfl) (by kernel_rfl) (by kernel_rfl) (fun us=>⟨(Ext.refl _).drew,(nofun),(nofun),(nofun),(nofun),(nofun),(nofun),(nofun),(nofun),(nofun),(nofun),(nofun),(nofun),(nofun),(nofun),(nofun)⟩) ⟨?_,?_,?_,?_,?_,?_,?_,?_,?_,?_,?_,?_,?_,?_,?_,trivial⟩ ?_
     any_goals (intro L us wx K a ha hp hd hun hI hK;replace hp:=h_ hp;replace hd:=h_ hd;simp only[putAll,Act.put,zs,Nat.reduceAdd] at ha;subst ha;simp only[Act.put,zs] at hK)
     ·go_simp;exact hK _ _ {hI with f0:=fun _=>rfl}
     ·go_simp;exact hK _ _ {hI with f1:=fun _=>rfl}
     ·have bb:=(HB1.out.ext hI.x).cell;rw[hI.f1 (h_p hp 1)] at hK ⊢;go_simp;exact hK _ _ {hI with f2:=fun _=>rfl}
     ·go_simp;exact hK _ _ {hI with f3:=fun _=>rfl}
     ·rw[hI.f2 (h_p hp 2),hI.f3 (h_p hp 3)] at hK ⊢;go_simp;exact hK _ _ {hI with f4:=fun _=>rfl}
     ·have EX:=HEr.out.trans hI.x;have d0:=EX.cell (Hc1.out 0 _ rfl);have d1:=EX.cell (Hc1.out 1 _ rfl);have d2:=EX.cell (Hc1.out 2 _ rfl);have d3:=EX.cell (Hc1.out 3 _ rfl);have d4:=EX.cell (Hc1.out 4 _ rfl);have d5:=EX.cell (Hc1.out 5 _ rfl);simp only[Nat.add_zero] at d0;clear EX;rw[hI.f4 (h_p hp 4)] at hK ⊢;go_simp;exact hK _ _ {hI with f5:=fun _=>rfl}
     ·have EX:=h_ ((HE1.out.trans HEr.out).trans hI.x);rw[hI.f0 (h_p hp 0),hI.f5 (h_p hp 5)] at hK ⊢;go_simp;go_at_call 68;refine(P1.out _ EX.out).mono ?_;rintro e wn ⟨g2,cp,hg,rfl,q1,q2,X,En⟩;go_simp;refine hK _ _ ?_;refine {hI with x:=hI.x.trans En,f6:= ?_,f13:= ?_}<;>(first|exact fun h=>(hI.f6 h).ext En|exact fun h=>own_ext (hI.f6 h) En|exact fun h=>(hI.f13 h).ext En|exact fun h=>own_ext (hI.f13 h) En|exact fun _=>rfl|skip)
      all_goals exact fun _=>⟨cp,rfl,q1,q2,X⟩
     ·go_simp;exact hK _ _ {hI with f7:=fun _=>rfl}
     ·go_simp;exact hK _ _ {hI with f8:=fun _=>rfl}
     ·have bb:=(HB1.out.ext hI.x).cell;rw[hI.f8 (h_p hp 8)] at hK ⊢;go_simp;exact hK _ _ {hI with f9:=fun _=>rfl}
     ·go_simp;exact hK _ _ {hI with f10:=fun _=>rfl}
     ·rw[hI.f9 (h_p hp 9),hI.f10 (h_p hp 10)] at hK ⊢;go_simp;exact hK _ _ {hI with f11:=fun _=>rfl}
     ·have EX:=HEr.out.trans hI.x;have d0:=EX.cell (Hc2.out 0 _ rfl);have d1:=EX.cell (Hc2.out 1 _ rfl);have d2:=EX.cell (Hc2.out 2 _ rfl);have d3:=EX.cell (Hc2.out 3 _ rfl);have d4:=EX.cell (Hc2.out 4 _ rfl);have d5:=EX.cell (Hc2.out 5 _ rfl);simp only[Nat.add_zero] at d0;clear EX;rw[hI.f11 (h_p hp 11)] at hK ⊢;go_simp;exact hK _ _ {hI with f12:=fun _=>rfl}
     ·have EX:=h_ ((HE1.out.trans HEr.out).trans hI.x);rw[hI.f7 (h_p hp 7),hI.f12 (h_p hp 12)] at hK ⊢;go_simp;go_at_call 68;refine(P2.out _ EX.out).mono ?_;rintro e wn ⟨g2,cp,hg,rfl,q1,q2,X,En⟩;go_simp;refine hK _ _ ?_;refine {hI with x:=hI.x.trans En,f6:= ?_,f13:= ?_}<;>(first|exact fun h=>(hI.f6 h).ext En|exact fun h=>own_ext (hI.f6 h) En|exact fun h=>(hI.f13 h).ext En|exact fun h=>own_ext (hI.f13 h) En|exact fun _=>rfl|skip)
      all_goals exact fun _=>⟨cp,rfl,q1,q2,X⟩
     ·have u6:=hI.f6 (h_p hp 6);have u13:=hI.f13 (h_p hp 13);obtain⟨g1,cp1,v6,S1⟩:=rRow u6 Hl1.out;obtain⟨g2,cp2,v13,S2⟩:=rRow u13 Hl2.out;have CC:=rCommon_c _ _ _ _ L1 L2 wx S1 S2;rw[Hl1.out,Hl2.out,Hr.out] at CC;clear S1 S2 u6 u13;rw[v6,v13] at hK ⊢;go_simp;go_at_call 114;refine(CC).mono ?_;rintro e wn ⟨rfl,En⟩;go_simp;refine hK _ _ ?_;refine {hI with x:=hI.x.trans En,f6:= ?_,f13:= ?_,f14:= ?_}<;>(first|exact fun h=>(hI.f6 h).ext En|exact fun h=>own_ext (hI.f6 h) En|exact fun h=>(hI.f13 h).ext En|exact fun h=>own_ext (hI.f13 h) En|exact fun _=>rfl|skip)
     intro L us wx hall hI;have e14:=hI.f14 (hall 14 (by simp));have EX:=hI.x;simp only[putAll,Act.put,zs,Nat.reduceAdd,e14];clear hall hI e14;have own:=own_ext Hown.out EX;have ErX:=HEr.out.trans EX;cases r
     ·go_wp2_with fail;go_roundw
      case rel=>exact⟨m+1,_,by omega,by omega,by go_num,rfl,ErX,by rw[Hro.out,Hov.out];simpa using own⟩
      case measure=>simp only[intOf];omega
     ·have hlX:(overL ks bs j++rowO ks bs j m).length+1≤maxLen:=by rw[List.length_append];unfold maxLen;omega
      have hby:((overL ks bs j++rowO ks bs j m).length+1)*16≤140737488355328:=by rw[List.length_append];omega
      have hTx:T+1≤wx.heap.size:=by have:=EX.size;omega
      go_wp2_with (at_builtin;refine wpList_append_one #[.int .i64 j,.int .i64 m] rfl (.tmp 39) (.tmp 43) 147 rfl (T+1) 198 198 i0 _ 2 16 Tryz.underlying147 hi0 hz0 hz1 hz2 rfl (by decide) _ _ _ _ rfl own rfl rfl (by simp[Value.oneCell']) hlX hby hTx ?_;intro g7 cap7 w7 own7 hg7);go_roundw
      case rel =>
       refine⟨m+1,_,by omega,by omega,by go_num,rfl,(ErX.alloc _).grown hg7 (fun r hr=>by have:=(own.lt r hr).1;have:=HZ.out;omega),?_⟩;rw[Hro.out,Hov.out,if_pos rfl,←List.append_assoc];obtain⟨Z,hZ⟩:=nm (overL ks bs j++rowO ks bs j m);rw[hZ,List.length_append,List.map_append,List.flatten_append];rw[←List.length_append,hZ];rw[hZ] at own7;exact own7
      case measure=>simp only[intOf];omega
    ·obtain rfl:m=nb:=by omega
     clear hlen3;go_wp2_with fail;go_roundw
     case rel=>exact⟨j+1,_,by omega,by go_num,rfl,Er,by rw[overL_succ,Hnb.out];exact own⟩
     case measure=>simp only[intOf];omega
  ·obtain rfl:j=nb:=by omega
   go_wp2_with fail;go_ret;obtain⟨RA,rc,rfl,h1,-⟩:=own_slice0 (rows:=(overL ks bs j).map prC) (fun r hr=>by obtain⟨y,-,rfl⟩:=List.mem_map.1 hr;rfl) (by rw[List.length_map]) own;exact⟨RA,rc,rfl,h1,E1.trans Er⟩
def checkErr(ks:List Knd)(bs:List Brk):Int:=if modelErr ks bs=0 then(if overL ks bs bs.length = [] then 0 else 12) else modelErr ks bs
theorem checkErr_bad{ks:List Knd}{bs:List Brk}{e:Int}(h:modelErr ks bs=e)(h0:e≠0):checkErr ks bs=e:=by rw[checkErr,h,if_neg h0]
theorem checkErr_nil{ks:List Knd}{bs:List Brk}(h:modelErr ks bs=0)(h0:overL ks bs bs.length = []):checkErr ks bs=0:=by rw[checkErr,if_pos h,if_pos h0]
theorem checkErr_over{ks:List Knd}{bs:List Brk}(h:modelErr ks bs=0)(h0:overL ks bs bs.length ≠ []):checkErr ks bs=12:=by rw[checkErr,if_pos h,if_neg h0]
theorem rBricks_is{qs:List (Knd×KAt)}{A:Option Addr}{cap:Nat}{bs:List Brk}{B:Option Addr}{cb:Nat}{e0:Int}(h:modelErr (qs.map (·.1)) bs=e0){w:World}(hk:Kinds w A cap qs)(hb:Bricks w B cb bs) :
  Calls Tryz.prog 77 #[.slice A qs.length cap,.agg #[.slice B bs.length cb]] w fun e w'=>e = .returned (.int .i64 e0)∧Ext w w':=by
 subst h;exact rBricks_c _ _ _ _ _ _ _ hk hb
def ovRes(ks:List Knd)(bs:List Brk):List (Int×Int):=if modelErr ks bs=0 then overL ks bs bs.length else []
def PrsRes(l:List (Int×Int))(e0:Int)(w:World)(e:Ending)(w':World):Prop:= ∃A cap,e = .returned (.tuple #[.slice A l.length cap,.int .i64 e0])∧Prs w' A cap l∧Ext w w'
theorem prs_nil(w:World):Prs w none 0 []:=⟨rfl,Nat.le_refl _,Nat.zero_le _,by simp,fun h=>by cases h⟩
theorem rCheck_c(qs:List (Knd×KAt))(QA:Option Addr)(qc:Nat)(bs:List Brk)(B:Option Addr)(cb:Nat)(w:World)(hk:Kinds w QA qc qs)(hb:Bricks w B cb bs) :
  Calls Tryz.prog 41 #[.slice QA qs.length qc,.agg #[.slice B bs.length cb]] w fun e w'=>e = .returned (.int .i64 (checkErr (qs.map (·.1)) bs))∧Ext w w':=by
 obtain⟨W1,hW1,E1,B1,hz1⟩:=mk_ w #[.slice B bs.length cb] 25;have b1:=B1.cell;clear hz1;obtain⟨r,hr⟩:=nm (modelErr (qs.map (·.1)) bs);have CB:=rBricks_is hr (hk.ext E1) (hb.ext E1);by_cases h0:r=0
 ·subst h0;have OV:=h_ (fun W (E:Ext w W)=>overlapping_c qs QA qc bs B cb W (hk.ext E) (hb.ext E) (mfine_of hk hb.2 hr));obtain⟨L,hL⟩:=nm (overL (qs.map (·.1)) bs bs.length);rw[hL] at OV;by_cases hn:L.length=0
  ·have Hv:=h_ (checkErr_nil hr (by rw[hL];exact List.eq_nil_of_length_eq_zero hn));have hn': ¬(0:Int)<L.length:=by omega
   clear hr hL hn hk hb;go_enter Tryz.func41,Tryz.ntmps41;go_wp2_with fail;refine CB.mono ?_;rintro e W2 ⟨rfl,E2⟩;have b2:=(B1.ext E2).cell;go_wp2_with fail;refine(OV.out _ (E1.trans E2)).mono ?_;rintro e W3 ⟨RA,rc,rfl,S1,E3⟩;go_wp2_with fail;go_ret;exact⟨by rw[Hv.out];rfl,(E1.trans E2).trans E3⟩
  ·have Hv:=h_ (checkErr_over hr (by rw[hL];rintro rfl;exact hn rfl));have hn':(0:Int)<L.length:=by omega
   clear hr hL hn hk hb;go_enter Tryz.func41,Tryz.ntmps41;go_wp2_with fail;refine CB.mono ?_;rintro e W2 ⟨rfl,E2⟩;have b2:=(B1.ext E2).cell;go_wp2_with fail;refine(OV.out _ (E1.trans E2)).mono ?_;rintro e W3 ⟨RA,rc,rfl,S1,E3⟩;go_wp2_with fail;go_ret;exact⟨by rw[Hv.out];rfl,(E1.trans E2).trans E3⟩
 ·have Hv:=h_ (checkErr_bad hr h0);have h1:(r != 0)=true:=by simpa using h0
  clear hr h0 hk hb;go_enter Tryz.func41,Tryz.ntmps41;go_wp2_with fail;refine CB.mono ?_;rintro e W2 ⟨rfl,E2⟩;go_wp2_with fail;go_ret;exact⟨by rw[Hv.out];rfl,E1.trans E2⟩
end Go.Proofs.YtojolpbpjimfgaaGreatDoor
