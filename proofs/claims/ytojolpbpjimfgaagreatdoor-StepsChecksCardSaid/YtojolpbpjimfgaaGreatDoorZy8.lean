/- Texts of the proof: Inverse, Compose, PairKey, BrickM, SameM, RowsA. -/
import Derived.Test.YtojolpbpjimfgaaGreatDoorZy1
import Derived.Test.YtojolpbpjimfgaaGreatDoorZy2
import Derived.Test.YtojolpbpjimfgaaGreatDoorZy3
import Derived.Test.YtojolpbpjimfgaaGreatDoorZy6
import Derived.Test.YtojolpbpjimfgaaGreatDoorZy7
import Derived.ChangeKeysEq
import Derived.Laws.StructEq
import Derived.Laws.MakeOwn
set_option maxHeartbeats 3200000
namespace Go.Proofs.YtojolpbpjimfgaaGreatDoor
open Go.RowKit
def invT(a:Nat):Nat:=((List.range 24).find? fun n=>compT a n==0).getD 0
end Go.Proofs.YtojolpbpjimfgaaGreatDoor
namespace Go.Proofs.YtojolpbpjimfgaaGreatDoor
open Go.RowKit Go.Shelf
attribute [local go_sem] Oper.semAt_some
deriving instance DecidableEq for Pt
end Go.Proofs.YtojolpbpjimfgaaGreatDoor
namespace Go.Proofs.YtojolpbpjimfgaaGreatDoor
open Go.RowKit
def encPt(p:Pt):Value:= .agg #[.int .i64 p.x,.int .i64 p.y,.int .i64 p.z]
theorem pt_equal(w:World)(a b c d e f:Int):(Op.equal 124 (.agg #[.int .i64 a,.int .i64 b,.int .i64 c]) (.agg #[.int .i64 d,.int .i64 e,.int .i64 f])).run Tryz.prog w = .ok (decide (a=d)&&(decide (b=e)&&decide (c=f))) w:=by
 have u3:=Tryz.underlying3;have hS:Tryz.prog.underlying 124=some (.struct (Tryz.prog.fieldsOf 124)):=by kernel_rfl
 have hp:Tryz.prog.stoodInHeld 124=false:=by kernel_rfl
 rw[Op.equal,Op.maxDepth,show(10000:Nat)=9999+1 from rfl,run_equalIn_agg w 9999 _ _ _ hS hp];simp only[Program.fieldsOf,Tryz.underlying124];go_simp;by_cases h1:a=d <;> by_cases h2:b=e <;> by_cases h3:c=f <;> simp[h1,h2,h3]
theorem ptKey:KeyEnc Tryz.prog 124 encPt where
 wide:=by kernel_rfl
 eq w x y:=by
  obtain⟨a,b,c⟩:=x;obtain⟨d,e,f⟩:=y;rw[encPt,encPt,pt_equal];simp[Pt.mk.injEq]
 check w em x:=by
  obtain⟨a,b,c⟩:=x;show(Instr.checkKey em 10000 124 (.agg #[.int .i64 a,.int .i64 b,.int .i64 c])).run Tryz.prog w = .ok () w
  kernel_rfl
 same x:=by
  obtain⟨a,b,c⟩:=x;simp[encPt,Instr.sameBits]
def encPr(x:Int×Int):Value:= .agg #[.int .i64 x.1,.int .i64 x.2]
theorem pr_eq(w:World)(a b c d:Int):(Op.equal 198 (.agg #[.int .i64 a,.int .i64 b]) (.agg #[.int .i64 c,.int .i64 d])).run Tryz.prog w = .ok (decide (a=c)&&decide (b=d)) w:=by
 have u3:=Tryz.underlying3;have hS:Tryz.prog.underlying 198=some (.array 2 3):=by kernel_rfl
 have hc:Tryz.prog.cellsOf 3=1:=by kernel_rfl
 obtain⟨i,hi⟩: ∃i,Tryz.prog.info? 3=some i:=Option.isSome_iff_exists.1 (by kernel_rfl);rw[Op.equal,Op.maxDepth,show(10000:Nat)=9999+1 from rfl,run_equalIn_array w 9999 _ _ hS hi,hc];clear hi;simp only[show List.range 2 = [0,1] from rfl,Op.eqItems];go_simp;by_cases h1:a=c <;> by_cases h2:b=d <;> simp[h1,h2]
theorem prKey:KeyEnc Tryz.prog 198 encPr where
 wide:=by kernel_rfl
 eq w x y:=by
  obtain⟨a,b⟩:=x;obtain⟨c,d⟩:=y;rw[encPr,encPr,pr_eq];simp
 check w em x:=by
  obtain⟨a,b⟩:=x;show(Instr.checkKey em 10000 198 (.agg #[.int .i64 a,.int .i64 b])).run Tryz.prog w = .ok () w
  kernel_rfl
 same x:=by
  obtain⟨a,b⟩:=x;simp[encPr,Instr.sameBits]
def modelErr(ks:List Knd)(bs:List Brk):Int:=if kindsErr ks=0 then(if 40<bs.length then 4 else if bricksB ks.length bs then 0 else 11) else kindsErr ks
theorem modelErr_kinds{ks:List Knd}{bs:List Brk}(h:kindsErr ks≠0):modelErr ks bs=kindsErr ks:=if_neg h
theorem modelErr_many{ks:List Knd}{bs:List Brk}(h:kindsErr ks=0)(hb:40<bs.length):modelErr ks bs=4:=by rw[modelErr,if_pos h,if_pos hb]
theorem modelErr_few{ks:List Knd}{bs:List Brk}(h:kindsErr ks=0)(hb: ¬40<bs.length):modelErr ks bs=askedErr ks bs:=by rw[modelErr,if_pos h,if_neg hb,askedErr,if_pos h]
theorem rBricks_c(qs:List (Knd×KAt))(A:Option Addr)(cap:Nat)(bs:List Brk)(B:Option Addr)(cb:Nat)(w:World)(hk:Kinds w A cap qs)(hb:Bricks w B cb bs) :
  Calls Tryz.prog 77 #[.slice A qs.length cap,.agg #[.slice B bs.length cb]] w fun e w'=>e = .returned (.int .i64 (modelErr (qs.map (·.1)) bs))∧Ext w w':=by
 have hl1:qs.length≤maxLen:=hk.len;have hl2:bs.length≤9223372036854775807:=by have:=hb.len;unfold maxLen at this;omega
 obtain⟨W1,hW1,E1,B1,hz1⟩:=mk_ w #[.slice B bs.length cb] 25;have b1:=B1.cell;clear hz1;obtain⟨r,hr⟩:=nm (kindsErr (qs.map (·.1)));by_cases h0:r=0;rotate_left
 ·have Hb:=h_ (show modelErr (qs.map (·.1)) bs=r by rw[modelErr_kinds (by rw[hr];exact h0),hr]);have CK:=rCheckKinds_is hr (hk.ext E1);have h1:(r != 0)=true:=by simpa using h0
  clear hr h0;go_enter Tryz.func77,Tryz.ntmps77;go_wp2_with fail;refine CK.mono ?_;rintro v w2 ⟨rfl,E2⟩;go_wp2_with fail;go_ret;exact⟨by rw[Hb.out];rfl,E1.trans E2⟩
 subst h0;have CK:=rCheckKinds_is hr (hk.ext E1);have Hr:=h_ hr;clear hr;have Hml:=h_ (show(qs.map (·.1)).length=qs.length from List.length_map _);by_cases a1:(40:Int)<bs.length
 ·have Hb:=h_ (modelErr_many (bs:=bs) Hr.out (by omega));go_enter Tryz.func77,Tryz.ntmps77;go_wp2_with fail;refine CK.mono ?_;rintro v w2 ⟨rfl,E2⟩;have b2:=(B1.ext E2).cell;go_wp2_with fail;go_ret;exact⟨by rw[Hb.out];rfl,E1.trans E2⟩
 have Hf:=h_ (modelErr_few (bs:=bs) Hr.out (by omega));go_enter Tryz.func77,Tryz.ntmps77;go_wp2_with fail;refine CK.mono ?_;rintro v w2 ⟨rfl,E2⟩;have b2:=(B1.ext E2).cell;go_wp2_with fail;go_loopw [6] (fun i wr=> ∃j:Nat,j≤bs.length∧i = .int .i64 j∧Ext W1 wr∧Hid (∀i,i<j→(brkAt bs i).ok qs.length=true)) (fun i _=>bs.length-(intOf i).toNat)
 case atStart=>exact⟨0,by omega,rfl,E2,h_ (fun i hi=>by omega)⟩
 case round =>
  obtain⟨j,hj,rfl,E,Hj⟩:=hrel;have b3:=(B1.ext E).cell;have E0:=E1.trans E;clear b1 b2 E2 hW1;by_cases hlt:j<bs.length
  ·obtain⟨g,off,⟨k,⟨x,y,z⟩,t,c⟩,rfl,hq,-,hg,c0,c1,c2,c3,c4,c5⟩:=(hb.ext E0).at_ hlt;simp only at c0 c1 c2 c3 c4 c5;have Hq:=h_ hq;have j1:(0:Int)≤j:=by omega
   have j2:(j:Int)<bs.length:=by omega
   clear hq;cases hv:Brk.ok qs.length ⟨k,⟨x,y,z⟩,t,c⟩
   ·have Hb:=h_ (askedErr_bad (bs:=bs) Hr.out hlt (by rw[brkAt_eq Hq.out,Hml.out];exact hv));have HV:=h_ (fun W=>rValidBrick_is (A:=A) (cap:=cap) hv W hl1);clear hv;go_wp2_with fail;refine(HV.out _).mono ?_;rintro v w2 ⟨rfl,E2⟩;go_wp2_with fail;go_ret;exact⟨by rw[Hf.out,Hb.out];rfl,E0.trans E2⟩
   ·have hok: ∀i,i<j+1→(brkAt bs i).ok qs.length=true:=fun i hi=>by
     rcases Nat.lt_or_ge i j with h' | h'
     ·exact Hj.out i h'
     ·obtain rfl:i=j:=by omega
      rw[brkAt_eq Hq.out];exact hv
    have Hok:=h_ hok;have HV:=h_ (fun W=>rValidBrick_is (A:=A) (cap:=cap) hv W hl1);clear hv hok;go_wp2_with fail;refine(HV.out _).mono ?_;rintro v w2 ⟨rfl,E2⟩;go_wp2_with fail;go_roundw
    case rel=>exact⟨j+1,by omega,by go_num,E.trans E2,Hok⟩
    case measure=>simp only[intOf];omega
  ·obtain rfl:bs.length=j:=by omega
   have Hg:=h_ (askedErr_good (bs:=bs) Hr.out (by rw[Hml.out];exact Hj.out));go_wp2_with fail;go_ret;exact⟨by rw[Hf.out,Hg.out];rfl,E0⟩
def commonB(a b:List Pt):Bool:= !allR a.length fun i=> !hasP b (ptAt a i)
theorem commonB_iff{a b:List Pt}:commonB a b=true ↔ ∃p,p∈a∧p∈b:=by
 unfold commonB;rw[Bool.not_eq_true',←Bool.not_eq_true];constructor
 ·intro h;refine Classical.byContradiction fun hn=>h (allR_good fun i hi=> ?_);have hm:ptAt a i∈a:=by
   rw[ptAt_eq (List.getElem?_eq_getElem hi)];exact List.getElem_mem hi
  cases hp:hasP b (ptAt a i)
  ·rfl
  ·exact absurd ⟨_,hm,hasP_iff.1 hp⟩ hn
 ·rintro⟨p,h1,h2⟩ h;obtain⟨i,hi⟩:=List.getElem?_of_mem h1;have:=allR_at h (List.getElem?_eq_some_iff.1 hi).1;rw[ptAt_eq hi,hasP_iff.2 h2] at this;cases this
theorem rCommon_c(A B:Option Addr)(ca cb:Nat)(a b:List Pt)(w:World)(ha:Cells w A ca a)(hb:Cells w B cb b) :
  Calls Tryz.prog 114 #[.slice A a.length ca,.slice B b.length cb] w fun e w'=>e = .returned (.bool (commonB a b))∧Ext w w':=by
 have hl1:a.length≤9223372036854775807:=by have:=ha.len;unfold maxLen at this;omega
 go_enter Tryz.func114,Tryz.ntmps114;go_wp2_with fail;go_loopw [5] (fun i wr=> ∃k:Nat,k≤a.length∧i = .int .i64 k∧Ext w wr∧Hid (∀j,j<k→(!hasP b (ptAt a j))=true)) (fun i _=>a.length-(intOf i).toNat)
 case atStart=>exact⟨0,by omega,rfl,Ext.refl w,h_ (fun j hj=>by omega)⟩
 case round =>
  obtain⟨k,hk,rfl,E,Hj⟩:=hrel;by_cases hlt:k<a.length
  ·obtain⟨g,off,p,rfl,hp,hg,c0,c1,c2⟩:=(ha.ext E).at_ hlt;have Hp:=h_ (ptAt_eq hp);have HH:=rHas_c B cb b p.x p.y p.z wr (hb.ext E);obtain⟨r,hr⟩:=nm (hasP b ⟨p.x,p.y,p.z⟩);rw[hr] at HH;have Hr:=h_ hr;have j1:(0:Int)≤k:=by omega
   have j2:(k:Int)<a.length:=by omega
   clear hp hr;cases r
   ·go_wp2_with fail;refine HH.mono ?_;rintro v w2 ⟨rfl,E2⟩;go_wp2_with fail;go_roundw
    case rel=>exact⟨k+1,by omega,by go_num,E.trans E2,h_ (fun j hj=>by
     rcases Nat.lt_or_ge j k with h' | h'
     ·exact Hj.out j h'
     ·obtain rfl:j=k:=by omega
      rw[Hp.out];rw[show hasP b p=false from Hr.out]
      rfl)⟩
    case measure=>simp only[intOf];omega
   ·have Hv:=h_ (show commonB a b=true by
     rw[commonB,allR_bad hlt (by rw[Hp.out,show hasP b p=true from Hr.out];rfl)]
     rfl)
    go_wp2_with fail;refine HH.mono ?_;rintro v w2 ⟨rfl,E2⟩;go_wp2_with fail;go_ret;exact⟨by rw[Hv.out];rfl,E.trans E2⟩
  ·obtain rfl:a.length=k:=by omega
   have Hv:=h_ (show commonB a b=false by rw[commonB,allR_good Hj.out];rfl);go_wp2_with fail;go_ret;exact⟨by rw[Hv.out];rfl,E⟩
def prC(p:Int×Int):List Value:= [.int .i64 p.1,.int .i64 p.2]
def Prs(w:World)(A:Option Addr)(cap:Nat)(l:List (Int×Int)):Prop:=SliceIs w A l.length cap 2 (l.map prC)
theorem Prs.ext{w w':World}{A:Option Addr}{cap:Nat}{l:List (Int×Int)}(h:Prs w A cap l)(e:Ext w w'):Prs w' A cap l:=SliceIs.ext h e
theorem Prs.len{w:World}{A:Option Addr}{cap:Nat}{l:List (Int×Int)}(h:Prs w A cap l):l.length≤maxLen:=Nat.le_trans h.le h.small
theorem Prs.at_{w:World}{A:Option Addr}{cap:Nat}{l:List (Int×Int)}(h:Prs w A cap l){k:Nat}(hk:k<l.length) :
  ∃b off p,A=some ⟨b,off,none⟩∧l[k]? = some p∧b<w.heap.size∧w.cell? ⟨b,off+k*2,none⟩=some (.int .i64 p.1)∧w.cell? ⟨b,off+k*2+1,none⟩=some (.int .i64 p.2):=by
 obtain⟨b,off,hA,hb,hc⟩:=SliceIs.cells h (by omega);have hget:l[k]? = some l[k]:=List.getElem?_eq_getElem hk;have hr:(l.map prC)[k]? = some (prC l[k]):=by rw[List.getElem?_map,hget];rfl
 exact⟨b,off,l[k],hA,hget,hb,hc k _ hr 0 _ rfl,hc k _ hr 1 _ rfl⟩
theorem rowsF_get{sz:Nat}: ∀{rows:List (List Value)},(∀r∈rows,r.length=sz) → ∀{i j:Nat},j<sz→rows.flatten[i*sz+j]? = (rows[i]?).bind (·[j]?)
 | [],_,i,j,_=>by simp
 | r::rs,hw,i,j,hj=>by
  have hr:=hw r (List.mem_cons_self ..);rw[List.flatten_cons];cases i with
  | zero =>
   rw[Nat.zero_mul,Nat.zero_add,List.getElem?_append_left (by omega)];rfl
  | succ i =>
   rw[List.getElem?_append_right (by rw[hr,Nat.succ_mul];omega),hr,show(i+1)*sz+j-sz=i*sz+j by rw[Nat.succ_mul];omega,rowsF_get (fun r h=>hw r (List.mem_cons_of_mem _ h)) hj];rfl
theorem rowsF_len{sz:Nat}: ∀{rows:List (List Value)},(∀r∈rows,r.length=sz)→rows.flatten.length=rows.length*sz
 | [],_=>by simp
 | r::rs,hw=>by
  rw[List.flatten_cons,List.length_append,hw r (List.mem_cons_self ..),rowsF_len (fun r h=>hw r (List.mem_cons_of_mem _ h)),List.length_cons,Nat.succ_mul,Nat.add_comm]
def rowsA(rows:List (List Value)):Array Value:=rows.flatten.toArray
theorem rowsA_get{sz:Nat}{rows:List (List Value)}(hw: ∀r∈rows,r.length=sz){i j:Nat}{r:List Value}{u:Value}(hr:rows[i]? = some r)(hu:r[j]? = some u):(rowsA rows)[i*sz+j]? = some u:=by
 have hj:j<sz:=by
  have:=(List.getElem?_eq_some_iff.1 hu).1;rw[hw r (List.mem_of_getElem? hr)] at this;exact this
 unfold rowsA;rw[List.getElem?_toArray,rowsF_get hw hj,hr];exact hu
theorem rowsA_size{sz:Nat}{rows:List (List Value)}(hw: ∀r∈rows,r.length=sz):(rowsA rows).size=rows.length*sz:=by
 unfold rowsA;rw[List.size_toArray,rowsF_len hw]
theorem rowsA_ext{sz:Nat}{rows:List (List Value)}{c:Array Value}(hw: ∀r∈rows,r.length=sz)(hs:c.size=rows.length*sz)(h: ∀i j r u,rows[i]? = some r→r[j]? = some u→c[i*sz+j]? = some u):c=rowsA rows:=by
 refine Array.ext_getElem? fun t=> ?_;rcases Nat.lt_or_ge t (rows.length*sz) with ht|ht
 ·have hz:0<sz:=by
   rcases Nat.eq_zero_or_pos sz with e|e
   ·subst e;rw[Nat.mul_zero] at ht;omega
   ·exact e
  have hi:t / sz<rows.length:=Nat.div_lt_of_lt_mul (by rwa [Nat.mul_comm]);have hj:t % sz<sz:=Nat.mod_lt _ hz;have hr:rows[t / sz]? = some rows[t / sz]:=List.getElem?_eq_getElem hi;have hlen:rows[t / sz].length=sz:=hw _ (List.getElem_mem hi);have hu:rows[t / sz][t % sz]? = some (rows[t / sz][t % sz]'(by rw[hlen];exact hj)):=List.getElem?_eq_getElem _;have e:t / sz*sz+t % sz=t:=Nat.div_add_mod' t sz;have h1:=h _ _ _ _ hr hu;have h2:=rowsA_get hw hr hu;rw[e] at h1 h2;rw[h1,h2]
 ·rw[Array.getElem?_eq_none (by omega),Array.getElem?_eq_none (by rw[rowsA_size hw];exact ht)]
theorem rowsA_made{sz n:Nat}{zs:Array Value}(hz:zs.size=sz)(_hp:0<sz):madeCells zs (n*sz)=rowsA (List.replicate n zs.toList):=by
 refine rowsA_ext (sz:=sz) (fun r h=>by rw[List.eq_of_mem_replicate h];simpa using hz) (by simp[size_madeCells]) fun i j r u hr hu=> ?_;rw[List.getElem?_replicate] at hr
 split at hr
 ·rename_i hi;cases hr;have hj:j<sz:=by
   have:=(List.getElem?_eq_some_iff.1 hu).1
   simpa [hz] using this
  have hlt:i*sz+j<n*sz:=by
   have:(i+1)*sz≤n*sz:=Nat.mul_le_mul_right _ hi;rw[Nat.succ_mul] at this;omega
  have hm:(i*sz+j) % sz=j:=by rw[Nat.mul_comm,Nat.mul_add_mod];exact Nat.mod_eq_of_lt hj
  have hu':zs[j]? = some u:=by simpa using hu
  simp[madeCells,hlt,hz,hm];rw[getElem!_def,hu']
 ·cases hr
theorem Blk.row3{w:World}{g:Nat}{t:TypeId}{rows:List (List Value)}(h:Blk w g t (rowsA rows))(hw: ∀r∈rows,r.length=3){k:Nat}(hk:k<rows.length)(a b c:Value) :
  ∃w2,((w.setCell ⟨g,k*3,none⟩ a).setCell ⟨g,k*3+1,none⟩ b).setCell ⟨g,k*3+2,none⟩ c=w2∧Blk w2 g t (rowsA (rows.set k [a,b,c])) ∧
  (∀k t' cs',k≠g→Blk w k t' cs'→Blk w2 k t' cs')∧(∀w0,Ext w0 w→w0.heap.size≤g→Ext w0 w2)∧w2.heap.size=w.heap.size:=by
 refine⟨_,rfl,?_,fun k t' cs' hk hb=>((hb.far hk _).far hk _).far hk _,fun w0 hE hg=>((hE.setCell hg _).setCell hg _).setCell hg _,by simp[World.setCell]⟩;have e:=((h.set_ (k*3) a).set_ (k*3+1) b).set_ (k*3+2) c;have hw': ∀r∈rows.set k [a,b,c],r.length=3:=fun r hr=>by
  rcases List.mem_or_eq_of_mem_set hr with h|h
  ·exact hw r h
  ·rw[h];rfl
 have q:(((rowsA rows).setIfInBounds (k*3) a).setIfInBounds (k*3+1) b).setIfInBounds (k*3+2) c=rowsA (rows.set k [a,b,c]):=rowsA_ext (sz:=3) hw' (by simp[rowsA_size hw]) fun i j r u hr hu=>by
  have hj:j<3:=by
   have:=(List.getElem?_eq_some_iff.1 hu).1;rwa [hw' r (List.mem_of_getElem? hr)] at this
  rw[List.getElem?_set] at hr;by_cases hik:k=i
  ·subst hik;rw[if_pos rfl,if_pos hk] at hr;cases hr;have hsz:k*3+2<(rowsA rows).size:=by
    rw[rowsA_size hw];omega
   have h3:j=0∨j=1∨j=2:=by omega
   rcases h3 with rfl|rfl|rfl
   ·simp only[List.getElem?_cons_zero,Option.some.injEq] at hu;subst hu;simp[show k*3<(rowsA rows).size by omega]
   ·simp only[List.getElem?_cons_succ,List.getElem?_cons_zero,Option.some.injEq] at hu;subst hu;simp[show k*3+1<(rowsA rows).size by omega]
   ·simp only[List.getElem?_cons_succ,List.getElem?_cons_zero,Option.some.injEq] at hu;subst hu;simp[hsz]
  ·rw[if_neg hik] at hr;rw[Array.getElem?_setIfInBounds,if_neg (by omega),Array.getElem?_setIfInBounds,if_neg (by omega),Array.getElem?_setIfInBounds,if_neg (by omega)];exact rowsA_get hw hr hu
 rwa [q] at e
def setsW(w:World)(g:Nat):Nat→List Value→World
 | _,[]=>w
 | o,v::vs=>setsW (w.setCell ⟨g,o,none⟩ v) g (o+1) vs
def setsA(c:Array Value):Nat→List Value→Array Value
 | _,[]=>c
 | o,v::vs=>setsA (c.setIfInBounds o v) (o+1) vs
theorem setsA_size: ∀(vs:List Value) (c:Array Value) (o:Nat),(setsA c o vs).size=c.size
 | [],_,_=>rfl
 | v::vs,c,o=>by
  unfold setsA;rw[setsA_size vs,Array.size_setIfInBounds]
theorem setsA_get: ∀(vs:List Value) (c:Array Value) (o t:Nat),o+vs.length≤c.size→(setsA c o vs)[t]? = if o≤t∧t<o+vs.length then vs[t-o]? else c[t]?
 | [],c,o,t,_=>by
  have: ¬(o≤t∧t<o+([]:List Value).length):=by
   show ¬(o≤t∧t<o+0)
   omega
  rw[if_neg this];rfl
 | v::vs,c,o,t,h=>by
  have hl:(v::vs).length=vs.length+1:=rfl;unfold setsA;rw[setsA_get vs _ _ _ (by rw[Array.size_setIfInBounds];omega),Array.getElem?_setIfInBounds];by_cases h1:o=t
  ·subst h1;rw[if_neg (by omega),if_pos rfl,if_pos (by omega),if_pos (by omega),Nat.sub_self];rfl
  ·by_cases h2:o+1≤t∧t<o+1+vs.length
   ·rw[if_pos h2,if_pos (by omega),show t-o=(t-(o+1))+1 by omega];rfl
   ·rw[if_neg h2,if_neg h1,if_neg (by omega)]
theorem setsW_blk: ∀(vs:List Value) {w:World} {g:Nat} {t:TypeId} {c:Array Value} (o:Nat),Blk w g t c→Blk (setsW w g o vs) g t (setsA c o vs)
 | [],_,_,_,_,_,h=>h
 | v::vs,_,_,_,_,o,h=>setsW_blk vs (o+1) (h.set_ o v)
theorem setsW_far: ∀(vs:List Value) {w:World} {g k:Nat} {t:TypeId} {c:Array Value} (o:Nat),k≠g→Blk w k t c→Blk (setsW w g o vs) k t c
 | [],_,_,_,_,_,_,_,h=>h
 | v::vs,_,_,_,_,_,o,hk,h=>setsW_far vs (o+1) hk (h.far hk v)
theorem setsW_ext: ∀(vs:List Value) {w0 w:World} {g:Nat} (o:Nat),Ext w0 w→w0.heap.size≤g→Ext w0 (setsW w g o vs)
 | [],_,_,_,_,h,_=>h
 | v::vs,_,_,_,o,h,hg=>setsW_ext vs (o+1) (h.setCell hg v) hg
theorem Blk.rowN{w:World}{g:Nat}{t:TypeId}{rows:List (List Value)}{sz:Nat}(h:Blk w g t (rowsA rows))(hw: ∀r∈rows,r.length=sz){k:Nat}(hk:k<rows.length)(vs:List Value)(hv:vs.length=sz) :
  Blk (setsW w g (k*sz) vs) g t (rowsA (rows.set k vs)):=by
 have e:=setsW_blk vs (k*sz) h;have hw': ∀r∈rows.set k vs,r.length=sz:=fun r hr=>by
  rcases List.mem_or_eq_of_mem_set hr with h|h
  ·exact hw r h
  ·rw[h];exact hv
 have hsz:k*sz+vs.length≤(rowsA rows).size:=by
  rw[rowsA_size hw,hv];have:(k+1)*sz≤rows.length*sz:=Nat.mul_le_mul_right _ hk;rwa [Nat.succ_mul] at this
 have q:setsA (rowsA rows) (k*sz) vs=rowsA (rows.set k vs):=rowsA_ext (sz:=sz) hw' (by rw[setsA_size,rowsA_size hw,List.length_set]) fun i j r u hr hu=>by
  have hj:j<sz:=by
   have:=(List.getElem?_eq_some_iff.1 hu).1;rwa [hw' r (List.mem_of_getElem? hr)] at this
  rw[List.getElem?_set] at hr;rw[setsA_get _ _ _ _ hsz];by_cases hik:k=i
  ·subst hik;rw[if_pos rfl,if_pos hk] at hr;cases hr;rw[if_pos (by omega),show k*sz+j-k*sz=j by omega];exact hu
  ·rw[if_neg hik] at hr;rw[if_neg (by
    rcases Nat.lt_or_ge i k with h|h
    ·have:(i+1)*sz≤k*sz:=Nat.mul_le_mul_right _ h;rw[Nat.succ_mul] at this;omega
    ·have:(k+1)*sz≤i*sz:=Nat.mul_le_mul_right _ (by omega);rw[Nat.succ_mul] at this
     omega)]
   exact rowsA_get hw hr hu
 rwa [q] at e
theorem Blk.row5{w:World}{g:Nat}{t:TypeId}{rows:List (List Value)}(h:Blk w g t (rowsA rows))(hw: ∀r∈rows,r.length=5){k:Nat}(hk:k<rows.length)(a b c d e:Value) :
  ∃w2,((((w.setCell ⟨g,k*5,none⟩ a).setCell ⟨g,k*5+1,none⟩ b).setCell ⟨g,k*5+2,none⟩ c).setCell ⟨g,k*5+3,none⟩ d).setCell ⟨g,k*5+4,none⟩ e=w2∧Blk w2 g t (rowsA (rows.set k [a,b,c,d,e])) ∧
  (∀k t' cs',k≠g→Blk w k t' cs'→Blk w2 k t' cs')∧(∀w0,Ext w0 w→w0.heap.size≤g→Ext w0 w2) :=
 ⟨_,rfl,h.rowN hw hk [a,b,c,d,e] rfl,fun _ _ _ hk' hb=>setsW_far [a,b,c,d,e] (k*5) hk' hb,fun _ hE hg=>setsW_ext [a,b,c,d,e] (k*5) hE hg⟩
theorem Blk.slice{w:World}{g:Nat}{t:TypeId}{rows:List (List Value)}{sz:Nat}(h:Blk w g t (rowsA rows))(hw: ∀r∈rows,r.length=sz)(hn:rows.length≤100000):SliceIs w (some ⟨g,0,none⟩) rows.length rows.length sz rows :=
 ⟨rfl,Nat.le_refl _,by unfold maxLen;omega,hw,fun _=>⟨g,0,rfl,h.lt,fun i r hr j u hu=>by
  rw[Nat.zero_add,h.cell]
  exact rowsA_get hw hr hu⟩⟩
/-! A row of the call's own, behind which its block may hold more. -/
def RowX(w:World)(g:Nat)(t:TypeId)(rows:List (List Value)):Prop:= ∃ex,Blk w g t (rowsA rows++ex)
theorem RowX.ext{w w':World}{g:Nat}{t:TypeId}{rows:List (List Value)}(h:RowX w g t rows)(e:Ext w w'):RowX w' g t rows:=by
 obtain⟨ex,hb⟩:=h;exact⟨ex,hb.ext e⟩
theorem RowX.drew{w:World}{g:Nat}{t:TypeId}{rows:List (List Value)}(h:RowX w g t rows):RowX w.drew g t rows:=h
theorem RowX.lt{w:World}{g:Nat}{t:TypeId}{rows:List (List Value)}(h:RowX w g t rows):g<w.heap.size:=by
 obtain⟨ex,hb⟩:=h;exact hb.lt
theorem RowX.frozen{w:World}{g:Nat}{t:TypeId}{rows:List (List Value)}(h:RowX w g t rows)(i:Nat):w.frozen? ⟨g,i,none⟩=false:=by
 obtain⟨ex,hb⟩:=h;exact hb.frozen i
theorem RowX.cell{w:World}{g:Nat}{t:TypeId}{rows:List (List Value)}{sz:Nat}(h:RowX w g t rows)(hw: ∀r∈rows,r.length=sz){i j:Nat}{r:List Value}{u:Value}(hr:rows[i]? = some r)(hu:r[j]? = some u):w.cell? ⟨g,i*sz+j,none⟩=some u:=by
 obtain⟨ex,hb⟩:=h;have h1:=rowsA_get hw hr hu;have hlt:=(Array.getElem?_eq_some_iff.1 h1).1;rw[hb.cell,Array.getElem?_append_left hlt];exact h1
theorem RowX.of_own{w:World}{base g n cap:Nat}{e:TypeId}{sz:Nat}{rows:List (List Value)}(h:w.ownsRow base e sz (.slice (some ⟨g,0,none⟩) n cap) n rows.flatten):RowX w g e rows∧base≤g∧n≤cap∧cap≤maxLen:=by
 rcases h.2 with⟨h0,_⟩|⟨g',cap',cur,hv,hg,hb,h1,h2,_,h4⟩
 ·cases h0
 ·cases hv;refine⟨⟨(cur.toList.drop (n*sz)).toArray,?_⟩,hg,h1,h2⟩;have e:rowsA rows++(cur.toList.drop (n*sz)).toArray=cur:=by
   unfold rowsA;rw[←h4];simp
  rw[e];exact hb
theorem setsA_append: ∀(vs:List Value) (c ex:Array Value) (o:Nat),o+vs.length≤c.size→setsA (c++ex) o vs=setsA c o vs++ex
 | [],_,_,_,_=>rfl
 | v::vs,c,ex,o,h=>by
  have hl:(v::vs).length=vs.length+1:=rfl;unfold setsA;rw[show(c++ex).setIfInBounds o v=c.setIfInBounds o v++ex from by
   rw[Array.setIfInBounds_append,if_pos (by omega)]]
  exact setsA_append vs _ ex (o+1) (by rw[Array.size_setIfInBounds];omega)
theorem rowsA_sets{rows:List (List Value)}{sz:Nat}(hw: ∀r∈rows,r.length=sz){k:Nat}(hk:k<rows.length){vs:List Value}(hv:vs.length=sz):setsA (rowsA rows) (k*sz) vs=rowsA (rows.set k vs)∧k*sz+vs.length≤(rowsA rows).size:=by
 have w0:World:=default;have hsz:k*sz+vs.length≤(rowsA rows).size:=by
  rw[rowsA_size hw,hv];have:(k+1)*sz≤rows.length*sz:=Nat.mul_le_mul_right _ hk;rwa [Nat.succ_mul] at this
 have hB:=Blk.new w0 (rowsA rows) 0;have h1:=hB.rowN hw hk vs hv;have h2:=setsW_blk vs (k*sz) hB;unfold Blk at h1 h2;rw[h1] at h2;injection h2 with h2
 injection h2 with h2
 exact⟨h2.symm,hsz⟩
theorem RowX.store{w:World}{g:Nat}{t:TypeId}{rows:List (List Value)}{sz:Nat}(h:RowX w g t rows)(hw: ∀r∈rows,r.length=sz){k:Nat}(hk:k<rows.length)(vs:List Value)(hv:vs.length=sz):RowX (setsW w g (k*sz) vs) g t (rows.set k vs):=by
 obtain⟨ex,hb⟩:=h;obtain⟨q1,q2⟩:=rowsA_sets hw hk hv;refine⟨ex,?_⟩;have:=setsW_blk vs (k*sz) hb;rwa [setsA_append _ _ _ _ q2,q1] at this
theorem RowX.slice{w:World}{g:Nat}{t:TypeId}{rows:List (List Value)}{sz n cap:Nat}(h:RowX w g t rows)(hw: ∀r∈rows,r.length=sz)(hn:rows.length=n)(h1:n≤cap)(h2:cap≤maxLen):SliceIs w (some ⟨g,0,none⟩) n cap sz rows :=
 ⟨hn,h1,h2,hw,fun _=>⟨g,0,rfl,h.lt,fun i r hr j u hu=>by
  rw[Nat.zero_add]
  exact h.cell hw hr hu⟩⟩
theorem SliceIs.adds{w:World}{A:Option Addr}{n cap sz:Nat}{rows:List (List Value)}(h:SliceIs w A n cap sz rows)(hn:0<n)(hsz:0<sz): ∃b off,A=some ⟨b,off,none⟩ ∧ ∀j u,rows.flatten[j]? = some u→w.cell? ((⟨b,off,none⟩:Addr).add j)=some u:=by
 obtain⟨b,off,hA,_,hc⟩:=h.cells hn;refine⟨b,off,hA,fun j u hu=> ?_⟩;have e:j / sz*sz+j % sz=j:=Nat.div_add_mod' j sz;rw[←e,rowsF_get h.wide (Nat.mod_lt _ hsz)] at hu;obtain⟨r,hr,hu⟩:=Option.bind_eq_some_iff.1 hu;have:=hc _ _ hr _ _ hu;rw[Nat.add_assoc,e] at this;unfold Addr.add
 split
 ·subst_vars
  exact this
 ·exact this
end Go.Proofs.YtojolpbpjimfgaaGreatDoor
