/- Texts of the proof: SortK, SortNilK, LnkP, Reg0. -/
import Derived.Test.YtojolpbpjimfgaaGreatDoorZy6
import Derived.Test.YtojolpbpjimfgaaGreatDoorZy9
import Derived.Test.YtojolpbpjimfgaaGreatDoorZy10
import Derived.Test.YtojolpbpjimfgaaGreatDoorZy16
import Derived.Test.YtojolpbpjimfgaaGreatDoorZy17
import Derived.Test.YtojolpbpjimfgaaGreatDoorZy19
set_option maxHeartbeats 1600000
set_option maxRecDepth 100000
namespace Go.Proofs.YtojolpbpjimfgaaGreatDoor
open Go.RowKit
instance:Inhabited Lnk:=⟨⟨0,0,0,0,0⟩⟩
def ordK(x y:Lnk):Int:=orL [ordZ x.a y.a,ordZ x.b y.b,ordZ x.knob y.knob]
theorem ordK_neg(x y:Lnk):ordK x y<0↔ltK x y=true:=by
 rw[ltK_iff];unfold ordK orL ordZ;simp only[orL]
 repeat' split
 all_goals (first|omega|(simp only[orL];repeat' split) <;> omega)
theorem ltOf_ordK:ltOf ordK=ltK:=by
 funext x y;unfold ltOf;rw[Bool.eq_iff_iff,decide_eq_true_eq,ordK_neg]
theorem swoK:Go.Sort.SWO ltK where
 irrefl x:=by rw[ltK_not];omega
 trans x y z h k:=by rw[ltK_iff] at *;omega
 ntrans x y z h k:=by rw[ltK_not] at *;omega
theorem lessK_g(x y:Lnk)(w:World) :
  Calls Tryz.prog 124 #[.agg #[.int .i64 x.a,.int .i64 x.b,.int .i64 x.knob,.int .i64 x.other,.int .u8 x.sort],.agg #[.int .i64 y.a,.int .i64 y.b,.int .i64 y.knob,.int .i64 y.other,.int .u8 y.sort]] w fun v w'=>v = .returned (.int .i64 (ordK x y))∧Grn w w':=by
 obtain⟨a,b,c,d,s⟩:=x;obtain⟨a',b',c',d',s'⟩:=y;have hG:=((Grn.refl w).alloc (.cells #[.int .i64 a,.int .i64 b,.int .i64 c,.int .i64 d,.int .u8 s] 135)).alloc (.cells #[.int .i64 a',.int .i64 b',.int .i64 c',.int .i64 d',.int .u8 s'] 135);obtain⟨W1,hW1,E1,B1,hz1⟩:=mk_ w #[.int .i64 a,.int .i64 b,.int .i64 c,.int .i64 d,.int .u8 s] 135;obtain⟨W2,hW2,E2,B2,hz2⟩:=mk_ W1 #[.int .i64 a',.int .i64 b',.int .i64 c',.int .i64 d',.int .u8 s'] 135;rw[hW1,hW2] at hG;have B1':=B1.ext E2;rw[hz1] at B2;have a0:=Go.cell_grown B1'.lt (B1'.cell 0);have a1:=Go.cell_grown B1'.lt (B1'.cell 1);have a2:=Go.cell_grown B1'.lt (B1'.cell 2);have c0:=Go.cell_grown B2.lt (B2.cell 0);have c1:=Go.cell_grown B2.lt (B2.cell 1);have c2:=Go.cell_grown B2.lt (B2.cell 2);go_enter Tryz.func124,Tryz.ntmps124
 go_upto_region 1 with(fail)
 clear hW1 hW2 hz1 hz2 B1 E1 E2 B1' B2;refine wp_region_tailG 15 (by kernel_rfl) (by kernel_rfl) ?_;simp only[List.take_succ_cons,List.take_zero,List.drop_succ_cons,List.drop_zero]
 repeat (go_big_quiet_step ((go_at_call 126;exact(cmpZ_c _ _ _).mono fun _ _ ⟨he,hw⟩=>⟨he,_,hw.symm⟩)))
 refine wpQuiet_nil ?_;intro W3 hW3;have hG3:Grn w W3:=by
  obtain⟨p,rfl⟩:=hW3;exact hG.trans ⟨p.n,p.os,rfl⟩
 clear hW3 hG a0 a1 a2 c0 c1 c2;go_wp2_with fail;refine(or3_c _ _ _ _ _).mono ?_;rintro v w4 ⟨rfl,rfl⟩;go_wp2_with fail;go_ret;exact⟨rfl,hG3.alloc _⟩
theorem flatK_lnk(l:List Lnk):Go.Sort.flatK Lnk.cs 5 l.toArray=rowsA (l.map Lnk.cs):=by
 refine rowsA_ext (lnk_wide l) (by simp) fun i j r u hr hu=> ?_;rw[List.getElem?_map] at hr;obtain⟨p,hp,rfl⟩:=Option.map_eq_some_iff.1 hr;obtain⟨hi,hpi⟩:=List.getElem?_eq_some_iff.1 hp;have hj:j<5:=(List.getElem?_eq_some_iff.1 hu).1;have hlt:i*5+j<l.toArray.size*5:=by simp;omega
 rw[Array.getElem?_eq_getElem (by simpa using hlt),←getElem!_pos,Go.Sort.get_flatK _ _ _ _ hlt,show(i*5+j) / 5=i by omega,show(i*5+j) % 5=j by omega,getElem!_pos l.toArray i (by simpa using hi)];have e1:l.toArray[i]'(by simpa using hi)=p:=by simpa using hpi
 rw[e1,←hu];rw[List.getElem!_eq_getElem?_getD,hu];rfl
theorem putLnk{w:World}{g n:Nat}{os:Array Obj}{l l':List Lnk}{t:TypeId}(hl:l'.length=l.length)(hb:RowX w g t (l.map Lnk.cs)) :
  RowX (sortWorldK Lnk.cs 5 w g 0 n l'.toArray os) g t (l'.map Lnk.cs)∧w.grownBy (sortWorldK Lnk.cs 5 w g 0 n l'.toArray os) (some g):=by
 obtain⟨ex,hb⟩:=hb;have hg:=hb.lt;constructor
 ·refine⟨ex,?_⟩;unfold sortWorldK Go.Sort.putRowK;rw[flatK_lnk];show(Go.Sort.grow _ _).heap[g]? = _
  rw[Go.Sort.heap_grow_old _ _ (by simpa using hg)];have hb':w.heap[g]? = some (.cells (rowsA (l.map Lnk.cs)++ex) t (0,0)):=hb;have hs:(rowsA (l'.map Lnk.cs)).size=(rowsA (l.map Lnk.cs)).size:=by rw[rowsA_size (lnk_wide l),rowsA_size (lnk_wide l')];simp[hl]
  have e:Go.Sort.putCells id 0 (rowsA (l'.map Lnk.cs)) (rowsA (l.map Lnk.cs)++ex)=rowsA (l'.map Lnk.cs)++ex:=by
   apply Array.ext_getElem?;intro k;rcases Nat.lt_or_ge k (rowsA (l.map Lnk.cs)).size with hk|hk
   ·have hk':k<(rowsA (l'.map Lnk.cs)).size:=by omega
    rw[Array.getElem?_append_left hk'];have:k<(rowsA (l.map Lnk.cs)++ex).size:=by simp;omega
    simp[Go.Sort.putCells,hk'];exact⟨_,Array.getElem?_eq_getElem this⟩
   ·rw[Array.getElem?_append_right (by omega),hs];rcases Nat.lt_or_ge k (rowsA (l.map Lnk.cs)++ex).size with h2|h2
    ·have h3: ¬k<(rowsA (l'.map Lnk.cs)).size:=by omega
     have h4:(rowsA (l.map Lnk.cs)++ex)[k]? = ex[k-(rowsA (l.map Lnk.cs)).size]? := Array.getElem?_append_right hk;rw[←h4];simp[Go.Sort.putCells,h3]
    ·rw[Array.getElem?_eq_none (by simpa [Go.Sort.putCells] using h2),Array.getElem?_eq_none (by simp at h2;omega)]
  simp[Go.Sort.putRow,Go.Sort.mapBlock,Go.Sort.ahead,Array.getElem?_modify,hb',Go.Sort.onCells,e]
 ·refine⟨rfl,rfl,rfl,by simp[sortWorldK,Go.Sort.putRowK],fun k hk hne=> ?_⟩;unfold sortWorldK Go.Sort.putRowK;rw[Go.Sort.heap_grow_old _ _ (by simpa using hk)];have:g≠k:=fun e=>hne (by rw[e]);simp[Go.Sort.putRow,Go.Sort.mapBlock,Go.Sort.ahead,Array.getElem?_modify,this]
theorem sortK_c(l:List Lnk)(g cap:Nat)(w:World)(hB:RowX w g 135 (l.map Lnk.cs))(hn:l.length≤100000) :
  Calls Tryz.prog 123 #[.slice (some ⟨g,0,none⟩) l.length cap,.func (.func 124) #[] #[]] w fun e w'=>e = .returned (.tuple #[]) ∧ ∃l':List Lnk,l'.Perm l∧(l'.Pairwise fun x y=>ltK y x=false)∧RowX w' g 135 (l'.map Lnk.cs)∧w.grownBy w' (some g):=by
 have hH:Go.Sort.HoldsK Lnk.cs 5 w g 0 l.toArray:=by
  obtain⟨ex,hb⟩:=hB;unfold Go.Sort.HoldsK;rw[flatK_lnk];intro j hj;refine⟨?_,by rw[Nat.zero_add];exact hb.frozen j⟩;rw[Nat.zero_add,hb.cell,Array.getElem?_append_left hj,Array.getElem?_eq_getElem hj,getElem!_pos (rowsA (l.map Lnk.cs)) j hj];rfl
 have hcmp:CmpLays Tryz.prog 124 #[] Lnk.cs 5 ordK g 0 l.toArray.size w:=fun m os dk _ x y=>(lessK_g x y _).mono fun _ _ ⟨he,q,os',hw⟩=>⟨he,q,os',hw⟩;have h:=AnyQ.slices_SortFunc sortLinks 5 Tryz.isAgg135 Tryz.sizeOf135 Lnk.cs (fun _=>rfl) (fun x v hv=>by
   simp only[Lnk.cs,List.mem_cons,List.not_mem_nil,or_false] at hv
   rcases hv with rfl|rfl|rfl|rfl|rfl <;> rfl) ordK (by rw[ltOf_ordK];exact swoK) 124 #[] g 0 cap l.toArray w (enters_of Tryz.func124 (by kernel_rfl) rfl) hcmp hH hB.lt (by simp;omega)
 rw[ltOf_ordK] at h;refine(show Calls Tryz.prog 123 _ _ _ from h).mono ?_;rintro e w' ⟨rfl,d',n,os,hp,hs,rfl⟩;obtain⟨hsz,_,hperm⟩:=hp;have e1:d'.extract 0 l.toArray.size=d':=by rw[←hsz];exact Array.extract_size
 rw[e1,Array.extract_size] at hperm;have hperm':d'.toList.Perm l:=by simpa using hperm
 refine⟨rfl,d'.toList,hperm',?_,putLnk (by simpa using hperm'.length_eq) hB⟩;rw[List.pairwise_iff_getElem];intro i j hi hj hij;have hi':i<d'.size:=by simpa using hi
 have hj':j<d'.size:=by simpa using hj
 have:=hs i j (by omega) hij (by omega)
 simpa [getElem!_pos d' i hi',getElem!_pos d' j hj'] using this
theorem insNilK(v:Value)(w:World):Calls Tryz.prog 183 #[.slice none 0 0,.int .i64 0,.int .i64 0,v] w fun e w'=>e = .returned (.tuple #[])∧w=w':=by
 go_enter Tryz.func183,Tryz.ntmps183;go_wp2_with fail;go_loopw [8] (fun i wr=>i = .int .i64 1∧wr=w) (fun _ _=>0)
 case atStart=>exact⟨rfl,rfl⟩
 case round =>
  obtain⟨rfl,rfl⟩:=hrel;go_wp2_with fail
  go_end0
  exact⟨rfl,rfl⟩
theorem pdqNilK(v:Value)(w:World):Calls Tryz.prog 150 #[.slice none 0 0,.int .i64 0,.int .i64 0,.int .i64 0,v] w fun e w'=>e = .returned (.tuple #[])∧w=w':=by
 go_enter Tryz.func150,Tryz.ntmps150;go_wp2_with fail;go_loopw [1,2] (fun a b wr=>a = .int .i64 0∧b = .int .i64 0∧wr=w) (fun _ _ _=>0)
 case atStart=>exact⟨rfl,rfl,rfl⟩
 case round =>
  obtain⟨rfl,rfl,rfl⟩:=hrel;go_wp2_with fail;refine(insNilK v wr).mono ?_;rintro e w1 ⟨rfl,rfl⟩;go_wp2_with fail;exact bodyPost_ret (v:= .tuple #[]) (results_none rfl _ _ _) rfl ⟨rfl,rfl⟩
theorem sortNilK_c(v:Value)(w:World):Calls Tryz.prog 123 #[.slice none 0 0,v] w fun e w'=>e = .returned (.tuple #[])∧w=w':=by
 have hl:=Any.bits_Len (SlLaysF0.n15.bits (P:=Tryz.prog) (ρ:=sortLinks_ren) { sortLinks with }) 0 w (by omega) (by omega);go_enter Tryz.func123,Tryz.ntmps123;have hl':Calls Tryz.prog 141 #[.int .u64 0] w fun e w'=>e = .returned (.int .i64 0)∧w'=w:=hl;clear hl;go_wp2_with fail;refine hl'.mono ?_;rintro e w1 ⟨rfl,rfl⟩;go_wp2_with fail;refine(pdqNilK v w1).mono ?_;rintro e w2 ⟨rfl,rfl⟩;go_wp2_with fail
 go_end0
 exact⟨rfl,rfl⟩
theorem infoJnt:(Tryz.prog.info? 242).map (fun i=>(i.zero,i.size,i.bytes))=some (some (.agg #[.int .i64 0,.int .i64 0,.int .i64 0,.int .u8 0,.bool false]),5,32):=by kernel_rfl
theorem Knb.meets.nat{x:Knb}(h:x.meets): ∃(a b c:Int) (d:Nat) (s:Int),x=⟨⟨a,b,c⟩,d,s⟩∧Knb.meets ⟨⟨a,b,c⟩,d,s⟩:=by
 obtain⟨⟨a,b,c⟩,d,s⟩:=x;have h0:=h.d0;simp only at h0;have e:d=(d.toNat:Int):=by omega
 rw[e] at h ⊢;exact⟨a,b,c,d.toNat,s,rfl,h⟩
theorem infoLnk:(Tryz.prog.info? 135).map (fun i=>(i.zero,i.size,i.bytes))=some (some (.agg #[.int .i64 0,.int .i64 0,.int .i64 0,.int .i64 0,.int .u8 0]),5,40):=by kernel_rfl
theorem links_cell{w:World}{A:Option Addr}{cap:Nat}{l:List Lnk}(h:Links w A cap l){k:Nat}(hk:k<l.length){g off:Nat}(hA:A=some ⟨g,off,none⟩):w.cell? ⟨g,off+k*5,none⟩=some (.int .i64 (lnkAt l k).a)∧w.cell? ⟨g,off+k*5+1,none⟩=some (.int .i64 (lnkAt l k).b)∧w.cell? ⟨g,off+k*5+2,none⟩=some (.int .i64 (lnkAt l k).knob)∧w.cell? ⟨g,off+k*5+3,none⟩=some (.int .i64 (lnkAt l k).other)∧w.cell? ⟨g,off+k*5+4,none⟩=some (.int .u8 (lnkAt l k).sort):=by
 obtain⟨b,o,p,hA',hp,-,c0,c1,c2,c3,c4⟩:=h.at_ hk;rw[hA'] at hA;cases hA;rw[lnkAt_eq hp];exact⟨c0,c1,c2,c3,c4⟩
theorem five_put{w w0:World}{g:Nat}{t:TypeId}{x y z p q:Value}(h:Blk w g t #[x,y,z,p,q])(E:Ext w0 w)(hg:w0.heap.size≤g)(a b c d e:Value) :
  ∃V,((((w.setCell ⟨g,0,none⟩ a).setCell ⟨g,1,none⟩ b).setCell ⟨g,2,none⟩ c).setCell ⟨g,3,none⟩ d).setCell ⟨g,4,none⟩ e=V∧Blk V g t #[a,b,c,d,e]∧Ext w0 V∧V.heap.size=w.heap.size :=
 ⟨_,rfl,((((h.set_ 0 a).set_ 1 b).set_ 2 c).set_ 3 d).set_ 4 e,((((E.setCell hg a).setCell hg b).setCell hg c).setCell hg d).setCell hg e,by simp[World.setCell]⟩
def natZ(l:List Nat):List Int:=l.map fun(g:Nat)=>(g:Int)
theorem wp_region_by0{P:Program}{l:List Oper}{a0:Act}{Q:Exit→Act→World→Prop}{id:Nat}{w:World}(I:(Nat→Bool)→(Nat→Value)→World→Prop)(hm:P.follows .mixedOrders=true)(hn:decide (dsts l).Nodup=true)(hf:Region.forthB l=true)
  (h0:I (fun _=>false) (fun k=>((l[k]?).bind (·.dst)).elim undef fun d=>a0.tmps.getD d undef) w.drew) (hs:EachOp P l I a0 Q l 0) (he: ∀L us w,(∀k,k<l.length→L k=true)→I L us w→Q .normal (putAll us l 0 a0) w):(Code.region id l.toArray true).wp P Q a0 w:=by
 refine wp_region_any hm ?_;have ea:putAll (fun k=>((l[k]?).bind (·.dst)).elim undef fun d=>a0.tmps.getD d undef) l 0 a0=a0:=putAll_self l 0 a0 _ fun j o hj d hd=>by
  simp[hj,hd]
 have eL:(fun k=>(Array.replicate l.toArray.size false).getD k false)=fun _=>false:=by
  funext k;rw[Array.getD_eq_getD_getElem?,Array.getElem?_replicate]
  split <;> rfl
 have:=any_by (of_decide_eq_true hn) hf hs he l.toArray.size (Array.replicate l.toArray.size false) (fun k=>((l[k]?).bind (·.dst)).elim undef fun d=>a0.tmps.getD d undef) w.drew (by simp) (fun h k hk=>by simp at h;simp[h] at hk) (fun k hk _=>⟨l.length-1,by simp;omega⟩)
  (by unfold fewer;refine Nat.le_trans List.countP_le_length ?_;simp) (fun i k hi=>by rw[eL] at hi;cases hi) (by rw[eL];exact h0)
 rw[ea] at this;exact this
end Go.Proofs.YtojolpbpjimfgaaGreatDoor
