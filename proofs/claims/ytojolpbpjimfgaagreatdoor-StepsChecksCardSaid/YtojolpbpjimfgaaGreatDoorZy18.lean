/- Texts of the proof: Flow, WayS, RMeet. -/
import Derived.Test.YtojolpbpjimfgaaGreatDoorZy1
import Derived.Test.YtojolpbpjimfgaaGreatDoorZy12
import Derived.Test.YtojolpbpjimfgaaGreatDoorZy16
import Derived.Test.YtojolpbpjimfgaaGreatDoorZy17
set_option maxHeartbeats 8000000
set_option maxRecDepth 100000
namespace Go.Proofs.YtojolpbpjimfgaaGreatDoor
open Go.RowKit
/-! ### sums -/
def sumN:Nat→(Nat→Int)→Int
 | 0,_=>0
 | n+1,f=>sumN n f+f n
theorem sumN_congr{f g:Nat→Int}: ∀{n:Nat},(∀i,i<n→f i=g i)→sumN n f=sumN n g
 | 0,_=>rfl
 | n+1,h=>by
  unfold sumN;rw[sumN_congr fun i hi=>h i (by omega),h n (by omega)]
theorem sumN_add(f g:Nat→Int): ∀n,sumN n (fun i=>f i+g i)=sumN n f+sumN n g
 | 0=>rfl
 | n+1=>by
  unfold sumN;rw[sumN_add f g n];simp only;omega
theorem sumN_sub(f g:Nat→Int): ∀n,sumN n (fun i=>f i-g i)=sumN n f-sumN n g
 | 0=>rfl
 | n+1=>by
  unfold sumN;rw[sumN_sub f g n];simp only;omega
theorem sumN_le{f g:Nat→Int}: ∀{n:Nat},(∀i,i<n→f i≤g i)→sumN n f≤sumN n g
 | 0,_=>Int.le_refl _
 | n+1,h=>by
  unfold sumN;have h1:=sumN_le (n:=n) fun i hi=>h i (by omega);have h2:=h n (by omega);omega
theorem sumN_zero: ∀n,sumN n (fun _=>0)=0
 | 0=>rfl
 | n+1=>by
  unfold sumN;rw[sumN_zero n];rfl
theorem sumN_nonneg{f:Nat→Int}{n:Nat}(h: ∀i,i<n→0≤f i):0≤sumN n f:=by
 have:=sumN_le (f:=fun _=>0) (g:=f) h;rw[sumN_zero] at this;exact this
theorem sumN_null{f:Nat→Int}: ∀{n:Nat},(∀i,i<n→0≤f i)→sumN n f=0 → ∀i,i<n→f i=0
 | 0,_,_,i,hi=>by omega
 | n+1,h,h0,i,hi=>by
  unfold sumN at h0;have h1:=sumN_nonneg (n:=n) fun i hi=>h i (by omega);have h2:=h n (by omega);rcases Nat.lt_or_ge i n with hin|hin
  ·exact sumN_null (fun j hj=>h j (by omega)) (by omega) i hin
  ·obtain rfl:i=n:=by omega
   omega
theorem sumN_swap(f:Nat→Nat→Int)(m:Nat): ∀n,sumN n (fun i=>sumN m (f i))=sumN m (fun k=>sumN n (fun i=>f i k))
 | 0=>(sumN_zero m).symm
 | n+1=>by
  show sumN n (fun i=>sumN m (f i))+sumN m (f n)=sumN m fun k=>sumN n (fun i=>f i k)+f n k
  rw[sumN_swap f m n,←sumN_add]
theorem sumN_upd{f g:Nat→Int}{k:Nat}{c:Int}: ∀{n:Nat},k<n→(∀i,i<n→i≠k→f i=g i)→f k=g k+c→sumN n f=sumN n g+c
 | 0,hk,_,_=>by omega
 | n+1,hk,h,hc=>by
  unfold sumN;rcases Nat.lt_or_ge k n with hkn|hkn
  ·rw[sumN_upd hkn (fun i hi=>h i (by omega)) hc,h n (by omega) (by omega)];omega
  ·obtain rfl:k=n:=by omega
   rw[sumN_congr fun i hi=>h i (by omega) (by omega),hc];omega
/-! ### flows -/
def resid(cap put:Nat→Nat→Int)(i k:Nat):Int:=cap i k-put i k+put k i
def outN(n:Nat)(put:Nat→Nat→Int)(v:Nat):Int:=sumN n fun k=>put v k-put k v
def ClosedR(n:Nat)(cap put:Nat→Nat→Int)(C:Nat→Bool):Prop:= ∀v,v<n→C v=true → ∀k,k<n→0<resid cap put v k→C k=true
structure Flow(n:Nat)(cap:Nat→Nat→Int)(ground:Nat→Bool)(wt:Nat→Int)(put:Nat→Nat→Int)(down left:Nat→Int):Prop where
 lo: ∀i,i<n → ∀k,k<n→0≤put i k
 hi: ∀i,i<n → ∀k,k<n→put i k≤cap i k
 g0: ∀i,i<n→ground i=false→down i=0
 dn: ∀i,i<n→0≤down i
 bal: ∀i,i<n→outN n put i+down i=wt i-left i
 l0: ∀i,i<n→0≤left i
structure IsFall(n:Nat)(cap:Nat→Nat→Int)(ground:Nat→Bool)(put:Nat→Nat→Int)(left:Nat→Int)(S:Nat→Bool):Prop where
 ng: ∀v,v<n→S v=true→ground v=false
 has: ∀v,v<n→0<left v→S v=true
 cl:ClosedR n cap put S
 least: ∀C:Nat→Bool,(∀v,v<n→0<left v→C v=true)→ClosedR n cap put C → ∀v,v<n→S v=true→C v=true
def sumS(n:Nat)(S:Nat→Bool)(f:Nat→Int):Int:=sumN n fun i=>if S i then f i else 0
def outS(n:Nat)(S:Nat→Bool)(f:Nat→Nat→Int):Int:=sumN n fun i=>sumN n fun k=>if S i && !S k then f i k else 0
def excess(n:Nat)(cap:Nat→Nat→Int)(wt:Nat→Int)(S:Nat→Bool):Int:=sumS n S wt-outS n S cap
theorem inner_zero(n:Nat)(S:Nat→Bool)(put:Nat→Nat→Int):(sumN n fun i=>sumN n fun k=>if S i&&S k then put i k-put k i else 0)=0:=by
 have h1:(sumN n fun i=>sumN n fun k=>if S i&&S k then put i k-put k i else 0)=(sumN n fun i=>sumN n fun k=>if S i&&S k then put i k else 0)-sumN n fun i=>sumN n fun k=>if S i&&S k then put k i else 0:=by
  rw[←sumN_sub];refine sumN_congr fun i _=> ?_;rw[←sumN_sub];refine sumN_congr fun k _=> ?_
  split <;> omega
 have h2:(sumN n fun i=>sumN n fun k=>if S i&&S k then put k i else 0)=sumN n fun i=>sumN n fun k=>if S i&&S k then put i k else 0:=by
  rw[sumN_swap];refine sumN_congr fun i _=>sumN_congr fun k _=> ?_;rw[Bool.and_comm]
 omega
section
variable {n:Nat} {cap:Nat→Nat→Int} {ground:Nat→Bool} {wt:Nat→Int} {put:Nat→Nat→Int} {down left:Nat→Int}
theorem Flow.res(h:Flow n cap ground wt put down left){i k:Nat}(hi:i<n)(hk:k<n):0≤resid cap put i k:=by
 have h1:=h.hi i hi k hk;have h2:=h.lo k hk i hi;unfold resid;omega
theorem Flow.cut(h:Flow n cap ground wt put down left){S:Nat→Bool}(hS: ∀v,v<n→S v=true→ground v=false):sumS n S left=excess n cap wt S+outS n S (resid cap put):=by
 have h0:sumS n S left=sumS n S wt-sumS n S (outN n put):=by
  unfold sumS;rw[←sumN_sub];refine sumN_congr fun i hi=> ?_;by_cases hs:S i=true
  ·rw[if_pos hs,if_pos hs,if_pos hs];have h1:=h.bal i hi;have h2:=h.g0 i hi (hS i hi hs);omega
  ·rw[if_neg hs,if_neg hs,if_neg hs];rfl
 have h1:sumS n S (outN n put)=(sumN n fun i=>sumN n fun k=>if S i&&S k then put i k-put k i else 0)+outS n S fun i k=>put i k-put k i:=by
  unfold sumS outS;rw[←sumN_add];refine sumN_congr fun i _=> ?_;by_cases hs:S i=true
  ·rw[if_pos hs,←sumN_add];unfold outN;refine sumN_congr fun k _=> ?_;cases hk:S k <;> simp[hs]
  ·rw[Bool.not_eq_true] at hs;rw[if_neg (by simp[hs]),←sumN_add];refine Eq.trans (sumN_zero n).symm (sumN_congr fun k _=> ?_);simp[hs]
 have h2:outS n S (resid cap put)=outS n S cap-outS n S fun i k=>put i k-put k i:=by
  unfold outS;rw[←sumN_sub];refine sumN_congr fun i _=> ?_;rw[←sumN_sub];refine sumN_congr fun k _=> ?_;unfold resid;dsimp only
  split <;> omega
 have h3:=inner_zero n S put;unfold excess;omega
theorem Flow.outS_pos(h:Flow n cap ground wt put down left)(S:Nat→Bool):0≤outS n S (resid cap put) :=
 sumN_nonneg fun i hi=>sumN_nonneg fun k hk=>by
  split
  ·exact h.res hi hk
  ·exact Int.le_refl _
theorem Flow.closed_iff(h:Flow n cap ground wt put down left)(S:Nat→Bool):outS n S (resid cap put)=0↔ClosedR n cap put S:=by
 have hpos: ∀i,i<n → ∀k,k<n→0≤(if(S i && !S k)=true then resid cap put i k else 0):=fun i hi k hk=>by
  split
  ·exact h.res hi hk
  ·exact Int.le_refl _
 constructor
 ·intro h0 v hv hs k hk hr;have h1:=sumN_null (fun i hi=>sumN_nonneg (hpos i hi)) h0 v hv;have h2:=sumN_null (hpos v hv) h1 k hk;cases hsk:S k
  ·rw[if_pos (by rw[hs,hsk];rfl)] at h2;omega
  ·rfl
 ·intro hc;unfold outS;refine Eq.trans (sumN_congr fun i hi=> ?_) (sumN_zero n);refine Eq.trans (sumN_congr fun k hk=> ?_) (sumN_zero n)
  split
  ·rename_i hb;rw[Bool.and_eq_true,Bool.not_eq_true'] at hb;have h1:=h.res hi hk;rcases Int.lt_or_le 0 (resid cap put i k) with h2|h2
   ·have:=hc i hi hb.1 k hk h2;rw[hb.2] at this;cases this
   ·omega
  ·rfl
theorem sumS_le{n:Nat}{f:Nat→Int}(h0: ∀i,i<n→0≤f i)(S:Nat→Bool):sumS n S f≤sumN n f:=sumN_le fun i hi=>by
 split
 ·exact Int.le_refl _
 ·exact h0 i hi
theorem sumS_all{n:Nat}{f:Nat→Int}(h0: ∀i,i<n→0≤f i){S:Nat→Bool}:sumS n S f=sumN n f ↔ ∀i,i<n→0<f i→S i=true:=by
 constructor
 ·intro h i hi hp;have h1:sumN n (fun i=>f i-if S i=true then f i else 0)=0:=by
   rw[sumN_sub];unfold sumS at h;omega
  have h2:=sumN_null (fun i hi=>by
   have:=h0 i hi
   split <;> omega) h1 i hi
  split at h2
  ·assumption
  ·omega
 ·intro h;refine sumN_congr fun i hi=> ?_
  split
  ·rfl
  ·rename_i hs;have h1:=h0 i hi;rcases Int.lt_or_le 0 (f i) with h2|h2
   ·exact absurd (h i hi h2) hs
   ·omega
theorem IsFall.sum(h:Flow n cap ground wt put down left){S:Nat→Bool}(hS:IsFall n cap ground put left S):excess n cap wt S=sumN n left:=by
 have h1:=h.cut hS.ng;have h2:=(h.closed_iff S).2 hS.cl;have h3:=(sumS_all h.l0).2 hS.has;omega
theorem Flow.most(h:Flow n cap ground wt put down left){S:Nat→Bool}(hS: ∀v,v<n→S v=true→ground v=false):excess n cap wt S≤sumN n left:=by
 have h1:=h.cut hS;have h2:=h.outS_pos S;have h3:=sumS_le h.l0 S;omega
theorem IsFall.least_most(h:Flow n cap ground wt put down left){S T:Nat→Bool}(hS:IsFall n cap ground put left S)(hT: ∀v,v<n→T v=true→ground v=false)(he:sumN n left≤excess n cap wt T): ∀v,v<n→S v=true→T v=true:=by
 have h1:=h.cut hT;have h2:=h.outS_pos T;have h3:=sumS_le h.l0 T;exact hS.least T ((sumS_all h.l0).1 (by omega)) ((h.closed_iff T).1 (by omega))
end
theorem fall_unique{n:Nat}{cap:Nat→Nat→Int}{ground:Nat→Bool}{wt:Nat→Int}{p1 p2:Nat→Nat→Int}{d1 d2 l1 l2:Nat→Int}{S1 S2:Nat→Bool}
  (h1:Flow n cap ground wt p1 d1 l1) (h2:Flow n cap ground wt p2 d2 l2) (f1:IsFall n cap ground p1 l1 S1) (f2:IsFall n cap ground p2 l2 S2): ∀v,v<n→S1 v=S2 v:=by
 have e1:=f1.sum h1;have e2:=f2.sum h2;have m1:=h1.most f2.ng;have m2:=h2.most f1.ng;intro v hv;rw[Bool.eq_iff_iff];exact⟨f1.least_most h1 f2.ng (by omega) v hv,f2.least_most h2 f1.ng (by omega) v hv⟩
/-! ### ways -/
theorem upd_self(f:Nat→Nat→Int)(i k:Nat):upd f i k (f i k)=f:=by
 funext a b;unfold upd
 split
 ·rename_i h;rw[h.1,h.2]
 ·rfl
structure WayOk(n:Nat)(cap:Nat→Nat→Int)(ground seen:Nat→Bool)(put:Nat→Nat→Int)(down:Nat→Int)(i:Nat)(amt got:Int)(put':Nat→Nat→Int)(down':Nat→Int):Prop where
 pos:0<got
 le:got≤amt
 lo: ∀a,a<n → ∀b,b<n→0≤put' a b
 hi: ∀a,a<n → ∀b,b<n→put' a b≤cap a b
 dg: ∀v,v<n→ground v=false→down' v=down v
 dn: ∀v,v<n→down v≤down' v∧down' v≤down v+got
 bal: ∀v,v<n→outN n put' v+down' v=outN n put v+down v+if v=i then got else 0
 avoid: ∀C:Nat→Bool,(∀v,v<n→C v=true→ground v=false)→ClosedR n cap put C→C i=false∧ClosedR n cap put' C
 keep: ∀v,v<n→seen v=true → ∀x,x<n→put' v x=put v x∧put' x v=put x v
structure WayNo(n:Nat)(cap:Nat→Nat→Int)(ground seen:Nat→Bool)(put:Nat→Nat→Int)(i:Nat)(seen':Nat→Bool):Prop where
 old: ∀v,v<n→seen v=true→seen' v=true
 self:seen' i=true
 ng: ∀v,v<n→seen' v=true→seen v=false→ground v=false
 cl: ∀v,v<n→seen' v=true→seen v=false → ∀k,k<n→0<resid cap put v k→seen' k=true
 least: ∀C:Nat→Bool,ClosedR n cap put C→C i=true → ∀v,v<n→seen' v=true→seen v=false→C v=true
structure WayP(n:Nat)(cap:Nat→Nat→Int)(ground seen:Nat→Bool)(put:Nat→Nat→Int)(i t:Nat)(seen':Nat→Bool):Prop where
 old: ∀v,v<n→seen v=true→seen' v=true
 self:seen' i=true
 ng: ∀v,v<n→seen' v=true→seen v=false→ground v=false
 cl: ∀v,v<n→v≠i→seen' v=true→seen v=false → ∀k,k<n→0<resid cap put v k→seen' k=true
 cli: ∀k,k<t→k<n→0<resid cap put i k→seen' k=true
 least: ∀C:Nat→Bool,ClosedR n cap put C→C i=true → ∀v,v<n→seen' v=true→seen v=false→C v=true
def setB(f:Nat→Bool)(i:Nat)(v:Bool):Nat→Bool:=fun a=>if a=i then v else f a
section
variable {n:Nat} {cap:Nat→Nat→Int} {ground seen:Nat→Bool} {put:Nat→Nat→Int} {i:Nat}
theorem WayP.start(hg:ground i=false):WayP n cap ground seen put i 0 (setB seen i true):=by
 have key: ∀v,setB seen i true v=true→seen v=false→v=i:=fun v h1 h2=>by
  unfold setB at h1
  split at h1
  ·assumption
  ·rw[h2] at h1;cases h1
 refine⟨fun v _ h=> ?_,if_pos rfl,fun v _ h1 h2=> ?_,fun v _ hvi h1 h2=>absurd (key v h1 h2) hvi,fun k hk=>by omega,fun C _ hi v _ h1 h2=> ?_⟩
 ·unfold setB
  split
  ·rfl
  ·exact h
 ·rw[key v h1 h2];exact hg
 ·rw[key v h1 h2];exact hi
theorem WayP.skip{t:Nat}{s:Nat→Bool}(h:WayP n cap ground seen put i t s)(hk:s t=true ∨ ¬0<resid cap put i t):WayP n cap ground seen put i (t+1) s:=by
 refine⟨h.old,h.self,h.ng,h.cl,fun k hkt hkn hr=> ?_,h.least⟩;rcases Nat.lt_or_ge k t with hlt|hge
 ·exact h.cli k hlt hkn hr
 ·obtain rfl:k=t:=by omega
  rcases hk with hk|hk
  ·exact hk
  ·exact absurd hr hk
theorem WayP.fail{t:Nat}{s s':Nat→Bool}(hi:i<n)(h:WayP n cap ground seen put i t s)(ht:t<n)(hr:0<resid cap put i t)(h':WayNo n cap ground s put t s'):WayP n cap ground seen put i (t+1) s':=by
 refine⟨fun v hv h1=>h'.old v hv (h.old v hv h1),h'.old i hi h.self,fun v hv h1 h2=> ?_,fun v hv hvi h1 h2 k hk hrk=> ?_,fun k hkt hkn hrk=> ?_,fun C hC hCi v hv h1 h2=> ?_⟩
 ·cases hs:s v
  ·exact h'.ng v hv h1 hs
  ·exact h.ng v hv hs h2
 ·cases hs:s v
  ·exact h'.cl v hv h1 hs k hk hrk
  ·exact h'.old k hk (h.cl v hv hvi hs h2 k hk hrk)
 ·rcases Nat.lt_or_ge k t with hlt|hge
  ·exact h'.old k hkn (h.cli k hlt hkn hrk)
  ·obtain rfl:k=t:=by omega
   exact h'.self
 ·cases hs:s v
  ·exact h'.least C hC (hC i hi hCi t ht hr) v hv h1 hs
  ·exact h.least C hC hCi v hv hs h2
theorem WayP.all{t:Nat}{s:Nat→Bool}(h:WayP n cap ground seen put i t s)(ht:n≤t):WayNo n cap ground seen put i s:=by
 refine⟨h.old,h.self,h.ng,fun v hv h1 h2 k hk hr=> ?_,h.least⟩;by_cases hvi:v=i
 ·subst hvi;exact h.cli k (by omega) hk hr
 ·exact h.cl v hv hvi h1 h2 k hk hr
theorem WayOk.gr{down:Nat→Int}{amt:Int}(hg:ground i=true)(ha:0<amt)(lo: ∀a,a<n → ∀b,b<n→0≤put a b)(hi: ∀a,a<n → ∀b,b<n→put a b≤cap a b)(hin:i<n) :
  WayOk n cap ground seen put down i amt amt put (fun v=>if v=i then down v+amt else down v):=by
 refine⟨ha,Int.le_refl _,lo,hi,fun v _ h=> ?_,fun v _=> ?_,fun v _=> ?_,fun C hC hcl=> ?_,fun v _ _ x _=>⟨rfl,rfl⟩⟩
 ·rw[if_neg];rintro rfl;rw[hg] at h;cases h
 ·split <;> omega
 ·split <;> omega
 ·refine⟨?_,hcl⟩;cases h:C i
  ·rfl
  ·have:=hC i hin h;rw[hg] at this;cases this
theorem outN_upd(p:Nat→Nat→Int){k:Nat}(hi:i<n)(hk:k<n)(hik:i≠k)(u v:Int)(x:Nat) :
  outN n (upd (upd p k i u) i k v) x=outN n p x+if x=i then(v-p i k)-(u-p k i) else if x=k then(u-p k i)-(v-p i k) else 0:=by
 have e: ∀a b,upd (upd p k i u) i k v a b=if a=i∧b=k then v else if a=k∧b=i then u else p a b:=fun _ _=>rfl;unfold outN;by_cases hxi:x=i
 ·subst hxi;rw[if_pos rfl];refine sumN_upd hk (fun b _ hb=> ?_) ?_
  ·rw[e,e,if_neg (by omega),if_neg (by omega),if_neg (by omega),if_neg (by omega)]
  ·rw[e,e,if_pos ⟨rfl,rfl⟩,if_neg (by omega),if_pos ⟨rfl,rfl⟩];omega
 ·rw[if_neg hxi];by_cases hxk:x=k
  ·subst hxk;rw[if_pos rfl];refine sumN_upd hi (fun b _ hb=> ?_) ?_
   ·rw[e,e,if_neg (by omega),if_neg (by omega),if_neg (by omega),if_neg (by omega)]
   ·rw[e,e,if_neg (by omega),if_pos ⟨rfl,rfl⟩,if_pos ⟨rfl,rfl⟩];omega
  ·rw[if_neg hxk,Int.add_zero];refine sumN_congr fun b _=> ?_;rw[e,e,if_neg (by omega),if_neg (by omega),if_neg (by omega),if_neg (by omega)]
theorem WayOk.step{down:Nat→Int}{amt got:Int}{k:Nat}{s:Nat→Bool}{p1:Nat→Nat→Int}{d1:Nat→Int}(hi:i<n)(hk:k<n)(hn:seen i=false)(hs: ∀v,v<n→seen v=true→s v=true)(hsi:s i=true)(hsk:s k=false)
  (hr:0<resid cap put i k) (h:WayOk n cap ground s put down k (min amt (resid cap put i k)) got p1 d1) :
  WayOk n cap ground seen put down i amt got (upd (upd p1 k i (p1 k i-min (p1 k i) got)) i k (p1 i k+(got-min (p1 k i) got))) d1:=by
 have hik:i≠k:=fun e=>by
  rw[e,hsk] at hsi;cases hsi
 have e: ∀u v a b,upd (upd p1 k i u) i k v a b=if a=i∧b=k then v else if a=k∧b=i then u else p1 a b:=fun _ _ _ _=>rfl;have hp:=h.pos;have hl:=h.le;have k1:=h.keep i hi hsi k hk;have lo1:=h.lo k hk i hi;have hi1:=h.hi i hi k hk;have hi2:=h.hi k hk i hi;have lo2:=h.lo i hi k hk;have hres:got≤cap i k-p1 i k+p1 k i:=by
  rw[k1.1,k1.2];unfold resid at hl;omega
 refine⟨hp,by omega,fun a ha b hb=> ?_,fun a ha b hb=> ?_,h.dg,h.dn,fun v hv=> ?_,fun C hC hcl=> ?_,fun v hv hvs x hx=> ?_⟩
 ·rw[e]
  split
  ·omega
  ·split
   ·omega
   ·exact h.lo a ha b hb
 ·rw[e]
  split
  ·rename_i hab;rw[hab.1,hab.2];omega
  ·split
   ·rename_i hab;rw[hab.1,hab.2];omega
   ·exact h.hi a ha b hb
 ·rw[outN_upd p1 hi hk hik];have hb:=h.bal v hv;by_cases hvi:v=i
  ·rw[if_pos hvi,if_pos hvi];rw[if_neg (by omega)] at hb;omega
  ·rw[if_neg hvi,if_neg hvi];by_cases hvk:v=k
   ·rw[if_pos hvk];rw[if_pos hvk] at hb;omega
   ·rw[if_neg hvk];rw[if_neg hvk] at hb;omega
 ·obtain⟨c1,c2⟩:=h.avoid C hC hcl;have ci:C i=false:=by
   cases hc:C i
   ·rfl
   ·have:=hcl i hi hc k hk hr;rw[c1] at this;cases this
  refine⟨ci,fun v hv hcv x hx hrx=>c2 v hv hcv x hx ?_⟩;have hvi:v≠i:=fun e=>by
   rw[e,ci] at hcv;cases hcv
  have hvk:v≠k:=fun e=>by
   rw[e,c1] at hcv;cases hcv
  unfold resid at hrx ⊢;rw[e,e,if_neg (by omega),if_neg (by omega),if_neg (by omega),if_neg (by omega)] at hrx;exact hrx
 ·have hvi:v≠i:=fun e=>by
   rw[e,hn] at hvs;cases hvs
  have hvk:v≠k:=fun e=>by
   have:=hs v hv hvs;rw[e,hsk] at this;cases this
  rw[e,e,if_neg (by omega),if_neg (by omega),if_neg (by omega),if_neg (by omega)];exact h.keep v hv (hs v hv hvs) x hx
end
/-! ### pushing -/
def uptoW(wt:Nat→Int)(j:Nat):Nat→Int:=fun v=>if v<j then wt v else 0
structure PushP(n:Nat)(cap:Nat→Nat→Int)(ground:Nat→Bool)(wt:Nat→Int)(j:Nat)(put:Nat→Nat→Int)(down left:Nat→Int):Prop where
 f:Flow n cap ground (uptoW wt j) put down left
 z: ∀v,j≤v→v<n→left v=0
 st: ∀v,v<j→v<n→0<left v → ∃C:Nat→Bool,C v=true∧(∀u,u<n→C u=true→ground u=false)∧ClosedR n cap put C
structure PushQ(n:Nat)(cap:Nat→Nat→Int)(ground:Nat→Bool)(wt:Nat→Int)(j:Nat)(put:Nat→Nat→Int)(down left:Nat→Int):Prop where
 f:Flow n cap ground (uptoW wt (j+1)) put down left
 z: ∀v,j<v→v<n→left v=0
 st: ∀v,v<j→v<n→0<left v → ∃C:Nat→Bool,C v=true∧(∀u,u<n→C u=true→ground u=false)∧ClosedR n cap put C
def setN(f:Nat→Int)(i:Nat)(v:Int):Nat→Int:=fun a=>if a=i then v else f a
section
variable {n:Nat} {cap:Nat→Nat→Int} {ground:Nat→Bool} {wt:Nat→Int} {j:Nat} {put:Nat→Nat→Int} {down left:Nat→Int}
theorem PushP.start(hc: ∀i,i<n → ∀k,k<n→0≤cap i k):PushP n cap ground wt 0 (fun _ _=>0) (fun _=>0) (fun _=>0):=by
 refine⟨⟨fun _ _ _ _=>Int.le_refl _,hc,fun _ _ _=>rfl,fun _ _=>Int.le_refl _,fun i _=> ?_,fun _ _=>Int.le_refl _⟩,fun _ _ _=>rfl,fun v hv=>by omega⟩;have:outN n (fun _ _=>0) i=0:=sumN_zero n;rw[this];rfl
theorem PushP.next(h:PushP n cap ground wt j put down left)(hj:j<n)(hw: ∀i,i<n→0≤wt i):PushQ n cap ground wt j put down (setN left j (wt j)):=by
 refine⟨⟨h.f.lo,h.f.hi,h.f.g0,h.f.dn,fun i hi=> ?_,fun i hi=> ?_⟩,fun v h1 h2=> ?_,fun v h1 h2 h3=>h.st v h1 h2 ?_⟩
 ·have hb:=h.f.bal i hi;unfold uptoW setN at *
  by_cases hij:i=j
  ·subst hij;have:=h.z i (Nat.le_refl _) hi;rw[if_neg (by omega)] at hb;rw[if_pos (by omega),if_pos rfl];omega
  ·rw[if_neg hij];rw[hb];by_cases hlt:i<j
   ·rw[if_pos hlt,if_pos (by omega)]
   ·rw[if_neg hlt,if_neg (by omega)]
 ·unfold setN
  split
  ·exact hw j hj
  ·exact h.f.l0 i hi
 ·unfold setN;rw[if_neg (by omega)];exact h.z v (by omega) h2
 ·unfold setN at h3;rwa [if_neg (by omega)] at h3
theorem PushQ.ok(h:PushQ n cap ground wt j put down left)(hj:j<n){seen:Nat→Bool}{got:Int}{put':Nat→Nat→Int}{down':Nat→Int}(hw:WayOk n cap ground seen put down j (left j) got put' down'):PushQ n cap ground wt j put' down' (setN left j (left j-got)):=by
 have hle:=hw.le;refine⟨⟨hw.lo,hw.hi,fun i hi hg=> ?_,fun i hi=> ?_,fun i hi=> ?_,fun i hi=> ?_⟩,fun v h1 h2=> ?_,fun v h1 h2 h3=> ?_⟩
 ·rw[hw.dg i hi hg];exact h.f.g0 i hi hg
 ·have:=h.f.dn i hi;have:=hw.dn i hi;omega
 ·have hb:=h.f.bal i hi;have hb2:=hw.bal i hi;unfold setN;by_cases hij:i=j
  ·subst hij;rw[if_pos rfl] at hb2 ⊢;omega
  ·rw[if_neg hij] at hb2 ⊢;omega
 ·unfold setN
  split
  ·omega
  ·exact h.f.l0 i hi
 ·unfold setN;rw[if_neg (by omega)];exact h.z v h1 h2
 ·unfold setN at h3;rw[if_neg (by omega)] at h3;obtain⟨C,c1,c2,c3⟩:=h.st v h1 h2 h3;exact⟨C,c1,c2,(hw.avoid C c2 c3).2⟩
theorem PushQ.zero(h:PushQ n cap ground wt j put down left)(h0:left j=0):PushP n cap ground wt (j+1) put down left:=by
 refine⟨h.f,fun v h1 h2=>h.z v (by omega) h2,fun v h1 h2 h3=>h.st v ?_ h2 h3⟩;by_cases hvj:v=j
 ·subst hvj;omega
 ·omega
theorem PushQ.stuck(h:PushQ n cap ground wt j put down left){seen':Nat→Bool}(hw:WayNo n cap ground (fun _=>false) put j seen'):PushP n cap ground wt (j+1) put down left:=by
 refine⟨h.f,fun v h1 h2=>h.z v (by omega) h2,fun v h1 h2 h3=> ?_⟩;by_cases hvj:v=j
 ·subst hvj;exact⟨seen',hw.self,fun u hu hs=>hw.ng u hu hs rfl,fun u hu hs k hk hr=>hw.cl u hu hs rfl k hk hr⟩
 ·exact h.st v (by omega) h2 h3
theorem uptoW_all{i:Nat}(hi:i<n):uptoW wt n i=wt i:=if_pos hi
theorem PushP.flow(h:PushP n cap ground wt n put down left):Flow n cap ground wt put down left:=⟨h.f.lo,h.f.hi,h.f.g0,h.f.dn,fun i hi=>by rw[h.f.bal i hi,uptoW_all hi],h.f.l0⟩
theorem PushP.never(h:PushP n cap ground wt n put down left){i:Nat}(hi:i<n)(hl:0<left i){seen:Nat→Bool}{got amt:Int}{put':Nat→Nat→Int}{down':Nat→Int}(hw:WayOk n cap ground seen put down i amt got put' down'):False:=by
 obtain⟨C,c1,c2,c3⟩:=h.st i hi hi hl;have:=(hw.avoid C c2 c3).1;rw[c1] at this;cases this
end
structure FallP(n:Nat)(cap:Nat→Nat→Int)(ground:Nat→Bool)(put:Nat→Nat→Int)(left:Nat→Int)(t:Nat)(S:Nat→Bool):Prop where
 ng: ∀v,v<n→S v=true→ground v=false
 has: ∀v,v<t→v<n→0<left v→S v=true
 cl:ClosedR n cap put S
 least: ∀C:Nat→Bool,(∀v,v<n→0<left v→C v=true)→ClosedR n cap put C → ∀v,v<n→S v=true→C v=true
section
variable {n:Nat} {cap:Nat→Nat→Int} {ground:Nat→Bool} {put:Nat→Nat→Int} {left:Nat→Int} {t:Nat} {S:Nat→Bool}
theorem FallP.start:FallP n cap ground put left 0 (fun _=>false):=⟨fun _ _ h=>(nomatch h),fun v hv=>by omega,fun _ _ h=>(nomatch h),fun _ _ _ _ _ h=>(nomatch h)⟩
theorem FallP.skip(h:FallP n cap ground put left t S)(hk:S t=true ∨ ¬0<left t):FallP n cap ground put left (t+1) S:=by
 refine⟨h.ng,fun v h1 h2 h3=> ?_,h.cl,h.least⟩;rcases Nat.lt_or_ge v t with hlt|hge
 ·exact h.has v hlt h2 h3
 ·obtain rfl:v=t:=by omega
  rcases hk with hk|hk
  ·exact hk
  ·exact absurd h3 hk
theorem FallP.look(h:FallP n cap ground put left t S)(ht:t<n)(hl:0<left t){S':Nat→Bool}(hw:WayNo n cap ground S put t S'):FallP n cap ground put left (t+1) S':=by
 refine⟨fun v hv h1=> ?_,fun v h1 h2 h3=> ?_,fun v hv h1 k hk hr=> ?_,fun C hC hcl v hv h1=> ?_⟩
 ·cases hs:S v
  ·exact hw.ng v hv h1 hs
  ·exact h.ng v hv hs
 ·rcases Nat.lt_or_ge v t with hlt|hge
  ·exact hw.old v h2 (h.has v hlt h2 h3)
  ·obtain rfl:v=t:=by omega
   exact hw.self
 ·cases hs:S v
  ·exact hw.cl v hv h1 hs k hk hr
  ·exact hw.old k hk (h.cl v hv hs k hk hr)
 ·cases hs:S v
  ·exact hw.least C hcl (hC t ht hl) v hv h1 hs
  ·exact h.least C hC hcl v hv hs
theorem FallP.join(h:FallP n cap ground put left t S)(ht:t<n)(hl:0<left t){S':Nat→Bool}(hw:WayNo n cap ground (fun _=>false) put t S'):FallP n cap ground put left (t+1) (fun v=>S v||S' v):=by
 refine⟨fun v hv h1=> ?_,fun v h1 h2 h3=> ?_,fun v hv h1 k hk hr=> ?_,fun C hC hcl v hv h1=> ?_⟩
 ·rcases Bool.or_eq_true_iff.1 h1 with h1|h1
  ·exact h.ng v hv h1
  ·exact hw.ng v hv h1 rfl
 ·rcases Nat.lt_or_ge v t with hlt|hge
  ·exact Bool.or_eq_true_iff.2 (Or.inl (h.has v hlt h2 h3))
  ·obtain rfl:v=t:=by omega
   exact Bool.or_eq_true_iff.2 (Or.inr hw.self)
 ·rcases Bool.or_eq_true_iff.1 h1 with h1|h1
  ·exact Bool.or_eq_true_iff.2 (Or.inl (h.cl v hv h1 k hk hr))
  ·exact Bool.or_eq_true_iff.2 (Or.inr (hw.cl v hv h1 rfl k hk hr))
 ·rcases Bool.or_eq_true_iff.1 h1 with h1|h1
  ·exact h.least C hC hcl v hv h1
  ·exact hw.least C hcl (hC t ht hl) v hv h1 rfl
theorem FallP.all{S:Nat→Bool}(h:FallP n cap ground put left n S):IsFall n cap ground put left S:=⟨h.ng,fun v hv=>h.has v hv hv,h.cl,h.least⟩
end
def BRow(w:World)(g n:Nat)(s:Nat→Bool):Prop:=Blk w g 4 (vsA n fun k=> .bool (s k))
def NRow(w:World)(g n:Nat)(d:Nat→Int):Prop:=Blk w g 3 (vsA n fun k=> .int .i64 (d k))
section
variable {w w':World} {g n:Nat} {s:Nat→Bool} {d:Nat→Int}
theorem BRow.ext(h:BRow w g n s)(E:Ext w w'):BRow w' g n s:=Blk.ext h E
theorem NRow.ext(h:NRow w g n d)(E:Ext w w'):NRow w' g n d:=Blk.ext h E
theorem BRow.cell(h:BRow w g n s){k:Nat}(hk:k<n):w.cell? ⟨g,k,none⟩=some (.bool (s k)):=by
 rw[Blk.cell h,vsA_get _ hk]
theorem NRow.cell(h:NRow w g n d){k:Nat}(hk:k<n):w.cell? ⟨g,k,none⟩=some (.int .i64 (d k)):=by
 rw[Blk.cell h,vsA_get _ hk]
theorem BRow.set_(h:BRow w g n s)(k:Nat)(v:Bool):BRow (w.setCell ⟨g,k,none⟩ (.bool v)) g n (setB s k v):=by
 have:=Blk.set_ h k (.bool v);rw[vsA_set] at this;have e:(setF (fun k=>Value.bool (s k)) k (.bool v))=fun a=>Value.bool (setB s k v a):=by
  funext a;unfold setF setB
  split <;> rfl
 rwa [e] at this
theorem NRow.set_(h:NRow w g n d)(k:Nat)(v:Int):NRow (w.setCell ⟨g,k,none⟩ (.int .i64 v)) g n (setN d k v):=by
 have:=Blk.set_ h k (.int .i64 v);rw[vsA_set] at this;have e:(setF (fun k=>Value.int .i64 (d k)) k (.int .i64 v))=fun a=>Value.int .i64 (setN d k v a):=by
  funext a;unfold setF setN
  split <;> rfl
 rwa [e] at this
theorem BRow.congr(h:BRow w g n s){s':Nat→Bool}(e: ∀k,k<n→s' k=s k):BRow w g n s':=by
 have:(vsA n fun k=>Value.bool (s' k))=vsA n fun k=>Value.bool (s k):=by
  unfold vsA;congr 1;exact List.map_congr_left fun k hk=>by rw[e k (List.mem_range.1 hk)]
 unfold BRow;rw[this];exact h
theorem BRow.slice(h:BRow w g n s)(hn:n≤1000):SliceIs w (some ⟨g,0,none⟩) n n 1 ((List.range n).map fun k=> [.bool (s k)]) :=
 ⟨by simp,Nat.le_refl _,by unfold maxLen;omega,fun r hr=>by obtain⟨y,-,rfl⟩:=List.mem_map.1 hr;rfl,fun _=>⟨g,0,rfl,Blk.lt h,fun i r hr j u hu=>by
  rw[List.getElem?_map] at hr;obtain⟨v,hv,rfl⟩:=Option.map_eq_some_iff.1 hr;obtain⟨hi,rfl⟩:=List.getElem?_eq_some_iff.1 hv;rw[List.length_range] at hi;have hj:j=0:=by
   have:=(List.getElem?_eq_some_iff.1 hu).1
   simpa using this
  subst hj;simp only[List.getElem?_cons_zero,Option.some.injEq] at hu;subst hu;rw[Nat.zero_add,Nat.mul_one,Nat.add_zero,List.getElem_range]
  exact BRow.cell h hi⟩⟩
end
def grF(gl:List Bool)(k:Nat):Bool:=gl.getD k false
def unseen:Nat→(Nat→Bool)→Nat
 | 0,_=>0
 | n+1,s=>unseen n s+if s n=true then 0 else 1
theorem unseen_le(n:Nat)(s:Nat→Bool):unseen n s≤n:=by
 induction n with
 | zero=>exact Nat.le_refl _
 | succ n ih =>
  unfold unseen
  split <;> omega
theorem unseen_mono{s s':Nat→Bool}: ∀{n:Nat},(∀v,v<n→s v=true→s' v=true)→unseen n s'≤unseen n s
 | 0,_=>Nat.le_refl _
 | n+1,h=>by
  unfold unseen;have h1:=unseen_mono (n:=n) fun v hv=>h v (by omega);by_cases hs:s n=true
  ·rw[if_pos hs,if_pos (h n (by omega) hs)];exact h1
  ·rw[if_neg hs]
   split <;> omega
theorem unseen_lt{s s':Nat→Bool}{i:Nat}: ∀{n:Nat},(∀v,v<n→s v=true→s' v=true)→i<n→s i=false→s' i=true→unseen n s'<unseen n s
 | 0,_,hi,_,_=>by omega
 | n+1,h,hi,h1,h2=>by
  unfold unseen;rcases Nat.lt_or_ge i n with hin|hin
  ·have h3:=unseen_lt (n:=n) (fun v hv=>h v (by omega)) hin h1 h2;by_cases hs:s n=true
   ·rw[if_pos hs,if_pos (h n (by omega) hs)];omega
   ·rw[if_neg hs]
    split <;> omega
  ·obtain rfl:i=n:=by omega
   rw[if_pos h2,if_neg (by rw[h1];decide)];have:=unseen_mono (n:=i) fun v hv=>h v (by omega);omega
theorem oddS_in{s:Int}(h:1≤s∧s≤6):1≤oddS s∧oddS s≤5:=by
 unfold oddS;omega
theorem rodd_c(s:Int)(h:1≤s∧s≤6)(w:World):Calls Tryz.prog 103 #[.int .u8 s] w fun e w'=>e = .returned (.int .u8 (oddS s))∧w=w':=by
 have e1:s=1∨s=2∨s=3∨s=4∨s=5∨s=6:=by omega
 rcases e1 with rfl|rfl|rfl|rfl|rfl|rfl
 all_goals
  go_enter Tryz.func103,Tryz.ntmps103;go_wp2_with fail;go_ret;exact⟨rfl,rfl⟩
theorem oppD_xor{d:Nat}(hd:d<6):bits BinOp.xor IntKind.u8 (d:Int) 1=oppD d:=by
 have e1:d=0∨d=1∨d=2∨d=3∨d=4∨d=5:=by omega
 rcases e1 with rfl|rfl|rfl|rfl|rfl|rfl <;> rfl
theorem rMeet_c(ax ay az:Int)(ad:Nat)(as_ bx by_ bz:Int)(bd:Nat)(bs_:Int)(w:World)(ha:Knb.meets ⟨⟨ax,ay,az⟩,ad,as_⟩)(hb:Knb.meets ⟨⟨bx,by_,bz⟩,bd,bs_⟩) :
  Calls Tryz.prog 102 #[.agg #[.int .i64 ax,.int .i64 ay,.int .i64 az,.int .u8 ad,.int .u8 as_],.agg #[.int .i64 bx,.int .i64 by_,.int .i64 bz,.int .u8 bd,.int .u8 bs_]] w fun e w'=>e = .returned (.bool (meetB ⟨⟨ax,ay,az⟩,ad,as_⟩ ⟨⟨bx,by_,bz⟩,bd,bs_⟩))∧Ext w w':=by
 obtain⟨W1,hW1,E1,B1,hz1⟩:=mk_ w #[.int .i64 ax,.int .i64 ay,.int .i64 az,.int .u8 ad,.int .u8 as_] 137;obtain⟨W2,hW2,E2,B2,hz2⟩:=mk_ W1 #[.int .i64 bx,.int .i64 by_,.int .i64 bz,.int .u8 bd,.int .u8 bs_] 137;clear hz1;have b1:=(B1.ext E2).cell;have b2:=B2.cell;have E12:=E1.trans E2;have aok:=ha.ok;have had:ad<6:=by have:=ha.d5;simp only at this;omega
 have hbd:bd<6:=by have:=hb.d5;simp only at this;omega
 have Ha:=h_ (show 1≤as_∧as_≤6 from⟨ha.s1,ha.s6⟩);have Hb:=h_ (show 1≤bs_∧bs_≤6 from⟨hb.s1,hb.s6⟩);simp only at aok;have f1:IntKind.i64.wrap (ad:Int)=ad:=IntWalk.i64_in _ (by omega);have hx:=oppD_xor had;have heq:=pt_eql;clear hz2 ha hb;cases h1:Pt.eqB ⟨ax+(stepS ad).x,ay+(stepS ad).y,az+(stepS ad).z⟩ ⟨bx,by_,bz⟩
 ·have Hv:=h_ (show meetB ⟨⟨ax,ay,az⟩,ad,as_⟩ ⟨⟨bx,by_,bz⟩,bd,bs_⟩=false by
   unfold meetB addP;rw[show(ad:Int).toNat=ad from rfl,h1]
   rfl)
  go_enter Tryz.func102,Tryz.ntmps102
  go_upto_region 1 with(fail)
  refine w_g ?_
  repeat (go_big_quiet_step ((first|(go_at_call 138;exact quiet_ext (rstep_c ad had _))|(go_at_call 96;exact quiet_ext (rPlus_c _ _ _ _ _ _ _ aok (stepS_ok ad)))|(go_at_call 103;first|exact quiet_ext ((rodd_c as_ Ha.out _).mono fun _ _ ⟨he,hw⟩=>⟨he,hw▸Ext.refl _⟩)|exact quiet_ext ((rodd_c bs_ Hb.out _).mono fun _ _ ⟨he,hw⟩=>⟨he,hw▸Ext.refl _⟩)))))
  refine wpQuiet_nil ?_;intro W5 hW5;have E5:Ext W2 W5:=by
   obtain⟨x,rfl⟩:=hW5;exact(Ext.refl _).grow x
  clear hW5;obtain⟨hcW5,hfW5,hzW5⟩:=ext_facts E5;go_wp2_with fail;go_ret;exact⟨by rw[Hv.out];rfl,E12.trans E5⟩
 by_cases h2:(bd:Int)=oppD ad;rotate_left
 ·have Hv:=h_ (show meetB ⟨⟨ax,ay,az⟩,ad,as_⟩ ⟨⟨bx,by_,bz⟩,bd,bs_⟩=false by
   unfold meetB addP;rw[show(ad:Int).toNat=ad from rfl,h1,decide_eq_false h2]
   rfl)
  have d2:((bd:Int)==oppD ad)=false:=by simpa using h2
  clear h2;go_enter Tryz.func102,Tryz.ntmps102
  go_upto_region 1 with(fail)
  refine w_g ?_
  repeat (go_big_quiet_step ((first|(go_at_call 138;exact quiet_ext (rstep_c ad had _))|(go_at_call 96;exact quiet_ext (rPlus_c _ _ _ _ _ _ _ aok (stepS_ok ad)))|(go_at_call 103;first|exact quiet_ext ((rodd_c as_ Ha.out _).mono fun _ _ ⟨he,hw⟩=>⟨he,hw▸Ext.refl _⟩)|exact quiet_ext ((rodd_c bs_ Hb.out _).mono fun _ _ ⟨he,hw⟩=>⟨he,hw▸Ext.refl _⟩)))))
  refine wpQuiet_nil ?_;intro W5 hW5;have E5:Ext W2 W5:=by
   obtain⟨x,rfl⟩:=hW5;exact(Ext.refl _).grow x
  clear hW5;obtain⟨hcW5,hfW5,hzW5⟩:=ext_facts E5;go_wp2_with fail;go_ret;exact⟨by rw[Hv.out];rfl,E12.trans E5⟩
 have d2:((bd:Int)==oppD ad)=true:=by simpa using h2
 have H2:=h_ h2;clear h2;by_cases h3:as_=bs_
 ·have Hv:=h_ (show meetB ⟨⟨ax,ay,az⟩,ad,as_⟩ ⟨⟨bx,by_,bz⟩,bd,bs_⟩=false by
   unfold meetB addP;rw[show(ad:Int).toNat=ad from rfl,h1,decide_eq_true H2.out,decide_eq_false (by simpa using h3)]
   rfl)
  have d3:(as_ != bs_)=false:=by simpa using h3
  clear h3;go_enter Tryz.func102,Tryz.ntmps102
  go_upto_region 1 with(fail)
  refine w_g ?_
  repeat (go_big_quiet_step ((first|(go_at_call 138;exact quiet_ext (rstep_c ad had _))|(go_at_call 96;exact quiet_ext (rPlus_c _ _ _ _ _ _ _ aok (stepS_ok ad)))|(go_at_call 103;first|exact quiet_ext ((rodd_c as_ Ha.out _).mono fun _ _ ⟨he,hw⟩=>⟨he,hw▸Ext.refl _⟩)|exact quiet_ext ((rodd_c bs_ Hb.out _).mono fun _ _ ⟨he,hw⟩=>⟨he,hw▸Ext.refl _⟩)))))
  refine wpQuiet_nil ?_;intro W5 hW5;have E5:Ext W2 W5:=by
   obtain⟨x,rfl⟩:=hW5;exact(Ext.refl _).grow x
  clear hW5;obtain⟨hcW5,hfW5,hzW5⟩:=ext_facts E5;go_wp2_with fail;go_ret;exact⟨by rw[Hv.out];rfl,E12.trans E5⟩
 have d3:(as_ != bs_)=true:=by simpa using h3
 have H3:=h_ h3;clear h3;have Hv:=h_ (show meetB ⟨⟨ax,ay,az⟩,ad,as_⟩ ⟨⟨bx,by_,bz⟩,bd,bs_⟩=(oddS as_==oddS bs_) by
  unfold meetB addP;rw[show(ad:Int).toNat=ad from rfl,h1,decide_eq_true H2.out,decide_eq_true (by simpa using H3.out)];simp only[Bool.true_and]
  rfl)
 go_enter Tryz.func102,Tryz.ntmps102
 go_upto_region 1 with(fail)
 refine w_g ?_
 repeat (go_big_quiet_step ((first|(go_at_call 138;exact quiet_ext (rstep_c ad had _))|(go_at_call 96;exact quiet_ext (rPlus_c _ _ _ _ _ _ _ aok (stepS_ok ad)))|(go_at_call 103;first|exact quiet_ext ((rodd_c as_ Ha.out _).mono fun _ _ ⟨he,hw⟩=>⟨he,hw▸Ext.refl _⟩)|exact quiet_ext ((rodd_c bs_ Hb.out _).mono fun _ _ ⟨he,hw⟩=>⟨he,hw▸Ext.refl _⟩)))))
 refine wpQuiet_nil ?_;intro W5 hW5;have E5:Ext W2 W5:=by
  obtain⟨x,rfl⟩:=hW5;exact(Ext.refl _).grow x
 clear hW5;obtain⟨hcW5,hfW5,hzW5⟩:=ext_facts E5;go_wp2_with fail;go_ret;exact⟨by rw[Hv.out];rfl,E12.trans E5⟩
end Go.Proofs.YtojolpbpjimfgaaGreatDoor
