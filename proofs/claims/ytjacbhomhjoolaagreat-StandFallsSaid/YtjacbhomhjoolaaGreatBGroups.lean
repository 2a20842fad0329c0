
/- The search in depth of the program's Groups: one visit. Groups of the program at a valid model. -/
import Derived.Test.YtjacbhomhjoolaaGreatBLinkS
import Derived.Test.YtjacbhomhjoolaaGreatBLinks
import Derived.Test.YtjacbhomhjoolaaGreatBOvWalk
import Derived.Test.YtjacbhomhjoolaaGreatBLib
namespace Go.Proofs.YtjacbhomhjoolaaGreat
open Go.RowKit

def visV (O I N V : Nat) : Value := .func (.func 50) #[] #[.pointer (some ⟨O,0,none⟩),.pointer (some ⟨I,0,none⟩),.pointer (some ⟨N,0,none⟩),.pointer (some ⟨V,0,none⟩)]
structure GEnv (w : World) (T OB O I N V NB n oc nc i : Nat) (vs : Nat → Value) (f : Nat → List Int) : Prop where
 o : Blk w O 39 #[.slice (some ⟨OB,0,none⟩) n oc]
 i_ : Blk w I 3 #[.int .i64 i]
 nb : Blk w N 111 #[.slice (some ⟨NB,0,none⟩) n nc]
 v : Blk w V 112 #[visV O I N V]
 rows : Blk w NB 39 (vsA n vs)
 row : RowsO w T n vs f
 no : O ≠ OB
 ni : I ≠ OB
 nn : N ≠ OB
 nv : V ≠ OB
 nr : NB ≠ OB
 own : ∀ k,k < n → (vs k).ownBlock ≠ some OB
theorem GEnv.only {w w' : World} {T OB O I N V NB n oc nc i : Nat} {vs : Nat → Value} {f : Nat → List Int} (h : GEnv w T OB O I N V NB n oc nc i vs f) (k : Only (fun b => b = OB) w w') : GEnv w' T OB O I N V NB n oc nc i vs f :=
 ⟨h.o.only k h.no,h.i_.only k h.ni,h.nb.only k h.nn,h.v.only k h.nv,h.rows.only k h.nr,
  ⟨fun c hc => own_only (h.row.row c hc) k (fun r hr e => h.own c hc (by rw [hr,e])),h.row.sep⟩,h.no,h.ni,h.nn,h.nv,h.nr,h.own⟩
theorem RowsO.only {w w' : World} {T n OB : Nat} {vs : Nat → Value} {f : Nat → List Int} (h : RowsO w T n vs f) (k : Only (fun b => b = OB) w w') (hv : ∀ c,c < n → (vs c).ownBlock ≠ some OB) : RowsO w' T n vs f :=
 ⟨fun c hc => own_only (h.row c hc) k (fun r hr e => hv c hc (by rw [hr,e])),h.sep⟩
def VisPost (L : List Lnk) (n i k OB : Nat) (o : List Int) (w : World) (e : Ending) (w' : World) : Prop := (∃ v,e = .returned v) ∧ ∃ o',Vis L n i k o o' ∧ NumX w' OB o' ∧ Only (fun b => b = OB) w w'

def IntRes (l : List Int) (r : Int) (w : World) (e : Ending) (w' : World) : Prop := ∃ A cap,e = .returned (.tuple #[.slice A l.length cap,.int .i64 r]) ∧ IntsZ w' A cap l ∧ Ext w w'
def IntNew (l : List Int) (r : Int) (w : World) (e : Ending) (w' : World) : Prop := ∃ A cap,e = .returned (.tuple #[.slice A l.length cap,.int .i64 r]) ∧ IntsZ w' A cap l ∧ (∀ q,A = some q → w.heap.size ≤ q.block) ∧ Ext w w'
theorem IntNew.res {l : List Int} {r : Int} {w : World} {e : Ending} {w' : World} : IntNew l r w e w' → IntRes l r w e w' := fun ⟨A,cap,h1,h2,_,h4⟩ => ⟨A,cap,h1,h2,h4⟩
structure Gr9 (W0 : World) (T n : Nat) (vs : Nat → Value) (f : Nat → List Int) (NB N X nc xa xb : Nat) (lk : Array Value) (A : Option Addr) (la ca : Nat) (B : Option Addr) (lb cb : Nat) (L : Nat → Bool) (us : Nat → Value) (w : World) : Prop where
 x : Ext W0 w
 g0 : Blk w X 95 lk
 g1 : Blk w N 111 #[.slice (some ⟨NB,0,none⟩) n nc]
 g2 : L 14 = false → RowsO w T n vs f
 g3 : L 14 = true → L 23 = false → RowsO w T n (setF vs xa (us 14)) (setF f xa (f xa ++ [(xb : Int)]))
 g4 : L 23 = true → RowsO w T n (setF (setF vs xa (us 14)) xb (us 23)) (setF (setF f xa (f xa ++ [(xb : Int)])) xb (f xb ++ [(xa : Int)]))
 g5 : L 25 = false → Blk w NB 39 (vsA n vs)
 g6 : L 25 = true → L 27 = false → Blk w NB 39 (vsA n (setF vs xa (us 14)))
 g7 : L 27 = true → Blk w NB 39 (vsA n (setF (setF vs xa (us 14)) xb (us 23)))
 g8 : L 13 = true → L 14 = false → TmpO w n vs (bk (us 13)) xb
 g9 : L 22 = true → L 14 = false → TmpO w n vs (bk (us 22)) xa
 g10 : L 22 = true → L 14 = true → L 23 = false → TmpO w n (setF vs xa (us 14)) (bk (us 22)) xa
 f0 : L 0 = true → us 0 = .slice (some ⟨NB,0,none⟩) n nc
 f1 : L 1 = true → us 1 = .pointer (some ⟨X,0,none⟩)
 f2 : L 2 = true → us 2 = .int .i64 xa
 f3 : L 3 = true → us 3 = .slice (some ⟨NB,0,none⟩) n nc
 f4 : L 4 = true → us 4 = .pointer (some ⟨X,1,none⟩)
 f5 : L 5 = true → us 5 = .int .i64 xb
 f6 : L 6 = true → us 6 = .slice (some ⟨NB,0,none⟩) n nc
 f7 : L 7 = true → us 7 = .pointer (some ⟨X,0,none⟩)
 f8 : L 8 = true → us 8 = .int .i64 xa
 f9 : L 9 = true → us 9 = .pointer (some ⟨NB,xa,none⟩)
 f10 : L 10 = true → us 10 = .slice A la ca
 f11 : L 11 = true → us 11 = .pointer (some ⟨X,1,none⟩)
 f12 : L 12 = true → us 12 = .int .i64 xb
 f13 : L 13 = true → us 13 = .slice (some ⟨bk (us 13),0,none⟩) 1 1
 f15 : L 15 = true → us 15 = .slice (some ⟨NB,0,none⟩) n nc
 f16 : L 16 = true → us 16 = .pointer (some ⟨X,1,none⟩)
 f17 : L 17 = true → us 17 = .int .i64 xb
 f18 : L 18 = true → us 18 = .pointer (some ⟨NB,xb,none⟩)
 f19 : L 19 = true → us 19 = .slice B lb cb
 f20 : L 20 = true → us 20 = .pointer (some ⟨X,0,none⟩)
 f21 : L 21 = true → us 21 = .int .i64 xa
 f22 : L 22 = true → us 22 = .slice (some ⟨bk (us 22),0,none⟩) 1 1
 f24 : L 24 = true → us 24 = .pointer (some ⟨NB,xa,none⟩)
 f26 : L 26 = true → us 26 = .pointer (some ⟨NB,xb,none⟩)
end Go.Proofs.YtjacbhomhjoolaaGreat
