/- The sorted list by insertion: so that what lies in order can be calculated. The kind and the models of the chapter's examples, in memory; plain values of what is asked of them. plate, two, turns of the law: the examples' kind and models. -/
import Derived.Test.YtjacbhomhjoolaaGreatBPairs
import Derived.Test.YtjacbhomhjoolaaGreatBApi
import Derived.Test.YtjacbhomhjoolaaGreatBOrd
import Derived.Test.YtjacbhomhjoolaaGreatBOvWalk
import Derived.Test.YtjacbhomhjoolaaGreatBLinkS
import Derived.Test.YtjacbhomhjoolaaGreatBTurnB
namespace Go.Proofs.YtjacbhomhjoolaaGreat
open Go.RowKit

def insP (x : Pt) : List Pt → List Pt
  | [] => [x]
  | y :: l => if ltP y x then y :: insP x l else x :: y :: l
def sortI : List Pt → List Pt
  | [] => []
  | x :: l => insP x (sortI l)
theorem insP_perm (x : Pt) : ∀ l, (insP x l).Perm (x :: l)
  | [] => List.Perm.refl _
  | y :: l => by
    unfold insP
    split
    · exact ((insP_perm x l).cons y).trans (List.Perm.swap x y l)
    · exact List.Perm.refl _
theorem sortI_perm : ∀ l, (sortI l).Perm l
  | [] => List.Perm.refl _
  | x :: l => (insP_perm x _).trans ((sortI_perm l).cons x)
theorem insP_pairs {x : Pt} : ∀ {l : List Pt}, l.Pairwise (fun p q => ltP q p = false) → (insP x l).Pairwise fun p q => ltP q p = false
  | [], _ => List.pairwise_singleton _ _
  | y :: l, h => by
    obtain ⟨h1, h2⟩ := List.pairwise_cons.1 h
    unfold insP
    split
    · rename_i hyx
      refine List.pairwise_cons.2 ⟨fun z hz => ?_, insP_pairs h2⟩
      rcases List.mem_cons.1 ((insP_perm x l).mem_iff.1 hz) with rfl | hz
      · exact ltP_anti hyx
      · exact h1 z hz
    · rename_i hyx
      rw [Bool.not_eq_true] at hyx
      refine List.pairwise_cons.2 ⟨fun z hz => ?_, h⟩
      rcases List.mem_cons.1 hz with rfl | hz
      · exact hyx
      · have h3 := h1 z hz
        rw [ltP_not] at *
        omega
theorem sortI_pairs : ∀ l, (sortI l).Pairwise fun p q => ltP q p = false
  | [] => List.Pairwise.nil
  | _ :: l => insP_pairs (sortI_pairs l)
theorem sortP_I (l : List Pt) : sortP l = sortI l := (sortP_is (sortI_perm l) (sortI_pairs l)).symm
def bcellsI (ks : List Knd) (b : Brk) : List Pt := sortI (placeP (kindAt ks b.kind.toNat).cells b.turn.toNat b.at_)
theorem bcells_I (ks : List Knd) (b : Brk) : bcells ks b = bcellsI ks b := sortP_I _
def overI (ks : List Knd) (bs : List Brk) (j : Nat) : List (Int × Int) := (List.range j).flatMap fun i => ((List.range bs.length).filter fun k => decide (i < k) && commonB (bcellsI ks (brkAt bs i)) (bcellsI ks (brkAt bs k))).map fun (k : Nat) => ((i : Int), (k : Int))
theorem overL_I (ks : List Knd) (bs : List Brk) (j : Nat) : overL ks bs j = overI ks bs j := by
  unfold overL rowO overB overI
  simp only [bcells_I]
def likeAtI (k : Knd) (bt : Nat) (p : Pt) (n : Nat) : Pt := subP (ptAt (sortI (placeP k.cells bt p)) 0) (ptAt (sortI (placeP k.cells n ⟨0, 0, 0⟩)) 0)
theorem likeAt_I (k : Knd) (bt : Nat) (p : Pt) (n : Nat) : likeAt k bt p n = likeAtI k bt p n := by
  unfold likeAt likeAtI
  rw [sortP_I, sortP_I]
def likeI (k : Knd) (bt : Nat) (p : Pt) (n : Nat) : Bool := eqC (sortI (placeP k.cells n (likeAtI k bt p n))) (sortI (placeP k.cells bt p)) && subK (placeK k.knobs n (likeAtI k bt p n)) (placeK k.knobs bt p)
theorem likeB_I (k : Knd) (bt : Nat) (p : Pt) (n : Nat) : likeB k bt p n = likeI k bt p n := by
  unfold likeB likeI
  rw [sortP_I, sortP_I, likeAt_I]
def normI (k : Knd) (bt : Nat) (p : Pt) : Pt × Nat :=
  match (List.range 24).find? (fun n => likeI k bt p n) with
  | some n => if nearB (likeAtI k bt p n) (-1000) 1000 then (likeAtI k bt p n, n) else (p, bt)
  | none => (p, bt)
theorem normQ_I (k : Knd) (bt : Nat) (p : Pt) : normQ k bt p = normI k bt p := by
  unfold normQ normI
  simp only [likeB_I, likeAt_I]
  rfl
theorem symsOf_I (k : Knd) (pre : List (Fin 24)) : symsOf k pre = (pre.filter fun x => likeI k 0 ⟨0, 0, 0⟩ x.val).map fun x => .int .i64 (x.val : Int) := by
  unfold symsOf
  simp only [likeB_I]
theorem symN_I (k : Knd) (pre : List (Fin 24)) : symN k pre = (pre.filter fun x => likeI k 0 ⟨0, 0, 0⟩ x.val).length := by
  unfold symN
  simp only [likeB_I]
end Go.Proofs.YtjacbhomhjoolaaGreat
namespace Go.Proofs.YtjacbhomhjoolaaGreat
open Go.RowKit

def plateK : Knd := ⟨[⟨0, 0, 0⟩, ⟨1, 0, 0⟩], [⟨⟨0, 0, 0⟩, 4, 1⟩, ⟨⟨0, 0, 0⟩, 5, 2⟩, ⟨⟨1, 0, 0⟩, 4, 1⟩, ⟨⟨1, 0, 0⟩, 5, 2⟩], 2⟩
def twoB (x z : Int) : List Brk := [⟨0, ⟨0, 0, 0⟩, 0, 0⟩, ⟨0, ⟨x, 0, z⟩, 0, 0⟩]
theorem plate_valid : plateK.valid = true := by decide +kernel
theorem plate_kinds : kindsErr [plateK] = 0 := by decide +kernel
theorem model_11 : modelErr [plateK] (twoB 1 1) = 0 := by decide +kernel
theorem over_11 : overL [plateK] (twoB 1 1) 2 = [] := by
  rw [overL_I]
  decide +kernel
theorem check_11 : checkErr [plateK] (twoB 1 1) = 0 := checkErr_nil model_11 over_11
theorem check_10 : modelErr [plateK] (twoB 1 0) = 0 := by decide +kernel
theorem links_11 : linkL [plateK] (twoB 1 1) = [⟨0, 1, 2, 1, 1⟩] := by decide +kernel
theorem joints_11 : jointL [plateK] (twoB 1 1) = [⟨0, 1, 2, 3, false⟩] := by decide +kernel
theorem over_10 : overL [plateK] (twoB 1 0) 2 = [(0, 1)] := by
  rw [overL_I]
  decide +kernel
end Go.Proofs.YtjacbhomhjoolaaGreat
namespace Go.Proofs.YtjacbhomhjoolaaGreat
open Go.RowKit

theorem plate_byte : ∀ x ∈ plateK.knobs, x.byte := by
  intro x hx
  simp only [plateK, List.mem_cons, List.not_mem_nil, or_false] at hx
  rcases hx with rfl | rfl | rfl | rfl <;> unfold Knb.byte <;> simp
theorem two_byte (x z : Int) : ∀ b ∈ twoB x z, b.byte := by
  intro b hb
  simp only [twoB, List.mem_cons, List.not_mem_nil, or_false] at hb
  rcases hb with rfl | rfl <;> unfold Brk.byte <;> simp
def PlatePost (w : World) (e : Ending) (w' : World) : Prop := ∃ QA p, e = .returned (.slice QA 1 1) ∧ Kinds w' QA 1 [(plateK, p)] ∧ Ext w w'
def TwoPost (x z : Int) (w : World) (e : Ending) (w' : World) : Prop := ∃ g, e = .returned (.agg #[.slice (some ⟨g, 0, none⟩) 2 2]) ∧ Bricks w' (some ⟨g, 0, none⟩) 2 (twoB x z) ∧ Ext w w'
set_option maxRecDepth 100000 in
set_option maxHeartbeats 8000000 in
theorem plate_c (w : World) : Calls Tryz.prog 23 #[] w (PlatePost w) := by
  go_enter Tryz.func23, Tryz.ntmps23
  go_wp2_with fail
  go_ret
  obtain ⟨W1, hW1, E1, B1, hz1⟩ := mk_ w #[.int .i64 0, .int .i64 0, .int .i64 0] 27
  rw [hW1]
  obtain ⟨W2, hW2, E2, B2, hz2⟩ := mk_ W1 #[.int .i64 1, .int .i64 0, .int .i64 0] 27
  rw [hW2]
  obtain ⟨W3, hW3, E3, B3, hz3⟩ := mk_ W2 #[.int .i64 0, .int .i64 0, .int .i64 0, .int .i64 1, .int .i64 0, .int .i64 0] 27
  rw [hW3]
  obtain ⟨W4, hW4, E4, B4, hz4⟩ := mk_ W3 #[.int .i64 0, .int .i64 0, .int .i64 0, .int .u8 4, .int .u8 1, .int .i64 0, .int .i64 0, .int .i64 0, .int .u8 5, .int .u8 2, .int .i64 1, .int .i64 0, .int .i64 0, .int .u8 4, .int .u8 1, .int .i64 1, .int .i64 0, .int .i64 0, .int .u8 5, .int .u8 2] 109
  rw [hW4]
  obtain ⟨W5, hW5, E5, B5, hz5⟩ := mk_ W4 #[.slice (some ⟨w.heap.size + 1 + 1, 0, none⟩) 2 2, .slice (some ⟨w.heap.size + 1 + 1 + 1, 0, none⟩) 4 4, .int .i64 2] 72
  rw [hW5]
  rw [hz2, hz1] at B3
  rw [hz3, hz2, hz1] at B4
  rw [hz4, hz3, hz2, hz1] at B5
  have hc : Cells W5 (some ⟨w.heap.size + 1 + 1, 0, none⟩) 2 plateK.cells := cells_of_blk (l := plateK.cells) ((B3.ext E4).ext E5) rfl (by omega)
  have hn : KnobsR W5 (some ⟨w.heap.size + 1 + 1 + 1, 0, none⟩) 4 plateK.knobs := knobs_of_blk (l := plateK.knobs) (B4.ext E5) rfl (by omega)
  exact ⟨some ⟨w.heap.size + 1 + 1 + 1 + 1, 0, none⟩, ⟨some ⟨w.heap.size + 1 + 1, 0, none⟩, 2, some ⟨w.heap.size + 1 + 1 + 1, 0, none⟩, 4⟩, rfl, kinds_one (k := plateK) B5 ⟨hc, hn, plate_byte⟩, (((E1.trans E2).trans E3).trans E4).trans E5⟩
set_option maxRecDepth 100000 in
set_option maxHeartbeats 8000000 in
theorem two_c (x z : Int) (w : World) : Calls Tryz.prog 24 #[.int .i64 x, .int .i64 z] w (TwoPost x z w) := by
  go_enter Tryz.func24, Tryz.ntmps24
  go_wp2_with fail
  obtain ⟨W1, hW1, E1, B1, hz1⟩ := mk_ w #[.slice (some ⟨w.heap.size + 1, 0, none⟩) 2 2] 25
  rw [hW1]
  obtain ⟨W2, hW2, E2, B2, hz2⟩ := mk_ W1 #[.int .i64 0, .int .i64 0, .int .i64 0, .int .i64 0, .int .u8 0, .int .u8 0, .int .i64 0, .int .i64 x, .int .i64 0, .int .i64 z, .int .u8 0, .int .u8 0] 51
  rw [hW2]
  rw [hz1] at B2
  have b1 := (B1.ext E2).cell
  have hb : Bricks W2 (some ⟨w.heap.size + 1, 0, none⟩) 2 (twoB x z) := ⟨Blk.slice (rows := (twoB x z).map Brk.cs) B2 (by intro r hr; obtain ⟨y, -, rfl⟩ := List.mem_map.1 hr; rfl) (by show 2 ≤ 100000; omega), two_byte x z⟩
  refine bodyPost_ret (v := .agg #[.slice (some ⟨w.heap.size + 1, 0, none⟩) 2 2]) (by simp [results, Tryz.results24, go_sem, b1]) rfl ⟨_, rfl, hb, E1.trans E2⟩
set_option maxRecDepth 100000 in
set_option maxHeartbeats 8000000 in
theorem turns_c (n : Nat) (hn : n < 24) (x y z : Int) (h : turnS ⟨1, 2, 3⟩ n = ⟨x, y, z⟩) (w : World) : Calls Tryz.prog 25 #[.int .i64 n, .int .i64 x, .int .i64 y, .int .i64 z] w fun e w' => e = .returned (.bool true) ∧ Ext w w' := by
  have T := Turn_ok 1 2 3 n w hn (by decide)
  rw [h] at T
  have hq : ∀ w : World, (binOp .eql 27 (.agg #[.int .i64 x, .int .i64 y, .int .i64 z]) (.agg #[.int .i64 x, .int .i64 y, .int .i64 z])).run Tryz.prog w = .ok (.bool true) w := fun w => by
    rw [pt_eql, Pt.eqB_iff.2 rfl]
  clear h
  go_enter Tryz.func25, Tryz.ntmps25
  go_wp2_with fail
  refine T.mono ?_
  rintro e w1 ⟨rfl, E1⟩
  obtain ⟨W2, hW2, E2, B2, hz2⟩ := mk_ w1 #[.int .i64 x, .int .i64 y, .int .i64 z] 27
  have b2 := B2.cell
  go_wp2_with fail
  go_ret
  exact ⟨rfl, E1.trans E2⟩
end Go.Proofs.YtjacbhomhjoolaaGreat
