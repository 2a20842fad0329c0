/- compose.Paint. -/
import Derived.Test.YtpikemglnnjemaaMinF
import Derived.Test.YtpikemglnnjemaaApp
import Derived.Test.YtpikemglnnjemaaTail
namespace Go.Proofs.Ytpikemglnnjemaa
open Go.RowKit

theorem Try.infoU8 : (Try.prog.info? 5).map (fun i => (i.zero, i.size, i.bytes)) = some (some (.int .u8 0), 1, 1) := by kernel_rfl

def paintOk (n m : Nat) (wd : Int) : Prop := 1 ≤ wd ∧ wd ≤ 8 ∧ 1 ≤ n ∧ n ≤ 16 ∧ (n : Int) % wd = 0 ∧ (n : Int) / wd ≤ 8 ∧ 1 ≤ m ∧ m ≤ 15
def pcell (pal : List Hue) (p : Hue) : Value := .int .u8 ((bestTo p pal pal.length : Int) + 1)

theorem bestTo_le (p : Hue) (hs : List Hue) (k : Nat) : ∀ j, j < k → farS p (hueAt hs (bestTo p hs k)) ≤ farS p (hueAt hs j) := by
  induction k with
  | zero => intro j hj; omega
  | succ k ih =>
    intro j hj
    unfold bestTo
    split <;> rename_i h
    · rcases Nat.lt_or_ge j k with h1 | h1
      · have := ih j h1; omega
      · have : j = k := by omega
        subst this; omega
    · rcases Nat.lt_or_ge j k with h1 | h1
      · exact ih j h1
      · have : j = k := by omega
        subst this; omega
theorem bestTo_first (p : Hue) (hs : List Hue) (k : Nat) : ∀ j, j < bestTo p hs k → farS p (hueAt hs (bestTo p hs k)) < farS p (hueAt hs j) := by
  induction k with
  | zero => intro j hj; simp [bestTo] at hj
  | succ k ih =>
    intro j hj
    unfold bestTo at hj ⊢
    split at hj <;> rename_i h
    · rw [if_pos h]
      rcases Nat.lt_trichotomy j (bestTo p hs k) with h1 | h1 | h1
      · have := ih j h1; omega
      · subst h1; exact h
      · -- between the old best and k
        have := bestTo_le p hs k j hj
        omega
    · rw [if_neg h]
      exact ih j hj

theorem min_c' (A : Option Addr) (cap kp : Nat) (hs : List Hue) (pr pg pb : Int) (w : World) (hp : Hue.ok ⟨pr, pg, pb⟩) (hh : Hues w A cap hs) (hn : 0 < hs.length)
    (h0 : w.cell? ⟨kp, 0, none⟩ = some (.int .u8 pr)) (h1 : w.cell? ⟨kp, 1, none⟩ = some (.int .u8 pg)) (h2 : w.cell? ⟨kp, 2, none⟩ = some (.int .u8 pb)) :
    Calls Try.prog 16 #[.slice A hs.length cap, .func (.func 17) #[] #[.pointer (some ⟨kp, 0, none⟩)]] w fun e w' =>
      ∃ m, Hid (bestTo ⟨pr, pg, pb⟩ hs hs.length = m) ∧ m < hs.length ∧ e = .returned (.agg #[.int .u8 (hueAt hs m).r, .int .u8 (hueAt hs m).g, .int .u8 (hueAt hs m).b]) ∧ Ext w w' :=
  (min_c A cap kp hs pr pg pb w hp hh hn h0 h1 h2).mono fun _ _ ⟨he, hE⟩ => ⟨_, rfl, bestTo_lt _ _ _ hn, he, hE⟩

set_option maxHeartbeats 1600000 in
theorem paint_ok (A B : Option Addr) (ca cb : Nat) (px pal : List Hue) (wd : Int) (w : World) (hx : Hues w A ca px) (hp : Hues w B cb pal) (ok : paintOk px.length pal.length wd) :
    Calls Try.prog 5 #[.slice A px.length ca, .slice B pal.length cb, .int .i64 wd] w fun e w' =>
      ∃ v, e = .returned (.tuple #[.agg #[.int .i64 wd, .int .i64 ((px.length : Int) / wd), .int .i64 1, v], .int .i64 0]) ∧ w'.ownsRow w.heap.size 5 1 v px.length (px.map (pcell pal)) ∧ Ext w w' := by
  obtain ⟨o1, o2, o3, o4, o5, o6, o7, o8⟩ := ok
  have i1 : inB 1 8 wd = true := inB_iff.2 ⟨o1, o2⟩
  have i2 : inB 1 16 (px.length : Int) = true := inB_iff.2 ⟨by omega, by omega⟩
  have i3 : inB 1 15 (pal.length : Int) = true := inB_iff.2 ⟨by omega, by omega⟩
  have i4 : ((px.length : Int) % wd != 0) = false := by simp [o5]
  have i5 : decide (8 < (px.length : Int) / wd) = false := by simp; omega
  have q0 : 0 ≤ (px.length : Int) / wd := Int.ediv_nonneg (by omega) (by omega)
  clear o5
  have hmf : ∀ (fn : Fn) (first cap : Array Value) (w : World), (Instr.makeFunc fn first cap).run Try.prog w = .ok (.func fn first cap) w := fun _ _ _ _ => rfl
  go_enter Try.func5, Try.ntmps5
  go_wp2_with (go_at_call 15; refine (from_c _ _ _ _).mono ?_; rintro e w' ⟨rfl, rfl⟩)
  go_loopw [49] (fun i wr => ∃ k : Nat, k ≤ px.length ∧ i = .int .i64 k ∧ Ext w wr ∧ Blk wr w.heap.size 25 #[.int .i64 0, .int .i64 0, .int .i64 0, .slice none 0 0] ∧
      ∃ v, Blk wr (w.heap.size + 1) 25 #[.int .i64 wd, .int .i64 ((px.length : Int) / wd), .int .i64 1, v] ∧ wr.ownsRow (w.heap.size + 2) 5 1 v k ((px.take k).map (pcell pal))) (fun i _ => px.length - (intOf i).toNat)
  case atStart =>
    refine ⟨0, by omega, rfl, by apply_rules [Ext.refl, Ext.alloc], (Blk.new _ _ _).alloc _, .slice none 0 0, ?_, World.ownsRow_nil _ _ _ _⟩
    have := Blk.new (w.alloc (.cells #[.int .i64 0, .int .i64 0, .int .i64 0, .slice none 0 0] 25)) #[.int .i64 wd, .int .i64 ((px.length : Int) / wd), .int .i64 1, .slice none 0 0] 25
    rwa [World.size_alloc] at this
  case round =>
    obtain ⟨k, hk, rfl, E, B0, v, B1, own⟩ := hrel
    have hsz : w.heap.size + 2 ≤ wr.heap.size := by have := B1.lt; omega
    by_cases hlt : k < px.length
    · obtain ⟨b2, off2, rfl, _, hok, c0, c1, c2⟩ := hx.at_ hlt
      have e0 := E.cell c0
      have e1 := E.cell c1
      have e2 := E.cell c2
      clear c0 c1 c2
      obtain ⟨W, hW, EW, ba, hz⟩ := boxes1 wr #[.int .u8 (hueAt px k).r, .int .u8 (hueAt px k).g, .int .u8 (hueAt px k).b] 56
      have ba0 := ba 0
      have ba1 := ba 1
      have ba2 := ba 2
      go_wp2_with (go_at_call 16; refine (min_c' B cb wr.heap.size pal _ _ _ _ hok (hp.ext (E.trans EW)) (by omega) ba0 ba1 ba2).mono ?_; rintro e w1 ⟨m, Hm, hm, rfl, E1⟩)
      obtain ⟨W2, hW2, EW2, bb, hz2⟩ := boxes1 w1 #[.int .u8 (hueAt pal m).r, .int .u8 (hueAt pal m).g, .int .u8 (hueAt pal m).b] 56
      rw [hW2]
      clear hW2 hW
      have E2 : Ext wr W2 := (EW.trans E1).trans EW2
      have B0' := (B0.ext E2).drew
      have B1' := (B1.ext E2).drew
      have own' : W2.drew.ownsRow _ _ _ _ _ _ := (own_ext own E2).drew
      have hp' : Hues W2.drew B cb pal := hp.ext ((E.trans E2).drew)
      have c13 := B1'.cell 3
      have hfirst : ∀ j, j < m → hueAt pal j ≠ hueAt pal m := fun j hj he => by
        have hb : bestTo (hueAt px k) pal pal.length = m := Hm.out
        have h1 := bestTo_first (hueAt px k) pal pal.length j (by rw [hb]; exact hj)
        rw [hb, he] at h1
        omega
      have s1 : IntKind.i64.wrap (1 + (m : Int)) = 1 + (m : Int) := IntWalk.i64_in _ (by omega)
      have s2 : IntKind.u8.wrap (1 + (m : Int)) = 1 + (m : Int) := IntWalk.u8_in _ (by omega)
      have bb0 := bb 0
      have bb1 := bb 1
      have bb2 := bb 2
      obtain ⟨i0, hi, hz0, hz1, hz2⟩ := info_parts Try.infoU8
      have hml : k + 1 ≤ maxLen := by unfold maxLen; omega
      go_region_law (first
          | (go_simp; go_at_call 19; refine (index_c B cb m pal _ _ _ _ hp' hm rfl hfirst).mono ?_; rintro e w3 ⟨rfl, E3⟩; have c13' := E3.cell c13; have own3 := own_ext own' E3; have hsz3 : w.heap.size + 2 ≤ w3.heap.size := Nat.le_trans (Nat.le_trans hsz E2.size) E3.size; have hlt3 : w.heap.size + 1 < w3.heap.size := hsz3; have B1_3 := B1'.ext E3; have B0_3 := B0'.ext E3)
          | (refine step_append_one #[.int .u8 (1 + (m : Int))] rfl (.tmp 57) (.tmp 63) 23 rfl (w.heap.size + 2) 5 5 i0 (.int .u8 0) 1 1 Try.underlying23 hi hz0 hz1 hz2 rfl (by decide) v k _ _ rfl own3 rfl rfl (by simp [Value.oneCell']) hml (by omega) hsz3 ?_; intro g4 cap4 w4 own4 hg4; have B1_4 := (B1_3.alloc _).grown hg4 (own_ne own3 (by omega)); have c14 := B1_4.cell 3; have f14 := B1_4.frozen 3; have B0_4 := (B0_3.alloc (.cells #[.int .u8 (1 + (m : Int))] 5)).grown hg4 (own_ne own3 (by omega)); have E4 := (((E.trans E2).drew.trans E3).alloc (.cells #[.int .u8 (1 + (m : Int))] 5)).grown hg4 (fun q hq => by have := (own3.lt q hq).1; omega)))
      all_goals
        go_wp2
        go_roundw
        case rel =>
          refine ⟨k + 1, by omega, by go_num, E4.setCell (Nat.le_succ _) _, B0_4.far (by simp) _, .slice (some ⟨g4, 0, none⟩) (k + 1) cap4, B1_4.set_ 3 _, own_setCell ?_ (Nat.lt_succ_self _) _⟩
          have hpix : px[k]? = some (hueAt px k) := by simp [hueAt, List.getElem?_eq_getElem hlt]
          have hb : bestTo (hueAt px k) pal pal.length = m := Hm.out
          rw [List.take_add_one, hpix, Option.toList_some, List.map_append, List.map_singleton]
          have hc : pcell pal (hueAt px k) = .int .u8 (1 + (m : Int)) := by rw [pcell, hb, Int.add_comm]
          rw [hc]
          exact own4
        case measure => simp [intOf]; omega
    · obtain rfl : px.length = k := by omega
      obtain ⟨g, cap, rfl⟩ := own_form own (by omega)
      have cr0 := B0.cell
      have fr0 := B0.frozen
      have cr1 := B1.cell
      go_wp2
      refine bodyPost_ret (v := .tuple #[.agg #[.int .i64 wd, .int .i64 ((px.length : Int) / wd), .int .i64 1, .slice (some ⟨g, 0, none⟩) px.length cap], .int .i64 0]) ?_ rfl ?_
      · simp [results, Try.results5, go_sem, cr0]
      · rw [List.take_length] at own
        exact ⟨_, rfl, own_base (own_setCell (own_setCell (own_setCell (own_setCell own (by show w.heap.size < _; omega) _) (by show w.heap.size < _; omega) _) (by show w.heap.size < _; omega) _) (by show w.heap.size < _; omega) _) (by omega),
          (((E.setCell (Nat.le_refl _) _).setCell (Nat.le_refl _) _).setCell (Nat.le_refl _) _).setCell (Nat.le_refl _) _⟩

set_option maxHeartbeats 1600000 in
theorem paint_bad (A B : Option Addr) (ca cb n m : Nat) (wd : Int) (w : World) (hn : n ≤ 100) (hm : m ≤ 100) (hwd : -9223372036854775808 ≤ wd ∧ wd ≤ 9223372036854775807) (ok : ¬ paintOk n m wd) :
    Calls Try.prog 5 #[.slice A n ca, .slice B m cb, .int .i64 wd] w fun e w' =>
      e = .returned (.tuple #[.agg #[.int .i64 0, .int .i64 0, .int .i64 0, .slice none 0 0], .int .i64 2]) ∧ Ext w w' := by
  unfold paintOk at ok
  by_cases h1 : 1 ≤ wd ∧ wd ≤ 8
  case neg =>
    have i1 : inB 1 8 wd = false := inB_not.2 h1
    clear ok hwd
    go_enter Try.func5, Try.ntmps5
    go_wp2_with (go_at_call 15; refine (from_c _ _ _ _).mono ?_; rintro e w' ⟨rfl, rfl⟩)
    refine bodyPost_ret (v := .tuple #[.agg #[.int .i64 0, .int .i64 0, .int .i64 0, .slice none 0 0], .int .i64 2]) ?_ rfl ⟨rfl, by repeat (first | exact Ext.refl _ | refine Ext.setCell ?_ (Nat.le_refl _) _ | refine Ext.alloc ?_ _)⟩
    simp [results, Try.results5, go_sem]
  obtain ⟨o1, o2⟩ := h1
  have i1 : inB 1 8 wd = true := inB_iff.2 ⟨o1, o2⟩
  have q0 : 0 ≤ (n : Int) / wd := Int.ediv_nonneg (by omega) (by omega)
  have q1 : (n : Int) / wd ≤ n := Int.ediv_le_self _ (by omega)
  by_cases h2 : 1 ≤ n ∧ n ≤ 16
  case neg =>
    have i2 : inB 1 16 (n : Int) = false := inB_not.2 (by omega)
    clear ok
    go_enter Try.func5, Try.ntmps5
    go_wp2_with (go_at_call 15; refine (from_c _ _ _ _).mono ?_; rintro e w' ⟨rfl, rfl⟩)
    refine bodyPost_ret (v := .tuple #[.agg #[.int .i64 0, .int .i64 0, .int .i64 0, .slice none 0 0], .int .i64 2]) ?_ rfl ⟨rfl, by repeat (first | exact Ext.refl _ | refine Ext.setCell ?_ (Nat.le_refl _) _ | refine Ext.alloc ?_ _)⟩
    simp [results, Try.results5, go_sem]
  have i2 : inB 1 16 (n : Int) = true := inB_iff.2 (by omega)
  by_cases h3 : (n : Int) % wd = 0
  case neg =>
    have i3 : ((n : Int) % wd != 0) = true := by simp [h3]
    clear ok
    go_enter Try.func5, Try.ntmps5
    go_wp2_with (go_at_call 15; refine (from_c _ _ _ _).mono ?_; rintro e w' ⟨rfl, rfl⟩)
    refine bodyPost_ret (v := .tuple #[.agg #[.int .i64 0, .int .i64 0, .int .i64 0, .slice none 0 0], .int .i64 2]) ?_ rfl ⟨rfl, by repeat (first | exact Ext.refl _ | refine Ext.setCell ?_ (Nat.le_refl _) _ | refine Ext.alloc ?_ _)⟩
    simp [results, Try.results5, go_sem]
  have i3 : ((n : Int) % wd != 0) = false := by simp [h3]
  by_cases h4 : (n : Int) / wd ≤ 8
  case neg =>
    have i4 : decide (8 < (n : Int) / wd) = true := by simp; omega
    clear ok h3
    go_enter Try.func5, Try.ntmps5
    go_wp2_with (go_at_call 15; refine (from_c _ _ _ _).mono ?_; rintro e w' ⟨rfl, rfl⟩)
    refine bodyPost_ret (v := .tuple #[.agg #[.int .i64 0, .int .i64 0, .int .i64 0, .slice none 0 0], .int .i64 2]) ?_ rfl ⟨rfl, by repeat (first | exact Ext.refl _ | refine Ext.setCell ?_ (Nat.le_refl _) _ | refine Ext.alloc ?_ _)⟩
    simp [results, Try.results5, go_sem]
  have i4 : decide (8 < (n : Int) / wd) = false := by simp; omega
  have i5 : inB 1 15 (m : Int) = false := inB_not.2 (fun h => ok ⟨o1, o2, by omega, by omega, h3, h4, by omega, by omega⟩)
  clear ok h3
  · have _ht : True := trivial
    go_enter Try.func5, Try.ntmps5
    go_wp2_with (go_at_call 15; refine (from_c _ _ _ _).mono ?_; rintro e w' ⟨rfl, rfl⟩)
    refine bodyPost_ret (v := .tuple #[.agg #[.int .i64 0, .int .i64 0, .int .i64 0, .slice none 0 0], .int .i64 2]) ?_ rfl ⟨rfl, by repeat (first | exact Ext.refl _ | refine Ext.setCell ?_ (Nat.le_refl _) _ | refine Ext.alloc ?_ _)⟩
    simp [results, Try.results5, go_sem]
end Go.Proofs.Ytpikemglnnjemaa
