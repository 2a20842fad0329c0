/- ValidKind and CheckKind of the reference: whether a kind is valid. No conditions. ValidKind, CheckKind and CheckKinds of the reference; CheckKinds of the program. No conditions. -/
import Derived.Test.YteggkfdipbmgfaaGreatBCheck
namespace Go.Proofs.YteggkfdipbmgfaaGreat
open Go.RowKit

theorem cells_ok {cells : List Pt} (h : cellsB cells = true) {p : Pt} (hp : p ∈ cells) : p.ok := by
  obtain ⟨i, hi⟩ := List.getElem?_of_mem hp
  have hil : i < cells.length := (List.getElem?_eq_some_iff.1 hi).1
  have := allR_at h hil
  rw [cellOk, ptAt_eq hi, Bool.and_eq_true] at this
  exact pt_near this.1
end Go.Proofs.YteggkfdipbmgfaaGreat
namespace Go.Proofs.YteggkfdipbmgfaaGreat
open Go.RowKit

theorem checkKind_is {cells : List Pt} {knobs : List Knb} {wt r : Int} (h : kindErr ⟨cells, knobs, wt⟩ = r) {A : Option Addr} {ca : Nat} {B : Option Addr} {cb : Nat} {w : World} (hc : Cells w A ca cells) (hn : Knobs w B cb knobs) :
    Calls Tryz.prog 31 #[.agg #[.slice A cells.length ca, .slice B knobs.length cb, .int .i64 wt]] w fun e w' => e = .returned (.int .i64 r) ∧ Ext w w' := by
  subst h
  exact checkKind_c _ _ _ _ _ _ _ _ hc hn

/-! Lists of kinds. -/
theorem kindAt_eq {qs : List (Knd × KAt)} {j : Nat} {k : Knd} {p : KAt} (h : qs[j]? = some (k, p)) : kindAt (qs.map (·.1)) j = k := by simp [kindAt, h]
theorem kindsErr_bad {l : List Knd} {j : Nat} (hl : ¬ 16 < l.length) (hj : j < l.length) (h : (kindAt l j).valid = false) : kindsErr l = 10 := by
  rw [kindsErr, if_neg hl, allR_bad hj h]
  rfl
theorem kindsErr_good {l : List Knd} (hl : ¬ 16 < l.length) (h : ∀ j, j < l.length → (kindAt l j).valid = true) : kindsErr l = 0 := by
  rw [kindsErr, if_neg hl, allR_good h]
  rfl
set_option maxHeartbeats 3200000 in
theorem checkKinds_c (qs : List (Knd × KAt)) (A : Option Addr) (cap : Nat) (w : World) (hk : Kinds w A cap qs) :
    Calls Tryz.prog 32 #[.slice A qs.length cap] w fun e w' => e = .returned (.int .i64 (kindsErr (qs.map (·.1)))) ∧ Ext w w' := by
  have hl1 : qs.length ≤ 9223372036854775807 := by have := hk.len; unfold maxLen at this; omega
  have hml : (qs.map (·.1)).length = qs.length := List.length_map _
  by_cases a1 : (16 : Int) < qs.length
  · have Hb := Lib.hid (show kindsErr (qs.map (·.1)) = 4 by rw [kindsErr, if_pos (by rw [hml]; omega)])
    clear hml
    go_enter Tryz.func32, Tryz.ntmps32
    go_wp2_with fail
    go_ret
    exact ⟨by rw [Hb.out]; rfl, Ext.refl w⟩
  have Hml := Lib.hid hml
  clear hml
  go_enter Tryz.func32, Tryz.ntmps32
  go_wp2_with fail
  go_loopw [11] (fun i wr => ∃ j : Nat, j ≤ qs.length ∧ i = .int .i64 j ∧ Ext w wr ∧ Hid (∀ i, i < j → (kindAt (qs.map (·.1)) i).valid = true)) (fun i _ => qs.length - (intOf i).toNat)
  case atStart => exact ⟨0, by omega, rfl, Ext.refl w, Lib.hid (fun i hi => by omega)⟩
  case round =>
    obtain ⟨j, hj, rfl, E, Hj⟩ := hrel
    by_cases hlt : j < qs.length
    · obtain ⟨g, off, ⟨kc, kn, kw⟩, ⟨KA, kca, KB, kcb⟩, rfl, hq, ⟨hkc, hkn⟩, hg, c0, c1, c2⟩ := (hk.ext E).at_ hlt
      simp only at c0 c1 c2 hkc hkn
      have Hq := Lib.hid hq
      clear hq
      obtain ⟨W4, hW4, E4, B4, hz4⟩ := mk_ wr #[.slice KA kc.length kca, .slice KB kn.length kcb, .int .i64 kw] 82
      have b4 := B4.cell
      cases hv : Knd.valid ⟨kc, kn, kw⟩
      · have Hb := Lib.hid (kindsErr_bad (l := qs.map (·.1)) (by rw [Hml.out]; omega) (j := j) (by rw [Hml.out]; omega) (by rw [kindAt_eq Hq.out]; exact hv))
        have HV := Lib.hid (fun W (EW : Ext wr W) => checkKind_is (kindErr_bad hv) (hkc.ext EW) (hkn.ext EW))
        clear hv
        go_wp2_with fail
        refine (HV.out _ E4).mono ?_
        rintro v w2 ⟨rfl, E2⟩
        go_wp2_with fail
        go_ret
        exact ⟨by rw [Hb.out]; rfl, (E.trans E4).trans E2⟩
      · have hok : ∀ i, i < j + 1 → (kindAt (qs.map (·.1)) i).valid = true := fun i hi => by
          rcases Nat.lt_or_ge i j with h' | h'
          · exact Hj.out i h'
          · obtain rfl : i = j := by omega
            rw [kindAt_eq Hq.out]
            exact hv
        have Hok := Lib.hid hok
        have HV := Lib.hid (fun W (EW : Ext wr W) => checkKind_is (kindErr_good hv) (hkc.ext EW) (hkn.ext EW))
        clear hv hok
        go_wp2_with fail
        refine (HV.out _ E4).mono ?_
        rintro v w2 ⟨rfl, E2⟩
        go_wp2_with fail
        go_roundw
        case rel => exact ⟨j + 1, by omega, by go_num, (E.trans E4).trans E2, Hok⟩
        case measure => simp only [intOf]; omega
    · obtain rfl : qs.length = j := by omega
      have Hg := Lib.hid (kindsErr_good (l := qs.map (·.1)) (by rw [Hml.out]; omega) (by rw [Hml.out]; exact Hj.out))
      go_wp2_with fail
      go_ret
      exact ⟨by rw [Hg.out]; rfl, E⟩
end Go.Proofs.YteggkfdipbmgfaaGreat
