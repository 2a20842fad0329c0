/- Together of the reference. Hangs and Weak of the reference. The board while look fills it. The board when it is filled. -/
import Derived.Test.YtpikemglnnjemaaDoorCm5
import Derived.Deep.RegionHeld3
import Derived.Deep.RegionLaw

namespace Go.Proofs.YtpikemglnnjemaaDoor
open Go.RowKit

def ClosedTo (s : Shape) (l : List Plate) (c : List Laid) (ins : List Bool) (i k : Nat) : Prop :=
  ∀ i' j, j < c.length → (i' < i ∨ i' = i ∧ j < k) → ins[i']? = some true → ins[j]? = some false → ¬ Tl s l c i' j
def PassI (s : Shape) (l : List Plate) (c : List Laid) (n0 : Nat) (ins : List Bool) (n : Nat) (b : Bool) (i k : Nat) : Prop :=
  InT s l c ins n ∧ n0 ≤ n ∧ (b = true → n0 < n) ∧ (b = false → ClosedTo s l c ins i k)
theorem PassI.start {s : Shape} {l : List Plate} {c : List Laid} {ins : List Bool} {n : Nat} (h : InT s l c ins n) : PassI s l c n ins n false 0 0 :=
  ⟨h, Nat.le_refl _, (fun h => by cases h), fun _ i' j _ hij => by omega⟩
theorem PassI.same {s : Shape} {l : List Plate} {c : List Laid} {ins : List Bool} {n0 n i k : Nat} {b : Bool} (h : PassI s l c n0 ins n b i k) (hno : ins[i]? = some true → ins[k]? = some false → ¬ Tl s l c i k) : PassI s l c n0 ins n b i (k + 1) := by
  refine ⟨h.1, h.2.1, h.2.2.1, fun hb i' j hj hij h1 h2 => ?_⟩
  by_cases e : i' = i ∧ j = k
  · obtain ⟨rfl, rfl⟩ := e
    exact hno h1 h2
  · exact h.2.2.2 hb i' j hj (by omega) h1 h2
theorem PassI.more {s : Shape} {l : List Plate} {c : List Laid} {ins : List Bool} {n0 n i k : Nat} {b : Bool} (h : PassI s l c n0 ins n b i k) (h1 : ins[i]? = some true) (h2 : ins[k]? = some false) (ht : Tl s l c i k) : PassI s l c n0 (ins.set k true) (n + 1) true i (k + 1) :=
  ⟨h.1.step h1 h2 ht, (by have := h.2.1; omega), (fun _ => by have := h.2.1; omega), fun h => by cases h⟩
theorem PassI.next {s : Shape} {l : List Plate} {c : List Laid} {ins : List Bool} {n0 n i : Nat} {b : Bool} (h : PassI s l c n0 ins n b i c.length) : PassI s l c n0 ins n b (i + 1) 0 := by
  refine ⟨h.1, h.2.1, h.2.2.1, fun hb i' j hj hij h1 h2 => h.2.2.2 hb i' j hj (by omega) h1 h2⟩
theorem PassI.done {s : Shape} {l : List Plate} {c : List Laid} {ins : List Bool} {n : Nat} (h : InT s l c ins n) (hc : ClosedTo s l c ins c.length 0) : hangB s l c = decide (n = c.length) :=
  h.done fun i j hi hj h1 h2 => hc i j hj (Or.inl hi) h1 h2
def flag : Value → Nat
  | .bool true => 1
  | _ => 0

theorem touch_is {s : Shape} {A : Option Addr} {cap : Nat} {l : List Plate} {PA : Option Addr} {pcap : Nat} {a b : Laid} {t : Bool} (h : touchB s l a b = t) (ok : s.Ok) (okl : platesB l = true) (ha : a.Ok l) (hb : b.Ok l) (w : World) (hl : Plates w PA pcap l) :
    Calls Tryd.prog 88 #[.agg #[.int .i64 s.W, .int .i64 s.D, .int .i64 s.H, .slice A s.cells.length cap], .slice PA l.length pcap, .agg #[.int .i64 a.plate, .int .i64 a.x, .int .i64 a.y, .int .i64 a.z, .bool a.turned],
      .agg #[.int .i64 b.plate, .int .i64 b.x, .int .i64 b.y, .int .i64 b.z, .bool b.turned]] w fun e w' => e = .returned (.bool t) ∧ Ext w w' := by
  rw [← h]
  exact touch_c s A cap l PA pcap a b ok okl ha hb w hl

set_option maxRecDepth 100000 in
set_option maxHeartbeats 8000000 in
theorem together_c (s : Shape) (A : Option Addr) (cap : Nat) (l : List Plate) (PA : Option Addr) (pcap : Nat) (c : List Laid) (CA : Option Addr) (ccap : Nat) (ok : s.Ok) (okl : platesB l = true) (hc : ∀ (k : Nat) (a : Laid), c[k]? = some a → a.Ok l) (h0 : 0 < c.length) (hlen : c.length ≤ 1000) (w : World)
    (hl : Plates w PA pcap l) (hcs : Laids w CA ccap c) :
    Calls Tryd.prog 50 #[.agg #[.int .i64 s.W, .int .i64 s.D, .int .i64 s.H, .slice A s.cells.length cap], .slice PA l.length pcap, .slice CA c.length ccap] w fun e w' =>
      e = .returned (.bool (hangB s l c)) ∧ Ext w w' := by
  have hmk := make_bools c.length (by omega)
  obtain ⟨W1, hW1, E1, B1, hz1⟩ := box_ w #[.int .i64 s.W, .int .i64 s.D, .int .i64 s.H, .slice A s.cells.length cap] 24
  obtain ⟨W2, hW2, E2, B2, hz2⟩ := box_ W1 (boolsA (List.replicate c.length false)) 4
  rw [hz1] at B2
  have B1 := B1.ext E2
  obtain ⟨S, hS⟩ : ∃ S, w.heap.size = S := ⟨_, rfl⟩
  rw [hS] at B1 B2
  obtain ⟨W3, hW3, B3, keep3, ext3, hz3⟩ := B2.store1 0 (.bool true)
  rw [boolsA_set] at B3
  have E3 : Ext w W3 := ext3 w (E1.trans E2) (by omega)
  have BS3 := keep3 S _ _ (by omega) B1
  have bu2 : W2.cell? ⟨S + 1, 0, none⟩ = some (.bool false) := by
    rw [B2.cell, boolsA_get, List.getElem?_replicate, if_pos h0]
    rfl
  have fu2 := B2.frozen 0
  have Hc := Lib.hid hc
  clear hc keep3 ext3
  go_enter Tryd.func50, Tryd.ntmps50
  go_wp2_with fail
  clear hmk bu2 fu2 hz1 hz2 hz3 hW1 hW2 hW3 B1 B2
  have HS := Lib.hid hS
  clear hS
  go_loopw [8, 9] (fun nv ch wr => ∃ (n : Nat) (b : Bool) (ins : List Bool), nv = .int .i64 n ∧ ch = .bool b ∧ Hid (InT s l c ins n ∧ (b = false → ClosedTo s l c ins c.length 0)) ∧ Ext w wr ∧
      Blk wr S 24 #[.int .i64 s.W, .int .i64 s.D, .int .i64 s.H, .slice A s.cells.length cap] ∧ Blk wr (S + 1) 4 (boolsA ins)) (fun nv ch _ => 2 * (c.length - (intOf nv).toNat) + flag ch)
  case atStart => exact ⟨1, true, _, rfl, rfl, Lib.hid ⟨InT.start h0, fun h => by cases h⟩, E3, BS3, B3⟩
  case round =>
    obtain ⟨n, b, ins, rfl, rfl, HI, E, BS, BU⟩ := hrel
    have hn := HI.out.1.le
    clear E3 BS3 B3
    cases b
    · have Hr := Lib.hid (PassI.done HI.out.1 (HI.out.2 rfl))
      by_cases he : n = c.length
      · subst he
        go_wp2_with fail
        go_ret
        exact ⟨by rw [Hr.out]; simp, E⟩
      · have e1 : ((n : Int) == (c.length : Int)) = false := by simp; omega
        have He := Lib.hid he
        clear he
        go_wp2_with fail
        go_ret
        exact ⟨by rw [Hr.out, decide_eq_false He.out] <;> rfl, E⟩
    · obtain ⟨wo, rfl⟩ : ∃ wo : World, wo = wr := ⟨_, rfl⟩
      go_wp2_with fail
      go_loopw [8, 9, 10] (fun nv ch iv wr => ∃ (n' i : Nat) (b : Bool) (ins : List Bool), i ≤ c.length ∧ nv = .int .i64 n' ∧ ch = .bool b ∧ iv = .int .i64 i ∧ Hid (PassI s l c n ins n' b i 0) ∧ Ext w wr ∧
        Blk wr S 24 #[.int .i64 s.W, .int .i64 s.D, .int .i64 s.H, .slice A s.cells.length cap] ∧ Blk wr (S + 1) 4 (boolsA ins)) (fun _ _ iv _ => c.length - (intOf iv).toNat)
      case atStart => exact ⟨n, 0, false, ins, by omega, rfl, rfl, rfl, Lib.hid (PassI.start HI.out.1), E, BS, BU⟩
      case round =>
        clear E BS BU
        obtain ⟨n', i, b, ins', hi, rfl, rfl, rfl, HP, E, BS, BU⟩ := hrel
        have hn' := HP.out.1.le
        by_cases hlt : i < c.length
        · obtain ⟨wo, rfl⟩ : ∃ wo : World, wo = wr := ⟨_, rfl⟩
          go_wp2_with fail
          go_loopw [8, 9, 11] (fun nv ch kv wr => ∃ (n' k : Nat) (b : Bool) (ins : List Bool), k ≤ c.length ∧ nv = .int .i64 n' ∧ ch = .bool b ∧ kv = .int .i64 k ∧ Hid (PassI s l c n ins n' b i k) ∧ Ext w wr ∧
            Blk wr S 24 #[.int .i64 s.W, .int .i64 s.D, .int .i64 s.H, .slice A s.cells.length cap] ∧ Blk wr (S + 1) 4 (boolsA ins)) (fun _ _ kv _ => c.length - (intOf kv).toNat)
          case atStart => exact ⟨n', 0, b, ins', by omega, rfl, rfl, rfl, HP, E, BS, BU⟩
          case round =>
            clear E BS BU HP hn'
            obtain ⟨n', k, b, ins', hk, rfl, rfl, rfl, HP, E, BS, BU⟩ := hrel
            have hn' := HP.out.1.le
            by_cases hlt2 : k < c.length
            · obtain ⟨bi, gi⟩ := HP.out.1.get hlt
              obtain ⟨bk, gk⟩ := HP.out.1.get hlt2
              have ci : wr.cell? ⟨S + 1, i, none⟩ = some (.bool bi) := by rw [BU.cell, boolsA_get, gi]; rfl
              have ck : wr.cell? ⟨S + 1, k, none⟩ = some (.bool bk) := by rw [BU.cell, boolsA_get, gk]; rfl
              have bs := BS.cell
              have Gi := Lib.hid gi
              have Gk := Lib.hid gk
              clear gi gk
              cases bi
              · have Hno : Hid (ins'[i]? = some true → ins'[k]? = some false → ¬ Tl s l c i k) := Lib.hid (fun h => by rw [Gi.out] at h; cases h)
                go_wp2_with fail
                refine wp_region_grow (by kernel_rfl) (by kernel_rfl) ?_
                repeat (go_big_quiet_step (fail))
                refine wpQuiet_nil ?_
                intro W7 hW7
                have E7 : Ext wr W7 := by
                  obtain ⟨x, rfl⟩ := hW7
                  exact (Ext.refl _).grow x
                clear hW7
                obtain ⟨hcW7, hfW7, hzW7⟩ := ext_facts E7
                go_wp2_with fail
                go_roundw
                case rel => exact ⟨n', k + 1, b, ins', by omega, rfl, rfl, by go_num, Lib.hid (HP.out.same Hno.out), E.trans E7, BS.ext E7, BU.ext E7⟩
                case measure => simp only [intOf]; omega
              · cases bk
                · obtain ⟨lb, loff, la, rfl, hla, hlb, a0, a1, a2, a3, a4⟩ := (hcs.ext E).at_ hlt
                  obtain ⟨lb', loff', lk, hA', hlk, hlb', k0, k1, k2, k3, k4⟩ := (hcs.ext E).at_ hlt2
                  cases hA'
                  have oka := Hc.out i la hla
                  have okk := Hc.out k lk hlk
                  have hlr := hl.ext E
                  have Hel : Hid (Tl s l c i k = (touchB s l la lk = true)) := Lib.hid (by unfold Tl; rw [laidAt_eq hla, laidAt_eq hlk])
                  clear hla hlk
                  cases t : touchB s l la lk
                  · have Hno : Hid (ins'[i]? = some true → ins'[k]? = some false → ¬ Tl s l c i k) := Lib.hid (fun _ _ => by rw [Hel.out, t]; simp)
                    have T := Lib.hid t
                    clear t
                    go_wp2_with fail
                    refine wp_region_grow (by kernel_rfl) (by kernel_rfl) ?_
                    repeat (go_big_quiet_step ((go_at_call 88; exact quiet_ext (touch_is T.out ok okl oka okk _ (hlr.grow_ _)))))
                    refine wpQuiet_nil ?_
                    intro W7 hW7
                    have E7 : Ext wr W7 := by
                      obtain ⟨x, rfl⟩ := hW7
                      exact (Ext.refl _).grow x
                    clear hW7
                    obtain ⟨hcW7, hfW7, hzW7⟩ := ext_facts E7
                    go_wp2_with fail
                    go_roundw
                    case rel => exact ⟨n', k + 1, b, ins', by omega, rfl, rfl, by go_num, Lib.hid (HP.out.same Hno.out), E.trans E7, BS.ext E7, BU.ext E7⟩
                    case measure => simp only [intOf]; omega
                  · have Hyes : Hid (Tl s l c i k) := Lib.hid (by rw [Hel.out, t])
                    have T := Lib.hid t
                    clear t
                    go_wp2_with fail
                    refine wp_region_grow (by kernel_rfl) (by kernel_rfl) ?_
                    repeat (go_big_quiet_step ((go_at_call 88; exact quiet_ext (touch_is T.out ok okl oka okk _ (hlr.grow_ _)))))
                    refine wpQuiet_nil ?_
                    intro W7 hW7
                    have E7 : Ext wr W7 := by
                      obtain ⟨x, rfl⟩ := hW7
                      exact (Ext.refl _).grow x
                    clear hW7
                    obtain ⟨hcW7, hfW7, hzW7⟩ := ext_facts E7
                    have BU7 := BU.ext E7
                    have E07 := E.trans E7
                    clear hcW7 hfW7 hzW7 ci ck bs a0 a1 a2 a3 a4 k0 k1 k2 k3 k4
                    have ck7 : W7.cell? ⟨S + 1, k, none⟩ = some (.bool false) := by rw [BU7.cell, boolsA_get, Gk.out]; rfl
                    have fk7 := BU7.frozen k
                    obtain ⟨W8, hW8, BU8, keep8, ext8, hz8⟩ := BU7.store1 k (.bool true)
                    rw [boolsA_set] at BU8
                    have E08 : Ext w W8 := ext8 w E07 (by rw [HS.out]; omega)
                    have BS8 := keep8 S _ _ (by omega) (BS.ext E7)
                    clear keep8 ext8 hz8
                    go_wp2_with fail
                    go_roundw
                    case rel => exact ⟨n' + 1, k + 1, true, ins'.set k true, by omega, by go_num, rfl, by go_num, Lib.hid (HP.out.more Gi.out Gk.out Hyes.out), E08, BS8, BU8⟩
                    case measure => simp only [intOf]; omega
                · have Hno : Hid (ins'[i]? = some true → ins'[k]? = some false → ¬ Tl s l c i k) := Lib.hid (fun _ h => by rw [Gk.out] at h; cases h)
                  go_wp2_with fail
                  refine wp_region_grow (by kernel_rfl) (by kernel_rfl) ?_
                  repeat (go_big_quiet_step (fail))
                  refine wpQuiet_nil ?_
                  intro W7 hW7
                  have E7 : Ext wr W7 := by
                    obtain ⟨x, rfl⟩ := hW7
                    exact (Ext.refl _).grow x
                  clear hW7
                  obtain ⟨hcW7, hfW7, hzW7⟩ := ext_facts E7
                  go_wp2_with fail
                  go_roundw
                  case rel => exact ⟨n', k + 1, b, ins', by omega, rfl, rfl, by go_num, Lib.hid (HP.out.same Hno.out), E.trans E7, BS.ext E7, BU.ext E7⟩
                  case measure => simp only [intOf]; omega
            · obtain rfl : k = c.length := by omega
              go_wp2_with fail
              go_roundw
              case rel => exact ⟨n', i + 1, b, ins', by omega, rfl, rfl, by go_num, Lib.hid HP.out.next, E, BS, BU⟩
              case measure => simp only [intOf]; omega
        · obtain rfl : i = c.length := by omega
          have h2 := HP.out.2.1
          have h3 := HP.out.2.2.1
          go_wp2_with fail
          go_roundw
          case rel => exact ⟨n', b, ins', rfl, rfl, Lib.hid ⟨HP.out.1, HP.out.2.2.2⟩, E, BS, BU⟩
          case measure =>
            cases b
            · simp only [intOf, flag]; omega
            · have := h3 rfl
              simp only [intOf, flag]; omega
end Go.Proofs.YtpikemglnnjemaaDoor

namespace Go.Proofs.YtpikemglnnjemaaDoor
open Go.RowKit

theorem comp_pos {s : Shape} {l : List Plate} {c : List Laid} (ok : s.Ok) (h : compB s l c = true) : 0 < c.length := by
  rcases Nat.eq_zero_or_pos c.length with h0 | h0
  · exfalso
    obtain rfl : c = [] := List.eq_nil_of_length_eq_zero h0
    unfold compB at h
    rw [Bool.and_eq_true, List.all_eq_true, List.all_eq_true] at h
    have hz : ∀ x ∈ s.cells, x = 0 := fun x hx => by
      obtain ⟨i, hi⟩ := List.getElem?_of_mem hx
      have := h.2 i (List.mem_range.2 (List.getElem?_eq_some_iff.1 hi).1)
      unfold coveredAt at this
      rw [List.getD_eq_getElem?_getD, hi, Bool.or_eq_true, decide_eq_true_eq, decide_eq_true_eq] at this
      rcases this with h1 | h1
      · exact h1
      · have : byI l [] (s.px i) (s.py i) (s.pz i) = -1 := rfl
        omega
    have hf : fullN s.cells = 0 := by
      unfold fullN
      rw [List.countP_eq_zero]
      intro a ha
      simp [hz a ha]
    have := ok.full
    omega
  · exact h0

noncomputable def hangR (s : Shape) (l : List Plate) (c : List Laid) : Bool := if compErr s l c = 0 then hangB s l c else false
def weakR (s : Shape) (l : List Plate) (c : List Laid) : Nat := if compErr s l c = 0 then weakTo s l c s.cells.length else 0

set_option maxHeartbeats 1000000 in
theorem rHangs_c (s : Shape) (A : Option Addr) (cap : Nat) (l : List Plate) (PA : Option Addr) (pcap : Nat) (c : List Laid) (CA : Option Addr) (ccap : Nat) (hclen : c.length ≤ 1000) (w : World)
    (hs : Bytes w A cap s.cells) (hl : Plates w PA pcap l) (hcs : Laids w CA ccap c) :
    Calls Tryd.prog 15 #[.agg #[.int .i64 s.W, .int .i64 s.D, .int .i64 s.H, .slice A s.cells.length cap], .slice PA l.length pcap, .slice CA c.length ccap] w fun e w' =>
      e = .returned (.tuple #[.bool (hangR s l c), .int .i64 (compErr s l c)]) ∧ Ext w w' := by
  obtain ⟨W1, hW1, E1, B1, hz1⟩ := box_ w #[.int .i64 s.W, .int .i64 s.D, .int .i64 s.H, .slice A s.cells.length cap] 24
  have b1 := B1.cell
  obtain ⟨e0, he⟩ : ∃ e0, compErr s l c = e0 := ⟨_, rfl⟩
  have He := Lib.hid he
  by_cases h0 : e0 = 0
  · subst h0
    have Hr : Hid (hangR s l c = (hangB s l c)) := Lib.hid (by unfold hangR; rw [if_pos he])
    obtain ⟨ok, okl, hcomp, hc⟩ := comp_ok he
    have hpos := comp_pos ok hcomp
    have Hc := Lib.hid hc
    clear he hcomp hc
    go_enter Tryd.func15, Tryd.ntmps15
    go_wp2_with fail
    refine (rCheck_c s A cap l PA pcap c CA ccap hclen _ (hs.ext E1) (hl.ext E1) (hcs.ext E1)).mono ?_
    rintro e w2 ⟨rfl, E2⟩
    rw [He.out]
    have B1 := B1.ext E2
    clear b1
    have b1 := B1.cell
    go_wp2_with fail
    refine (together_c s A cap l PA pcap c CA ccap ok okl (fun k a ha => (Hc.out k a ha).2) hpos hclen _ ((hl.ext E1).ext E2) ((hcs.ext E1).ext E2)).mono ?_
    rintro e w3 ⟨rfl, E3⟩
    go_wp2_with fail
    go_ret2
    exact ⟨by rw [Hr.out, He.out] <;> rfl, (E1.trans E2).trans E3⟩
  · have Hr : Hid (hangR s l c = false) := Lib.hid (by unfold hangR; rw [if_neg (by rw [he]; exact h0)])
    have e1 : (e0 != 0) = true := by simpa using h0
    have e2 : (e0 == 0) = false := by simpa using h0
    clear he h0
    go_enter Tryd.func15, Tryd.ntmps15
    go_wp2_with fail
    refine (rCheck_c s A cap l PA pcap c CA ccap hclen _ (hs.ext E1) (hl.ext E1) (hcs.ext E1)).mono ?_
    rintro e w2 ⟨rfl, E2⟩
    rw [He.out]
    go_wp2_with fail
    go_ret2
    exact ⟨by rw [Hr.out, He.out] <;> rfl, E1.trans E2⟩
set_option maxHeartbeats 1000000 in
theorem rWeak_c (s : Shape) (A : Option Addr) (cap : Nat) (l : List Plate) (PA : Option Addr) (pcap : Nat) (c : List Laid) (CA : Option Addr) (ccap : Nat) (hclen : c.length ≤ 1000) (w : World)
    (hs : Bytes w A cap s.cells) (hl : Plates w PA pcap l) (hcs : Laids w CA ccap c) :
    Calls Tryd.prog 17 #[.agg #[.int .i64 s.W, .int .i64 s.D, .int .i64 s.H, .slice A s.cells.length cap], .slice PA l.length pcap, .slice CA c.length ccap] w fun e w' =>
      e = .returned (.tuple #[.int .i64 (weakR s l c), .int .i64 (compErr s l c)]) ∧ Ext w w' := by
  obtain ⟨W1, hW1, E1, B1, hz1⟩ := box_ w #[.int .i64 s.W, .int .i64 s.D, .int .i64 s.H, .slice A s.cells.length cap] 24
  have b1 := B1.cell
  obtain ⟨e0, he⟩ : ∃ e0, compErr s l c = e0 := ⟨_, rfl⟩
  have He := Lib.hid he
  by_cases h0 : e0 = 0
  · subst h0
    have Hr : Hid (weakR s l c = (weakTo s l c s.cells.length)) := Lib.hid (by unfold weakR; rw [if_pos he])
    obtain ⟨ok, okl, hcomp, hc⟩ := comp_ok he
    have hpos := comp_pos ok hcomp
    have Hc := Lib.hid hc
    clear he hcomp hc
    go_enter Tryd.func17, Tryd.ntmps17
    go_wp2_with fail
    refine (rCheck_c s A cap l PA pcap c CA ccap hclen _ (hs.ext E1) (hl.ext E1) (hcs.ext E1)).mono ?_
    rintro e w2 ⟨rfl, E2⟩
    rw [He.out]
    have B1 := B1.ext E2
    clear b1
    have b1 := B1.cell
    go_wp2_with fail
    refine (weakness_c s A cap l PA pcap c CA ccap ok okl (fun k a ha => (Hc.out k a ha).2) hclen _ ((hs.ext E1).ext E2) ((hl.ext E1).ext E2) ((hcs.ext E1).ext E2)).mono ?_
    rintro e w3 ⟨rfl, E3⟩
    go_wp2_with fail
    go_ret2
    exact ⟨by rw [Hr.out, He.out] <;> rfl, (E1.trans E2).trans E3⟩
  · have Hr : Hid (weakR s l c = 0) := Lib.hid (by unfold weakR; rw [if_neg (by rw [he]; exact h0)])
    have e1 : (e0 != 0) = true := by simpa using h0
    have e2 : (e0 == 0) = false := by simpa using h0
    clear he h0
    go_enter Tryd.func17, Tryd.ntmps17
    go_wp2_with fail
    refine (rCheck_c s A cap l PA pcap c CA ccap hclen _ (hs.ext E1) (hl.ext E1) (hcs.ext E1)).mono ?_
    rintro e w2 ⟨rfl, E2⟩
    rw [He.out]
    go_wp2_with fail
    go_ret2
    exact ⟨by rw [Hr.out, He.out] <;> rfl, E1.trans E2⟩
end Go.Proofs.YtpikemglnnjemaaDoor

namespace Go.Proofs.YtpikemglnnjemaaDoor
open Go.RowKit

/-- Of the blocks below B only g may have turned. -/
structure But (g B : Nat) (w w' : World) : Prop where
  os : w'.os = w.os
  tape : w'.tape = w.tape
  output : w'.output = w.output
  size : w.heap.size ≤ w'.heap.size
  block : ∀ k, k < B → k ≠ g → w'.heap[k]? = w.heap[k]?
theorem But.refl (g B : Nat) (w : World) : But g B w w := ⟨rfl, rfl, rfl, Nat.le_refl _, fun _ _ _ => rfl⟩
theorem But.trans {g B : Nat} {a b c : World} (h : But g B a b) (k : But g B b c) : But g B a c :=
  ⟨k.os.trans h.os, k.tape.trans h.tape, k.output.trans h.output, Nat.le_trans h.size k.size, fun i hi hg => (k.block i hi hg).trans (h.block i hi hg)⟩
theorem But.ext {g B : Nat} {a b c : World} (h : But g B a b) (k : Ext b c) (hB : B ≤ b.heap.size) : But g B a c :=
  h.trans ⟨k.1, k.2, k.3, k.size, fun i hi _ => k.block i (by omega)⟩
theorem But.alloc {g B : Nat} {a b : World} (h : But g B a b) (hB : B ≤ b.heap.size) (o : Obj) : But g B a (b.alloc o) := h.ext ((Ext.refl b).alloc o) hB
theorem But.setG {g B : Nat} {a b : World} (h : But g B a b) (i : Nat) (u : Value) : But g B a (b.setCell ⟨g, i, none⟩ u) :=
  h.trans ⟨rfl, rfl, rfl, by simp [World.setCell], fun k _ hk => Below.heap_setCell _ _ _ _ hk⟩
theorem But.grown {g B : Nat} {a b c : World} {row : Option Nat} (h : But g B a b) (k : b.grownBy c row) (hB : B ≤ b.heap.size) (hr : ∀ r, row = some r → B ≤ r) : But g B a c :=
  h.trans ⟨k.os, k.tape, k.output, k.size, fun i hi _ => k.block i (by omega) (fun e => by have := hr i e.symm; omega)⟩
theorem But.below {g B : Nat} {a b c : World} (h : But g B b c) (k : Ext a b) (h1 : a.heap.size ≤ g) (h2 : a.heap.size ≤ B) : Ext a c :=
  ⟨h.os.trans k.os, h.tape.trans k.tape, h.output.trans k.output, Nat.le_trans k.size h.size, fun i hi => (h.block i (by omega) (by omega)).trans (k.block i hi)⟩
theorem But.cell {g B : Nat} {a b : World} (h : But g B a b) {p : Addr} {v : Value} (hp : p.block < B) (hg : p.block ≠ g) (hc : a.cell? p = some v) : b.cell? p = some v := by
  rw [← hc]
  unfold World.cell?
  rw [h.block _ hp hg]
theorem SliceIs.but {g B : Nat} {a b : World} {A : Option Addr} {n cap sz : Nat} {rows : List (List Value)} (h : SliceIs a A n cap sz rows) (k : But g B a b) (hA : ∀ q, A = some q → q.block < B ∧ q.block ≠ g) : SliceIs b A n cap sz rows := by
  obtain ⟨h1, h2, h3, h4, h5⟩ := h
  refine ⟨h1, h2, h3, h4, fun hn => ?_⟩
  obtain ⟨bb, off, hAe, hb, hc⟩ := h5 hn
  obtain ⟨q1, q2⟩ := hA _ hAe
  exact ⟨bb, off, hAe, Nat.lt_of_lt_of_le hb k.size, fun i r hr j u hu => k.cell q1 q2 (hc i r hr j u hu)⟩
theorem Blk.but {G B g : Nat} {a b : World} {t : TypeId} {cs : Array Value} (h : Blk a g t cs) (k : But G B a b) (h1 : g < B) (h2 : g ≠ G) : Blk b g t cs := (k.block g h1 h2).trans h
theorem infoPair : (Tryd.prog.info? 145).map (fun i => (i.zero, i.size, i.bytes)) = some (some (.agg #[.int .i64 0, .int .i64 0]), 2, 16) := by kernel_rfl
theorem infoMap : (Tryd.prog.info? 156).map (fun i => (i.zero, i.size, i.bytes)) = some (some (.map none), 1, 8) := by kernel_rfl

/-- The cells of the board. -/
def brdCells (s : Shape) (A : Option Addr) (cap : Nat) (PA : Option Addr) (pl pcap : Nat) (nv av ev ov lv : Value) : Array Value :=
  #[.int .i64 s.W, .int .i64 s.D, .int .i64 s.H, .slice A s.cells.length cap, .slice PA pl pcap, nv, av, ev, ov, lv]
theorem nums_take {cs : List Int} {k : Nat} (h : k < cs.length) : (numsOf cs).take (k + 1) = (numsOf cs).take k ++ [numOf cs k] := by
  rw [List.take_add_one, numsOf_get h]
  rfl
theorem shapeErr_ok {s : Shape} (h : s.valid = true) : shapeErr s = 0 := by simp [shapeErr, h]
theorem platesErr_ok {l : List Plate} (h : platesB l = true) : platesErr l = 0 := by simp [platesErr, h]

/-! ### rows of the call's own -/
/-- A guard: the operation of a region is this append. -/
theorem at_append {P : Program} {ops : Array Oper} {o : Oper} {a : Act} {w : World} {K : Act → World → Prop} {Q : Exit → Act → World → Prop} {F : Prop} (args : Array Operand) (ts : Array TypeId)
    (_ : o.op = .call { callee := .builtin .append, args := args, argTypes := ts }) (h : if Region.wanted o (yielded ops a.tmps) = true then o.wp P a w K Q else F) : if Region.wanted o (yielded ops a.tmps) = true then o.wp P a w K Q else F := h

theorem own_forms {w : World} {base : Nat} {e : TypeId} {size : Nat} {v : Value} {n : Nat} {xs : List Value} (h : w.ownsRow base e size v n xs) : ∃ A cap, v = .slice A n cap := by
  rcases h.2 with ⟨rfl, rfl⟩ | ⟨g, cap, cur, hv, _⟩
  · exact ⟨none, 0, rfl⟩
  · exact ⟨_, cap, hv⟩
theorem own_grown {w w' : World} {base : Nat} {e : TypeId} {size : Nat} {v : Value} {n : Nat} {xs : List Value} {row : Option Nat} (h : w.ownsRow base e size v n xs) (hg : w.grownBy w' row) (hr : v.ownBlock = none ∨ v.ownBlock ≠ row) :
    w'.ownsRow base e size v n xs := by
  obtain ⟨h1, h2⟩ := h
  refine ⟨h1, ?_⟩
  rcases h2 with h2 | ⟨g, cap, cur, hv, hb, hh, r⟩
  · exact Or.inl h2
  · refine Or.inr ⟨g, cap, cur, hv, hb, ?_, r⟩
    have hlt : g < w.heap.size := (Array.getElem?_eq_some_iff.1 hh).1
    rw [hg.block g hlt ?_]
    · exact hh
    · subst hv
      rcases hr with hr | hr
      · cases hr
      · exact fun e => hr (by rw [← e]; rfl)
theorem own_blk {w : World} {base : Nat} {e : TypeId} {size : Nat} {v : Value} {n : Nat} {xs : List Value} (h : w.ownsRow base e size v n xs) {g : Nat} {t : TypeId} {cs : Array Value} (hb : Blk w g t cs) (he : t ≠ e) : some g ≠ v.ownBlock := by
  intro e1
  rcases h.2 with ⟨rfl, _⟩ | ⟨g', cap, cur, rfl, _, hg, _⟩
  · cases e1
  · simp only [Value.ownBlock, Option.some.injEq] at e1
    subst e1
    unfold Blk at hb
    rw [hg] at hb
    simp only [Option.some.injEq, Obj.cells.injEq] at hb
    exact he hb.2.1.symm
theorem ext_alloc (w : World) (o : Obj) : Ext w (w.alloc o) := (Ext.refl w).alloc o

def encNat (n : Nat) : Value := .int .i64 (n : Int)
def mapV (n : Nat) : Value := .map (some n)
def pairCells (p : Int × Int) : List Value := [.int .i64 p.1, .int .i64 p.2]
/-- What each sort covers from the place with an index. -/
def layAt (s : Shape) (l : List Plate) (p : Nat) (q : Int × Bool) : Option Nat := layF s l (s.px p) (s.py p) (s.pz p) (s.cells.getD p 0) l.length q

/-- The maps of these places. -/
def MapsOf (s : Shape) (l : List Plate) (T M : Nat) (w : World) (ps ms : List Nat) : Prop :=
  ∀ (j Mj p : Nat), ms[j]? = some Mj → ps[j]? = some p → Mj ≠ M ∧ T ≤ Mj ∧ ∃ m, MapOf encSort encSet w Mj m ∧ ∀ q, getK m q = layAt s l p q

structure Mid (s : Shape) (l : List Plate) (A : Option Addr) (cap : Nat) (PA : Option Addr) (pcap G T M NB ncap : Nat) (W5 w : World) (ab : List Int) (es : List (Int × Int)) (pm : List ((Int × Int) × Nat)) (ps ms : List Nat) (av : Value) (EA : Option Addr) (ec : Nat) (ov lv : Value) : Prop where
  size : T ≤ w.heap.size
  but : But G T W5 w
  brd : Blk w G 142 (brdCells s A cap PA l.length pcap (.slice (some ⟨NB, 0, none⟩) s.cells.length ncap) av (.slice EA es.length ec) ov lv)
  oa : w.ownsRow T 3 1 av ab.length (ab.map iv)
  oe : w.ownsRow T 145 2 (.slice EA es.length ec) es.length (es.map pairCells).flatten
  len : ms.length = ps.length
  ol : w.ownsRow T 156 1 lv ps.length (ms.map mapV)
  maps : MapsOf s l T M w ps ms
  om : MapOf encPair encNat w M pm

section
variable {s : Shape} {l : List Plate} {A : Option Addr} {cap : Nat} {PA : Option Addr} {pcap G T M NB ncap : Nat} {W5 w : World} {ab : List Int} {es : List (Int × Int)} {pm : List ((Int × Int) × Nat)} {ps ms : List Nat} {av : Value} {EA : Option Addr} {ec : Nat} {ov lv : Value}

theorem MapsOf.ext {w' : World} (h : MapsOf s l T M w ps ms) (E : Ext w w') : MapsOf s l T M w' ps ms := fun j Mj p h1 h2 => by
  obtain ⟨a, b, m, h3, h4⟩ := h j Mj p h1 h2
  exact ⟨a, b, m, h3.ext E, h4⟩
theorem Mid.ext {w' : World} (h : Mid s l A cap PA pcap G T M NB ncap W5 w ab es pm ps ms av EA ec ov lv) (E : Ext w w') : Mid s l A cap PA pcap G T M NB ncap W5 w' ab es pm ps ms av EA ec ov lv :=
  ⟨Nat.le_trans h.size E.size, h.but.ext E h.size, h.brd.ext E, own_ext h.oa E, own_ext h.oe E, h.len, own_ext h.ol E, h.maps.ext E, h.om.ext E⟩
/-- A block of cells turns, or the map M. -/
theorem MapsOf.turn {w' : World} {row : Option Nat} (h : MapsOf s l T M w ps ms) (hg : w.grownBy w' row) (h2 : ∀ r, row = some r → r = M ∨ ∃ t cs z, w.heap[r]? = some (.cells cs t z)) : MapsOf s l T M w' ps ms := fun j Mj p hj hp => by
  obtain ⟨a, b, m, h3, h4⟩ := h j Mj p hj hp
  refine ⟨a, b, m, h3.grown hg (fun e => ?_), h4⟩
  rcases h2 Mj e.symm with h5 | ⟨t, cs, z, h5⟩
  · exact a h5
  · obtain ⟨es, clock, h6, _⟩ := h3
    rw [h5] at h6
    cases h6
theorem own_cells (M : Nat) {base : Nat} {e : TypeId} {size : Nat} {v : Value} {n : Nat} {xs : List Value} (h : w.ownsRow base e size v n xs) : ∀ r, v.ownBlock = some r → r = M ∨ ∃ t cs z, w.heap[r]? = some (.cells cs t z) := by
  intro r hr
  rcases h.2 with ⟨rfl, _⟩ | ⟨g, cap, cur, rfl, _, hg, _⟩
  · cases hr
  · simp only [Value.ownBlock, Option.some.injEq] at hr
    subst hr
    exact Or.inr ⟨_, _, _, hg⟩
theorem MapsOf.far (h : MapsOf s l T M w ps ms) (hG : G < T) (i : Nat) (u : Value) : MapsOf s l T M (w.setCell ⟨G, i, none⟩ u) ps ms := fun j Mj p h1 h2 => by
  obtain ⟨a, b, m, h3, h4⟩ := h j Mj p h1 h2
  exact ⟨a, b, m, h3.far (by show Mj ≠ G; omega) u, h4⟩
theorem mid_size {w' : World} {row : Option Nat} (h : T ≤ w.heap.size) (hg : w.grownBy w' row) : T ≤ w'.heap.size := Nat.le_trans h hg.size
theorem set_size (w : World) (p : Addr) (u : Value) : (w.setCell p u).heap.size = w.heap.size := by simp [World.setCell]

/-- One more of those above. -/
theorem Mid.appA (h : Mid s l A cap PA pcap G T M NB ncap W5 w ab es pm ps ms av EA ec ov lv) (hG : G < T) (hM : T ≤ M) {a : Int} {t : TypeId} {w4 : World} {v' : Value} (own4 : w4.ownsRow T 3 1 v' (ab.length + 1) (ab.map iv ++ [iv a]))
    (hg : (w.alloc (.cells #[.int .i64 a] t)).grownBy w4 av.ownBlock) : ∃ W6, w4.setCell ⟨G, 6, none⟩ v' = W6 ∧ Mid s l A cap PA pcap G T M NB ncap W5 W6 (ab ++ [a]) es pm ps ms v' EA ec ov lv := by
  obtain ⟨h0, h1, h2, h3, h4, h5, h6, h7, h8⟩ := h.ext (ext_alloc w (.cells #[.int .i64 a] t))
  have hr : ∀ r, av.ownBlock = some r → T ≤ r := fun r hr => (h3.lt r hr).1
  refine ⟨_, rfl, by rw [set_size]; exact mid_size h0 hg, (h1.grown hg h0 hr).setG _ _, ?_, ?_, own_setCell (own_grown h4 hg (own_apart h4 h3 (by decide))) hG _, h5, own_setCell (own_grown h6 hg (own_apart h6 h3 (by decide))) hG _,
    (h7.turn hg (own_cells M h3)).far hG _ _, (h8.grown hg (own_map h3 h8)).far (by show M ≠ G; omega) _⟩
  · exact (h2.grown hg (own_ne h3 hG)).set_ 6 v'
  · rw [List.map_append, List.length_append]
    exact own_setCell own4 hG _
/-- One more pair. -/
theorem Mid.appE (h : Mid s l A cap PA pcap G T M NB ncap W5 w ab es pm ps ms av EA ec ov lv) (hG : G < T) (hM : T ≤ M) {a b : Int} {t : TypeId} {w4 : World} {EA' : Option Addr} {ec' : Nat} (own4 : w4.ownsRow T 145 2 (.slice EA' (es.length + 1) ec') (es.length + 1) ((es.map pairCells).flatten ++ [.int .i64 a, .int .i64 b]))
    (hg : (w.alloc (.cells #[.int .i64 a, .int .i64 b] t)).grownBy w4 (Value.slice EA es.length ec).ownBlock) : ∃ W6, w4.setCell ⟨G, 7, none⟩ (.slice EA' (es.length + 1) ec') = W6 ∧ Mid s l A cap PA pcap G T M NB ncap W5 W6 ab (es ++ [(a, b)]) pm ps ms av EA' ec' ov lv := by
  obtain ⟨h0, h1, h2, h3, h4, h5, h6, h7, h8⟩ := h.ext (ext_alloc w (.cells #[.int .i64 a, .int .i64 b] t))
  have hr : ∀ r, (Value.slice EA es.length ec).ownBlock = some r → T ≤ r := fun r hr => (h4.lt r hr).1
  refine ⟨_, rfl, by rw [set_size]; exact mid_size h0 hg, (h1.grown hg h0 hr).setG _ _, ?_, own_setCell (own_grown h3 hg (own_apart h3 h4 (by decide))) hG _, ?_, h5, own_setCell (own_grown h6 hg (own_apart h6 h4 (by decide))) hG _,
    (h7.turn hg (own_cells M h4)).far hG _ _, (h8.grown hg (own_map h4 h8)).far (by show M ≠ G; omega) _⟩
  · rw [List.length_append]
    exact (h2.grown hg (own_ne h4 hG)).set_ 7 _
  · rw [List.map_append, List.length_append, List.flatten_append]
    exact own_setCell own4 hG _
/-- One more map. -/
theorem Mid.appL (h : Mid s l A cap PA pcap G T M NB ncap W5 w ab es pm ps ms av EA ec ov lv) (hG : G < T) (hM : T ≤ M) {Mn p : Nat} {t : TypeId} {w4 : World} {v' : Value} {mn : List ((Int × Bool) × Nat)} (hMn : M < Mn) (hmap : MapOf encSort encSet w Mn mn) (hget : ∀ q, getK mn q = layAt s l p q)
    (own4 : w4.ownsRow T 156 1 v' (ps.length + 1) (ms.map mapV ++ [mapV Mn])) (hg : (w.alloc (.cells #[.map (some Mn)] t)).grownBy w4 lv.ownBlock) :
    ∃ W6, w4.setCell ⟨G, 9, none⟩ v' = W6 ∧ Mid s l A cap PA pcap G T M NB ncap W5 W6 ab es pm (ps ++ [p]) (ms ++ [Mn]) av EA ec ov v' := by
  have hmap' := hmap.ext (ext_alloc w (.cells #[.map (some Mn)] t))
  obtain ⟨h0, h1, h2, h3, h4, h5, h6, h7, h8⟩ := h.ext (ext_alloc w (.cells #[.map (some Mn)] t))
  have hr : ∀ r, lv.ownBlock = some r → T ≤ r := fun r hr => (h6.lt r hr).1
  refine ⟨_, rfl, by rw [set_size]; exact mid_size h0 hg, (h1.grown hg h0 hr).setG _ _, (h2.grown hg (own_ne h6 hG)).set_ 9 _, own_setCell (own_grown h3 hg (own_apart h3 h6 (by decide))) hG _, own_setCell (own_grown h4 hg (own_apart h4 h6 (by decide))) hG _,
    by simp [h5], ?_, ?_, (h8.grown hg (own_map h6 h8)).far (by show M ≠ G; omega) _⟩
  · rw [List.map_append, List.length_append]
    exact own_setCell own4 hG _
  · have hold := (h7.turn hg (own_cells M h6)).far hG 9 v'
    intro j Mj q hj hq
    rcases Nat.lt_or_ge j ms.length with hlt | hge
    · rw [List.getElem?_append_left hlt] at hj
      rw [List.getElem?_append_left (by omega)] at hq
      exact hold j Mj q hj hq
    · rw [List.getElem?_append_right hge] at hj
      rw [List.getElem?_append_right (by omega)] at hq
      have hj0 : j - ms.length = 0 := by
        have := (List.getElem?_eq_some_iff.1 hj).1
        simp at this
        omega
      rw [hj0] at hj
      rw [show j - ps.length = 0 by omega] at hq
      simp only [List.getElem?_cons_zero, Option.some.injEq] at hj hq
      subst hj hq
      exact ⟨by omega, by omega, mn, (hmap'.grown hg (own_map h6 hmap')).far (by show Mn ≠ G; omega) _, hget⟩
theorem Mid.put (h : Mid s l A cap PA pcap G T M NB ncap W5 w ab es pm ps ms av EA ec ov lv) (hG : G < T) (hM : T ≤ M) {w6 : World} {pm' : List ((Int × Int) × Nat)} (hm : MapOf encPair encNat w6 M pm') (hg : w.grownBy w6 (some M)) : Mid s l A cap PA pcap G T M NB ncap W5 w6 ab es pm' ps ms av EA ec ov lv := by
  obtain ⟨h0, h1, h2, h3, h4, h5, h6, h7, h8⟩ := h
  exact ⟨mid_size h0 hg, h1.grown hg h0 (fun r e => by cases e; exact hM), h2.grown hg (fun e => by cases e; omega), own_grown h3 hg (Or.inr (own_map h3 h8).symm), own_grown h4 hg (Or.inr (own_map h4 h8).symm), h5, own_grown h6 hg (Or.inr (own_map h6 h8).symm),
    h7.turn hg (fun r e => Or.inl (by cases e; rfl)), hm⟩
/-- One more of those over pairs: a row in blocks from T2 on. -/
theorem Mid.appO {T2 : Nat} {os : List Int} (h : Mid s l A cap PA pcap G T M NB ncap W5 w ab es pm ps ms av EA ec ov lv) (hov : w.ownsRow T2 3 1 ov os.length (os.map iv)) (hav : ∀ r, av.ownBlock = some r → r < T2) (hT2 : T ≤ T2) (hG : G < T) (hM : T ≤ M) {a : Int} {t : TypeId} {w4 : World} {v' : Value}
    (own4 : w4.ownsRow T2 3 1 v' (os.length + 1) (os.map iv ++ [iv a])) (hg : (w.alloc (.cells #[.int .i64 a] t)).grownBy w4 ov.ownBlock) :
    ∃ W6, w4.setCell ⟨G, 8, none⟩ v' = W6 ∧ Mid s l A cap PA pcap G T M NB ncap W5 W6 ab es pm ps ms av EA ec v' lv ∧ W6.ownsRow T2 3 1 v' (os ++ [a]).length ((os ++ [a]).map iv) := by
  obtain ⟨h0, h1, h2, h3, h4, h5, h6, h7, h8⟩ := h.ext (ext_alloc w (.cells #[.int .i64 a] t))
  have hov := own_ext hov (ext_alloc w (.cells #[.int .i64 a] t))
  have hr : ∀ r, ov.ownBlock = some r → T2 ≤ r := fun r hr => (hov.lt r hr).1
  have hr2 : ∀ r, ov.ownBlock = some r → T ≤ r := fun r h => Nat.le_trans hT2 (hr r h)
  have hao : av.ownBlock = none ∨ av.ownBlock ≠ ov.ownBlock := by
    cases e : av.ownBlock with
    | none => exact Or.inl rfl
    | some r =>
      right
      intro e2
      have := hr r e2.symm
      have := hav r e
      omega
  refine ⟨_, rfl, ⟨by rw [set_size]; exact mid_size h0 hg, (h1.grown hg h0 hr2).setG _ _, (h2.grown hg (own_ne hov (by omega))).set_ 8 _, own_setCell (own_grown h3 hg hao) hG _, own_setCell (own_grown h4 hg (own_apart h4 hov (by decide))) hG _,
    h5, own_setCell (own_grown h6 hg (own_apart h6 hov (by decide))) hG _, (h7.turn hg (own_cells M hov)).far hG _ _, (h8.grown hg (own_map hov h8)).far (by show M ≠ G; omega) _⟩, ?_⟩
  rw [List.map_append, List.length_append]
  exact own_setCell own4 (show G < T2 by omega) _

theorem Mid.c6 (h : Mid s l A cap PA pcap G T M NB ncap W5 w ab es pm ps ms av EA ec ov lv) : w.cell? ⟨G, 6, none⟩ = some av := h.brd.cell 6
theorem Mid.c7 (h : Mid s l A cap PA pcap G T M NB ncap W5 w ab es pm ps ms av EA ec ov lv) : w.cell? ⟨G, 7, none⟩ = some (.slice EA es.length ec) := h.brd.cell 7
theorem Mid.c8 (h : Mid s l A cap PA pcap G T M NB ncap W5 w ab es pm ps ms av EA ec ov lv) : w.cell? ⟨G, 8, none⟩ = some ov := h.brd.cell 8
theorem Mid.c9 (h : Mid s l A cap PA pcap G T M NB ncap W5 w ab es pm ps ms av EA ec ov lv) : w.cell? ⟨G, 9, none⟩ = some lv := h.brd.cell 9

/-- With some row of those above; with some row of maps. -/
def MidA (s : Shape) (l : List Plate) (A : Option Addr) (cap : Nat) (PA : Option Addr) (pcap G T M NB ncap : Nat) (W5 : World) (ab : List Int) (es : List (Int × Int)) (pm : List ((Int × Int) × Nat)) (ps ms : List Nat) (EA : Option Addr) (ec : Nat) (ov lv : Value) (w : World) : Prop :=
  ∃ av, Mid s l A cap PA pcap G T M NB ncap W5 w ab es pm ps ms av EA ec ov lv
def MidL (s : Shape) (l : List Plate) (A : Option Addr) (cap : Nat) (PA : Option Addr) (pcap G T M NB ncap : Nat) (W5 : World) (ab : List Int) (es : List (Int × Int)) (pm : List ((Int × Int) × Nat)) (ps : List Nat) (av : Value) (EA : Option Addr) (ec : Nat) (ov : Value) (w : World) : Prop :=
  ∃ ms lv, Mid s l A cap PA pcap G T M NB ncap W5 w ab es pm ps ms av EA ec ov lv

/-! ### the pairs of one place -/
def edgesJ (s : Shape) (k j : Nat) : List (Int × Int) :=
  edgesS s k ++ ((if 1 ≤ j ∧ 0 ≤ s.num (s.px k + 1) (s.py k) (s.pz k) then [(numOf s.cells k, s.num (s.px k + 1) (s.py k) (s.pz k))] else []) ++
    (if 2 ≤ j ∧ 0 ≤ s.num (s.px k) (s.py k + 1) (s.pz k) then [(numOf s.cells k, s.num (s.px k) (s.py k + 1) (s.pz k))] else []))
theorem edgesJ_zero (s : Shape) (k : Nat) : edgesJ s k 0 = edgesS s k := by simp [edgesJ]
theorem edgesJ_one_y {s : Shape} {k : Nat} {n : Int} (h : s.num (s.px k + 1) (s.py k) (s.pz k) = n) (hn : 0 ≤ n) : edgesJ s k 1 = edgesJ s k 0 ++ [(numOf s.cells k, n)] := by
  subst h
  simp [edgesJ, hn]
theorem edgesJ_one_n {s : Shape} {k : Nat} {n : Int} (h : s.num (s.px k + 1) (s.py k) (s.pz k) = n) (hn : ¬ 0 ≤ n) : edgesJ s k 1 = edgesJ s k 0 := by
  subst h
  simp [edgesJ, hn]
theorem edgesJ_two_y {s : Shape} {k : Nat} {n : Int} (h : s.num (s.px k) (s.py k + 1) (s.pz k) = n) (hn : 0 ≤ n) : edgesJ s k 2 = edgesJ s k 1 ++ [(numOf s.cells k, n)] := by
  subst h
  simp [edgesJ, hn]
theorem edgesJ_two_n {s : Shape} {k : Nat} {n : Int} (h : s.num (s.px k) (s.py k + 1) (s.pz k) = n) (hn : ¬ 0 ≤ n) : edgesJ s k 2 = edgesJ s k 1 := by
  subst h
  simp [edgesJ, hn]
theorem edgesJ_end {s : Shape} {k : Nat} (h : ¬ numOf s.cells k < 0) : edgesS s (k + 1) = edgesJ s k 2 := by
  rw [edgesS, if_neg h]
  simp [edgesJ, edgesAt]

/-! ### what the callees need -/
theorem Mid.base (h : Mid s l A cap PA pcap G T M NB ncap W5 w ab es pm ps ms av EA ec ov lv) (hb : Bytes w A cap s.cells) (hn : Ints W5 (some ⟨NB, 0, none⟩) ncap (numsOf s.cells)) (h1 : NB < T) (h2 : NB ≠ G) : Base w G s A cap (some ⟨NB, 0, none⟩) ncap := by
  have c := h.brd.cell
  exact ⟨c 0, c 1, c 2, c 3, c 5, hb, SliceIs.but hn h.but (fun q hq => by cases hq; exact ⟨h1, h2⟩)⟩
theorem Mid.below {w0 : World} (h : Mid s l A cap PA pcap G T M NB ncap W5 w ab es pm ps ms av EA ec ov lv) (E : Ext w0 W5) (h1 : w0.heap.size ≤ G) (h2 : w0.heap.size ≤ T) : Ext w0 w := h.but.below E h1 h2
theorem Mid.brd4 (h : Mid s l A cap PA pcap G T M NB ncap W5 w ab es pm ps ms av EA ec ov lv) (hb : Bytes w A cap s.cells) (hp : Plates w PA pcap l) (hn : Ints W5 (some ⟨NB, 0, none⟩) ncap (numsOf s.cells)) (h1 : NB < T) (h2 : NB ≠ G) : Brd w G s A cap (some ⟨NB, 0, none⟩) ncap l PA pcap :=
  ⟨h.base hb hn h1 h2, h.brd.cell 4, hp⟩
end
end Go.Proofs.YtpikemglnnjemaaDoor

namespace Go.Proofs.YtpikemglnnjemaaDoor
open Go.RowKit

theorem own_any {w : World} {b : Nat} {e : TypeId} {sz : Nat} {A : Option Addr} {n cap : Nat} {rows : List (List Value)} (hsz : 0 < sz) (hw : ∀ r ∈ rows, r.length = sz) (hn : rows.length = n) (h : w.ownsRow b e sz (.slice A n cap) n rows.flatten) : SliceIs w A n cap sz rows := by
  rcases Nat.eq_zero_or_pos n with h0 | h0
  · subst h0
    rcases h.2 with ⟨hv, _⟩ | ⟨g, cap', cur, hv, _, _, h1, h2, _⟩
    · cases hv
      exact ⟨hn, Nat.le_refl _, Nat.zero_le _, hw, fun h => by omega⟩
    · cases hv
      exact ⟨hn, h1, h2, hw, fun h => by omega⟩
  · exact own_slice hsz hw hn h0 h
theorem flat_ints (xs : List Int) : (xs.map fun n => [Value.int .i64 n]).flatten = xs.map iv := by
  induction xs with
  | nil => rfl
  | cons x l ih => simp [iv, ih]
theorem flat_maps (ms : List Nat) : (ms.map fun n => [mapV n]).flatten = ms.map mapV := by
  induction ms with
  | nil => rfl
  | cons x l ih => simp [ih]
theorem own_ints {w : World} {b : Nat} {A : Option Addr} {cap : Nat} {xs : List Int} (h : w.ownsRow b 3 1 (.slice A xs.length cap) xs.length (xs.map iv)) : Ints w A cap xs :=
  own_any (by decide) (by simp) (by simp) (by rw [flat_ints]; exact h)
theorem own_pairs {w : World} {b : Nat} {A : Option Addr} {cap : Nat} {es : List (Int × Int)} (h : w.ownsRow b 145 2 (.slice A es.length cap) es.length (es.map pairCells).flatten) : SliceIs w A es.length cap 2 (es.map pairCells) :=
  own_any (by decide) (by
    intro r hr
    obtain ⟨p, _, rfl⟩ := List.mem_map.1 hr
    rfl) (by simp) h
theorem pair_at {w : World} {A : Option Addr} {cap : Nat} {es : List (Int × Int)} (h : SliceIs w A es.length cap 2 (es.map pairCells)) {k : Nat} (hk : k < es.length) :
    ∃ b off p, A = some ⟨b, off, none⟩ ∧ es[k]? = some p ∧ b < w.heap.size ∧ w.cell? ⟨b, off + k * 2, none⟩ = some (.int .i64 p.1) ∧ w.cell? ⟨b, off + k * 2 + 1, none⟩ = some (.int .i64 p.2) := by
  obtain ⟨b, off, hA, hb, hc⟩ := SliceIs.cells h (by omega)
  have hget : es[k]? = some es[k] := List.getElem?_eq_getElem hk
  have hr : (es.map pairCells)[k]? = some (pairCells es[k]) := by rw [List.getElem?_map, hget]; rfl
  exact ⟨b, off, es[k], hA, hget, hb, hc k _ hr 0 _ rfl, hc k _ hr 1 _ rfl⟩

/-! ### what is over the pairs -/
def overT (s : Shape) (k : Nat) : List Int := (overS s).take k
theorem overS_len (s : Shape) : (overS s).length = (eds s).length := by simp [overS, eds]
theorem overT_len {s : Shape} {k : Nat} (h : k ≤ (eds s).length) : (overT s k).length = k := by
  unfold overT
  rw [List.length_take, overS_len]
  omega
theorem overT_succ {s : Shape} {k : Nat} {p : Int × Int} {o : Int} (h : (eds s)[k]? = some p) (ho : overAt (abv s) (eds s) p = o) : overT s (k + 1) = overT s k ++ [o] := by
  unfold overT
  rw [List.take_add_one]
  have : (overS s)[k]? = some o := by
    unfold overS
    rw [List.getElem?_map]
    show Option.map _ (eds s)[k]? = _
    rw [h]
    exact congrArg some ho
  rw [this]
  rfl
theorem overT_all (s : Shape) : overT s (eds s).length = overS s := by
  unfold overT
  rw [List.take_of_length_le (by rw [overS_len]; exact Nat.le_refl _)]

def lookV : Option Nat → Value
  | some v => .tuple #[.int .i64 (v : Int), .bool true]
  | none => .tuple #[.int .i64 0, .bool false]
def overV : Option Nat → Int
  | some j => (j : Int)
  | none => -1
theorem overAt_eq (ab : List Int) (es : List (Int × Int)) (p : Int × Int) : overAt ab es p = overV (getK (pairsOf es) (ab.getD p.1.toNat 0, ab.getD p.2.toNat 0)) := by
  unfold overAt
  cases getK (pairsOf es) (ab.getD p.1.toNat 0, ab.getD p.2.toNat 0) <;> rfl
theorem look_pairs {w : World} {M : Nat} {pm : List ((Int × Int) × Nat)} (h : MapOf encPair encNat w M pm) (a b : Int) : (Instr.lookup 154 (.map (some M)) (.agg #[.int .i64 a, .int .i64 b]) true).run Tryd.prog w = .ok (lookV (getK pm (a, b))) w := by
  have := lookup_run pairKey Tryd.underlying154 (w := w) (z := .int .i64 0) (by kernel_rfl) h (a, b) true
  rw [show Value.agg #[.int .i64 a, .int .i64 b] = encPair (a, b) from rfl, this]
  cases getK pm (a, b) <;> rfl

/-! ### the board -/
structure Board (w : World) (g : Nat) (s : Shape) (A : Option Addr) (cap : Nat) (l : List Plate) (PA : Option Addr) (pcap : Nat) (NA : Option Addr) (ncap : Nat) (AA : Option Addr) (acap : Nat) (EA : Option Addr) (ecap : Nat) (OA : Option Addr) (ocap : Nat) (LA : Option Addr) (lcap : Nat) (ms : List Nat) : Prop where
  brd : Brd w g s A cap NA ncap l PA pcap
  c6 : w.cell? ⟨g, 6, none⟩ = some (.slice AA (fullN s.cells) acap)
  c7 : w.cell? ⟨g, 7, none⟩ = some (.slice EA (eds s).length ecap)
  c8 : w.cell? ⟨g, 8, none⟩ = some (.slice OA (eds s).length ocap)
  c9 : w.cell? ⟨g, 9, none⟩ = some (.slice LA (fullN s.cells) lcap)
  above : Ints w AA acap (abv s)
  edges : SliceIs w EA (eds s).length ecap 2 ((eds s).map pairCells)
  over : Ints w OA ocap (overS s)
  lays : SliceIs w LA (fullN s.cells) lcap 1 (ms.map fun n => [mapV n])
  len : ms.length = fullN s.cells
  maps : ∀ (j Mj : Nat), ms[j]? = some Mj → ∃ m, MapOf encSort encSet w Mj m ∧ ∀ q, getK m q = layAt s l ((placesS s s.cells.length).getD j 0) q
theorem Board.ext {w w' : World} {g : Nat} {s : Shape} {A : Option Addr} {cap : Nat} {l : List Plate} {PA : Option Addr} {pcap : Nat} {NA : Option Addr} {ncap : Nat} {AA : Option Addr} {acap : Nat} {EA : Option Addr} {ecap : Nat} {OA : Option Addr} {ocap : Nat} {LA : Option Addr} {lcap : Nat} {ms : List Nat}
    (h : Board w g s A cap l PA pcap NA ncap AA acap EA ecap OA ocap LA lcap ms) (e : Ext w w') : Board w' g s A cap l PA pcap NA ncap AA acap EA ecap OA ocap LA lcap ms :=
  ⟨h.brd.ext e, e.cell h.c6, e.cell h.c7, e.cell h.c8, e.cell h.c9, h.above.ext e, h.edges.ext e, h.over.ext e, h.lays.ext e, h.len, fun j Mj hj => by
    obtain ⟨m, h1, h2⟩ := h.maps j Mj hj
    exact ⟨m, h1.ext e, h2⟩⟩
/-- What look leaves behind. -/
def LookOk (s : Shape) (l : List Plate) (A : Option Addr) (cap : Nat) (PA : Option Addr) (pcap : Nat) (w : World) (e : Ending) (w' : World) : Prop :=
  ∃ g NA ncap AA acap EA ecap OA ocap LA lcap ms, e = .returned (.tuple #[.pointer (some ⟨g, 0, none⟩), .int .i64 0]) ∧ Board w' g s A cap l PA pcap NA ncap AA acap EA ecap OA ocap LA lcap ms ∧ Ext w w'
theorem board_of {s : Shape} {l : List Plate} {A : Option Addr} {cap : Nat} {PA : Option Addr} {pcap G T M NB ncap T2 : Nat} {W5 w : World} {pm : List ((Int × Int) × Nat)} {ms : List Nat} {AA : Option Addr} {acap : Nat} {EA : Option Addr} {ec : Nat} {ov lv : Value}
    (h : Mid s l A cap PA pcap G T M NB ncap W5 w (abv s) (eds s) pm (placesS s s.cells.length) ms (.slice AA (abv s).length acap) EA ec ov lv) (hb : Brd w G s A cap (some ⟨NB, 0, none⟩) ncap l PA pcap)
    (ho : w.ownsRow T2 3 1 ov (overT s (eds s).length).length ((overT s (eds s).length).map iv)) :
    ∃ OA ocap LA lcap, Board w G s A cap l PA pcap (some ⟨NB, 0, none⟩) ncap AA acap EA ec OA ocap LA lcap ms := by
  obtain ⟨OA, ocap, rfl⟩ := own_forms ho
  obtain ⟨LA, lcap, rfl⟩ := own_forms h.ol
  have hp : (placesS s s.cells.length).length = fullN s.cells := by
    rw [placesS_len]
    exact abv_len
  refine ⟨OA, ocap, LA, lcap, hb, ?_, h.c7, ?_, ?_, own_ints h.oa, own_pairs h.oe, ?_, ?_, h.len.trans hp, fun j Mj hj => ?_⟩
  · have := h.c6
    rw [abv_len] at this
    exact this
  · have := h.c8
    rw [overT_len (Nat.le_refl _)] at this
    exact this
  · have := h.c9
    rw [hp] at this
    exact this
  · have := own_ints ho
    rw [overT_all] at this
    exact this
  · have := h.ol
    rw [hp] at this
    exact own_any (by decide) (by simp) (by simp [h.len, hp]) (by rw [flat_maps]; exact this)
  · have hj2 : j < (placesS s s.cells.length).length := by
      have := (List.getElem?_eq_some_iff.1 hj).1
      rw [h.len] at this
      exact this
    have hg : (placesS s s.cells.length)[j]? = some ((placesS s s.cells.length).getD j 0) := by
      rw [List.getD_eq_getElem?_getD, List.getElem?_eq_getElem hj2]
      rfl
    exact (h.maps j Mj _ hj hg).2.2
end Go.Proofs.YtpikemglnnjemaaDoor
