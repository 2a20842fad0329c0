/- What is known of Compose's answer: plain. much: what is much larger than valid ones. The law ComposeChecks, walked. Large. More plates: plain. The law's small helpers: at, two, four. SameLaid at equal compositions, and 'before'. alive: the law's own examples. One plate more: plain, and in memory. The law ComposeMore, walked. Opening a law's arguments: slices of whatever element type as rows of cells; the law's last step. -/
import Derived.Test.YtpikemglnnjemaaDoorCm12
import Derived.Handy
import Derived.Laws.StructEq
import Derived.ProofKit
import Derived.Deep.Slices
import Derived.Carry

namespace Go.Proofs.YtpikemglnnjemaaDoor
open Go.RowKit

theorem ask_ok {s : Shape} {l : List Plate} (h : askErr s l = 0) : s.valid = true ∧ platesB l = true := by
  unfold askErr platesErr at h
  split at h
  · split at h
    · exact ⟨by assumption, by assumption⟩
    · omega
  · omega
theorem ask_in (s : Shape) (l : List Plate) : askErr s l = 0 ∨ askErr s l = 70 ∨ askErr s l = 71 := by
  unfold askErr platesErr
  split
  · split
    · exact Or.inl rfl
    · exact Or.inr (Or.inr rfl)
  · exact Or.inr (Or.inl rfl)
theorem comp_ask {s : Shape} {l : List Plate} {c : List Laid} (h : askErr s l ≠ 0) : compErr s l c = askErr s l := by
  unfold askErr platesErr at h ⊢
  unfold compErr
  split
  · split
    · rename_i h1 h2
      rw [if_pos h1, if_pos h2] at h
      exact absurd rfl h
    · rfl
  · rfl
theorem comp_all {s : Shape} {l : List Plate} {c : List Laid} (h : compErr s l c = 0) : s.valid = true ∧ platesB l = true ∧ compB s l c = true := by
  unfold compErr at h
  split at h
  · split at h
    · split at h
      · exact ⟨by assumption, by assumption, by assumption⟩
      · omega
    · omega
  · omega
theorem comp_mem {s : Shape} {l : List Plate} (hv : s.valid = true) (okl : platesB l = true) {c : List Laid} {out : List Nat} (h : (c, out) ∈ allComps s l) : compErr s l c = 0 ∧ hangR s l c = hangB s l c ∧ weakR s l c = weakN s out := by
  have ok := Shape.ok_of hv
  have hset := setRun_is ((mem_all ok okl).1 h)
  have he : compErr s l c = 0 := by unfold compErr; rw [if_pos hv, if_pos okl, if_pos (hset.comp ok rfl)]
  refine ⟨he, by unfold hangR; rw [if_pos he], ?_⟩
  unfold weakR
  rw [if_pos he]
  first | exact weak_eq ok hset rfl | exact (weak_eq ok hset rfl).symm
theorem hang_comp {s : Shape} {l : List Plate} {c : List Laid} (h : hangR s l c = true) : compErr s l c = 0 := by
  unfold hangR at h
  split at h
  · assumption
  · cases h

/-- No composition hangs together. -/
theorem compose_six {s : Shape} {l : List Plate} (h : composeE s l = 6) : composeL s l = [] ∧ ∀ c, hangR s l c = false := by
  have ha : askErr s l = 0 := by
    rcases ask_in s l with h' | h' | h'
    · exact h'
    · unfold composeE at h
      rw [h', if_neg (by omega)] at h
      omega
    · unfold composeE at h
      rw [h', if_neg (by omega)] at h
      omega
  obtain ⟨hv, okl⟩ := ask_ok ha
  have ok := Shape.ok_of hv
  unfold composeE at h
  unfold composeL
  rw [if_pos ha] at h ⊢
  have hbest := best_is s l
  cases hb : bestB s l with
  | some b =>
    rw [hb] at h
    simp at h
  | none =>
    rw [hb] at hbest
    refine ⟨rfl, fun c => ?_⟩
    cases hh : hangR s l c
    · rfl
    · exfalso
      have he := hang_comp hh
      obtain ⟨out, hm⟩ := (mem_all_comp ok okl).2 (comp_all he).2.2
      have hno : hangB s l c = false := hbest _ hm
      rw [← (comp_mem hv okl hm).2.1, hh] at hno
      cases hno
theorem compose_bad {s : Shape} {l : List Plate} (h0 : composeE s l ≠ 0) (h6 : composeE s l ≠ 6) (c : List Laid) : compErr s l c = composeE s l := by
  unfold composeE at h0 h6 ⊢
  split at h0
  · rename_i ha
    rw [if_pos ha] at h6
    exfalso
    cases hb : bestB s l with
    | none =>
      rw [hb] at h6
      exact h6 rfl
    | some b =>
      rw [hb] at h0
      exact h0 rfl
  · rename_i ha
    rw [if_neg ha]
    exact comp_ask ha
theorem compose_best {s : Shape} {l : List Plate} (h : composeE s l = 0) : compErr s l (composeL s l) = 0 ∧ hangR s l (composeL s l) = true ∧
    ∀ c, hangR s l c = true → (composeL s l).length ≤ c.length ∧ ((composeL s l).length = c.length → weakR s l (composeL s l) ≤ weakR s l c ∧ (weakR s l (composeL s l) = weakR s l c → beforeL c (composeL s l) = false)) := by
  have ha : askErr s l = 0 := by
    apply Classical.byContradiction
    intro hn
    unfold composeE at h
    rw [if_neg hn] at h
    exact hn h
  obtain ⟨hv, okl⟩ := ask_ok ha
  have ok := Shape.ok_of hv
  unfold composeE at h
  rw [if_pos ha] at h
  have hbest := best_is s l
  cases hb : bestB s l with
  | none =>
    rw [hb] at h
    simp at h
  | some b =>
    rw [hb] at hbest
    obtain ⟨xs1, out, xs2, hxs, hh, hw, hbef, haft⟩ := hbest
    have hL : composeL s l = b.1 := by unfold composeL; rw [if_pos ha, hb]
    rw [hL]
    have hm : (b.1, out) ∈ allComps s l := by rw [hxs]; simp
    obtain ⟨m1, m2, m3⟩ := comp_mem hv okl hm
    refine ⟨m1, by rw [m2, hh], fun c hc => ?_⟩
    obtain ⟨outc, hmc⟩ := (mem_all_comp ok okl).2 (comp_all (hang_comp hc)).2.2
    obtain ⟨c1, c2, c3⟩ := comp_mem hv okl hmc
    rw [c2] at hc
    rw [m3, c3]
    rw [hxs, List.mem_append, List.mem_cons] at hmc
    rcases hmc with hx | hx | hx
    · have := hbef _ hx hc
      rw [better_iff] at this
      simp only at this
      refine ⟨by omega, fun e => ⟨by omega, fun e2 => by omega⟩⟩
    · obtain ⟨rfl, rfl⟩ := Prod.mk.inj hx
      exact ⟨Nat.le_refl _, fun _ => ⟨Nat.le_refl _, fun _ => beforeL_irr _⟩⟩
    · have := haft _ hx hc
      have hnb : ¬ (c.length < b.1.length ∨ c.length = b.1.length ∧ weakN s outc < b.2) := fun hp => by
        rw [better_iff.2 hp] at this
        cases this
      have hs := all_sorted s l
      rw [hxs, List.pairwise_append] at hs
      have hlt := (List.pairwise_cons.1 hs.2.1).1 _ hx
      refine ⟨by omega, fun e => ⟨by omega, fun _ => beforeL_asymm hlt⟩⟩
end Go.Proofs.YtpikemglnnjemaaDoor

namespace Go.Proofs.YtpikemglnnjemaaDoor
open Go.RowKit

def muchB (n m k : Nat) : Bool := decide (600 < n) || (decide (20 < m) || decide (30 < k))
set_option maxHeartbeats 400000 in
theorem much_c (a b c : Int) (A B C : Option Addr) (n m k cn cm ck : Nat) (hn : n ≤ maxLen) (hm : m ≤ maxLen) (hk : k ≤ maxLen) (w : World) :
    Calls Tryd.prog 13 #[.agg #[.int .i64 a, .int .i64 b, .int .i64 c, .slice A n cn], .slice B m cm, .slice C k ck] w fun e w' => e = .returned (.bool (muchB n m k)) ∧ Ext w w' := by
  unfold maxLen at hn hm hk
  obtain ⟨W1, hW1, E1, B1, hz1⟩ := box_ w #[.int .i64 a, .int .i64 b, .int .i64 c, .slice A n cn] 24
  have b1 := B1.cell
  have Hm : Hid (muchB n m k = (decide ((600 : Int) < n) || (decide ((20 : Int) < m) || decide ((30 : Int) < k)))) := Lib.hid (by
    unfold muchB
    rw [show decide (600 < n) = decide ((600 : Int) < n) by simp; omega, show decide (20 < m) = decide ((20 : Int) < m) by simp; omega, show decide (30 < k) = decide ((30 : Int) < k) by simp; omega])
  cases h1 : decide ((600 : Int) < n)
  · cases h2 : decide ((20 : Int) < m)
    · cases h3 : decide ((30 : Int) < k)
      all_goals
        have Hb := Hm.out
        rw [h1, h2, h3] at Hb
        have Hb := Lib.hid Hb
        go_enter Tryd.func13, Tryd.ntmps13
        go_wp2_with fail
        go_ret
        exact ⟨by rw [Hb.out]; rfl, E1⟩
    · have Hb := Hm.out
      rw [h1, h2] at Hb
      have Hb := Lib.hid Hb
      go_enter Tryd.func13, Tryd.ntmps13
      go_wp2_with fail
      go_ret
      exact ⟨by rw [Hb.out]; rfl, E1⟩
  · have Hb := Hm.out
    rw [h1] at Hb
    have Hb := Lib.hid Hb
    go_enter Tryd.func13, Tryd.ntmps13
    go_wp2_with fail
    go_ret
    exact ⟨by rw [Hb.out]; rfl, E1⟩
end Go.Proofs.YtpikemglnnjemaaDoor

namespace Go.Proofs.YtpikemglnnjemaaDoor
open Go.RowKit

set_option maxHeartbeats 1600000 in
theorem rCheckShape_c (s : Shape) (A : Option Addr) (cap : Nat) (w : World) (hs : Bytes w A cap s.cells) :
    Calls Tryd.prog 19 #[.agg #[.int .i64 s.W, .int .i64 s.D, .int .i64 s.H, .slice A s.cells.length cap]] w fun e w' => e = .returned (.int .i64 (shapeErr s)) ∧ Ext w w' := by
  obtain ⟨W1, hW1, E1, B1, hz1⟩ := box_ w #[.int .i64 s.W, .int .i64 s.D, .int .i64 s.H, .slice A s.cells.length cap] 24
  have b1 := B1.cell
  cases h : s.valid
  · have He := Lib.hid (show shapeErr s = 70 by simp [shapeErr, h])
    have H := Lib.hid h
    clear h
    go_enter Tryd.func19, Tryd.ntmps19
    go_wp2_with fail
    refine (validShape_c A cap s.W s.D s.H s.cells _ (hs.ext E1)).mono ?_
    rintro e w2 ⟨rfl, E2⟩
    rw [show Shape.valid ⟨s.W, s.D, s.H, s.cells⟩ = false from H.out]
    go_wp2_with fail
    go_ret
    exact ⟨by rw [He.out]; rfl, E1.trans E2⟩
  · have He := Lib.hid (shapeErr_ok h)
    have H := Lib.hid h
    clear h
    go_enter Tryd.func19, Tryd.ntmps19
    go_wp2_with fail
    refine (validShape_c A cap s.W s.D s.H s.cells _ (hs.ext E1)).mono ?_
    rintro e w2 ⟨rfl, E2⟩
    rw [show Shape.valid ⟨s.W, s.D, s.H, s.cells⟩ = true from H.out]
    go_wp2_with fail
    go_ret
    exact ⟨by rw [He.out]; rfl, E1.trans E2⟩

set_option maxRecDepth 100000 in
set_option maxHeartbeats 8000000 in
theorem checks_walk (s : Shape) (A : Option Addr) (cap : Nat) (l : List Plate) (PA : Option Addr) (pcap : Nat) (c : List Laid) (CA : Option Addr) (ccap : Nat) (w : World) (hs : Bytes w A cap s.cells) (hl : Plates w PA pcap l) (hcs : Laids w CA ccap c) (hT : TzTab w) :
    Calls Tryd.prog 3 #[.agg #[.int .i64 s.W, .int .i64 s.D, .int .i64 s.H, .slice A s.cells.length cap], .slice PA l.length pcap, .slice CA c.length ccap] w fun e w' => e = .returned (.bool true) ∧ Ext w w' := by
  have hn1 := hs.len
  have hn2 := hl.len
  have hn3 := hcs.len
  obtain ⟨W1, hW1, E1, B1, hz1⟩ := box_ w #[.int .i64 s.W, .int .i64 s.D, .int .i64 s.H, .slice A s.cells.length cap] 24
  have b1 := B1.cell
  obtain ⟨m, hm⟩ : ∃ m, muchB s.cells.length l.length c.length = m := ⟨_, rfl⟩
  have Hm := Lib.hid hm
  cases m
  · have hcl : c.length ≤ 30 ∧ l.length ≤ 20 := by
      unfold muchB at hm
      simp at hm
      omega
    obtain ⟨hcl, hll⟩ := hcl
    have hcl1 : c.length ≤ 1000 := by omega
    clear hm
    go_enter Tryd.func3, Tryd.ntmps3
    go_wp2_with fail
    refine (much_c _ _ _ _ _ _ _ _ _ _ _ _ hn1 hn2 hn3 _).mono ?_
    rintro e W2 ⟨rfl, E2⟩
    rw [Hm.out]
    have E := E1.trans E2
    have B := B1.ext E2
    clear b1 E1 E2 B1 hz1 hW1
    have b1 := B.cell
    go_wp2_with fail
    refine (hangsTop_c s A cap l PA pcap c CA ccap hcl1 _ (hs.ext E) (hl.ext E) (hcs.ext E) (hT.ext E)).mono ?_
    rintro e W3 ⟨rfl, E2⟩
    replace E := E.trans E2
    replace B := B.ext E2
    clear b1 E2
    have b1 := B.cell
    go_wp2_with fail
    refine (rHangs_c s A cap l PA pcap c CA ccap hcl1 _ (hs.ext E) (hl.ext E) (hcs.ext E) ).mono ?_
    rintro e W4 ⟨rfl, E2⟩
    replace E := E.trans E2
    replace B := B.ext E2
    clear b1 E2
    have b1 := B.cell
    go_wp2_with fail
    refine (weakTop_c s A cap l PA pcap c CA ccap hcl1 _ (hs.ext E) (hl.ext E) (hcs.ext E) (hT.ext E)).mono ?_
    rintro e W5 ⟨rfl, E2⟩
    replace E := E.trans E2
    replace B := B.ext E2
    clear b1 E2
    have b1 := B.cell
    go_wp2_with fail
    refine (rWeak_c s A cap l PA pcap c CA ccap hcl1 _ (hs.ext E) (hl.ext E) (hcs.ext E) ).mono ?_
    rintro e W6 ⟨rfl, E2⟩
    replace E := E.trans E2
    replace B := B.ext E2
    clear b1 E2
    have b1 := B.cell
    obtain ⟨e0, he0⟩ : ∃ e0, compErr s l c = e0 := ⟨_, rfl⟩
    obtain ⟨hg, hhg⟩ : ∃ hg, hangR s l c = hg := ⟨_, rfl⟩
    obtain ⟨wk, hwk⟩ : ∃ wk, weakR s l c = wk := ⟨_, rfl⟩
    obtain ⟨es, hes⟩ : ∃ es, shapeErr s = es := ⟨_, rfl⟩
    obtain ⟨ep, hep⟩ : ∃ ep, platesErr l = ep := ⟨_, rfl⟩
    rw [he0, hhg, hwk]
    have H1 := Lib.hid he0
    have H2 := Lib.hid hes
    have H3 := Lib.hid hep
    have k1 : ∀ W', Ext W6 W' → Calls Tryd.prog 18 #[.agg #[.int .i64 s.W, .int .i64 s.D, .int .i64 s.H, .slice A s.cells.length cap]] W' fun e w' => e = .returned (.int .i64 es) ∧ Ext W' w' := fun W' E' => by
      rw [← H2.out]
      exact checkShape_c A cap s.W s.D s.H s.cells W' (hs.ext (E.trans E'))
    have k2 : ∀ W', Ext W6 W' → Calls Tryd.prog 19 #[.agg #[.int .i64 s.W, .int .i64 s.D, .int .i64 s.H, .slice A s.cells.length cap]] W' fun e w' => e = .returned (.int .i64 es) ∧ Ext W' w' := fun W' E' => by
      rw [← H2.out]
      exact rCheckShape_c s A cap W' (hs.ext (E.trans E'))
    have k3 : ∀ W', Ext W6 W' → Calls Tryd.prog 20 #[.slice PA l.length pcap] W' fun e w' => e = .returned (.int .i64 ep) ∧ Ext W' w' := fun W' E' => by
      rw [← H3.out]
      exact checkPlates_c PA pcap l W' (hl.ext (E.trans E'))
    have k4 : ∀ W', Ext W6 W' → Calls Tryd.prog 21 #[.slice PA l.length pcap] W' fun e w' => e = .returned (.int .i64 ep) ∧ Ext W' w' := fun W' E' => by
      rw [← H3.out]
      exact rCheckPlates_c PA pcap l W' (hl.ext (E.trans E'))
    have k5 : ∀ W', Ext W6 W' → Calls Tryd.prog 22 #[.agg #[.int .i64 s.W, .int .i64 s.D, .int .i64 s.H, .slice A s.cells.length cap], .slice PA l.length pcap, .slice CA c.length ccap] W' fun e w' => e = .returned (.int .i64 e0) ∧ Ext W' w' := fun W' E' => by
      rw [← H1.out]
      exact check_c s A cap l PA pcap c CA ccap hcl1 W' (hs.ext (E.trans E')) (hl.ext (E.trans E')) (hcs.ext (E.trans E'))
    have k6 : ∀ W', Ext W6 W' → Calls Tryd.prog 23 #[.agg #[.int .i64 s.W, .int .i64 s.D, .int .i64 s.H, .slice A s.cells.length cap], .slice PA l.length pcap, .slice CA c.length ccap] W' fun e w' => e = .returned (.int .i64 e0) ∧ Ext W' w' := fun W' E' => by
      rw [← H1.out]
      exact rCheck_c s A cap l PA pcap c CA ccap hcl1 W' (hs.ext (E.trans E')) (hl.ext (E.trans E')) (hcs.ext (E.trans E'))
    have K1 := Lib.hid k1
    have K2 := Lib.hid k2
    have K3 := Lib.hid k3
    have K4 := Lib.hid k4
    have K5 := Lib.hid k5
    have K6 := Lib.hid k6
    clear k1 k2 k3 k4 k5 k6 he0 hhg hwk hes hep
    go_wp2_with fail
    refine wp_region_grow (by kernel_rfl) (by kernel_rfl) ?_
    repeat (go_big_quiet_step ((first | (go_at_call 18; exact quiet_ext (K1.out _ ((Ext.refl _).grow _))) | (go_at_call 19; exact quiet_ext (K2.out _ ((Ext.refl _).grow _))) | (go_at_call 20; exact quiet_ext (K3.out _ ((Ext.refl _).grow _))) | (go_at_call 21; exact quiet_ext (K4.out _ ((Ext.refl _).grow _))) | (go_at_call 22; exact quiet_ext (K5.out _ ((Ext.refl _).grow _))) | (go_at_call 23; exact quiet_ext (K6.out _ ((Ext.refl _).grow _))))))
    refine wpQuiet_nil ?_
    intro W7 hW7
    have E7 : Ext W6 W7 := by
      obtain ⟨x, rfl⟩ := hW7
      exact (Ext.refl _).grow x
    clear hW7
    obtain ⟨hcW7, hfW7, hzW7⟩ := ext_facts E7
    go_wp2_with fail
    go_ret
    exact ⟨by simp, E.trans E7⟩
  · clear hm
    go_enter Tryd.func3, Tryd.ntmps3
    go_wp2_with fail
    refine (much_c _ _ _ _ _ _ _ _ _ _ _ _ hn1 hn2 hn3 _).mono ?_
    rintro e W2 ⟨rfl, E2⟩
    rw [Hm.out]
    go_wp2_with fail
    go_ret
    exact ⟨rfl, E1.trans E2⟩
end Go.Proofs.YtpikemglnnjemaaDoor

namespace Go.Proofs.YtpikemglnnjemaaDoor
open Go.RowKit

def largeB (s : Shape) : Bool := decide (600 < s.cells.length) || (s.valid && decide (9 < fullN s.cells))
set_option maxRecDepth 100000 in
set_option maxHeartbeats 1600000 in
theorem large_c (s : Shape) (A : Option Addr) (cap : Nat) (w : World) (hs : Bytes w A cap s.cells) :
    Calls Tryd.prog 25 #[.agg #[.int .i64 s.W, .int .i64 s.D, .int .i64 s.H, .slice A s.cells.length cap]] w fun e w' => e = .returned (.bool (largeB s)) ∧ Ext w w' := by
  obtain ⟨W1, hW1, E1, B1, hz1⟩ := box_ w #[.int .i64 s.W, .int .i64 s.D, .int .i64 s.H, .slice A s.cells.length cap] 24
  have b1 := B1.cell
  have hlen := hs.len
  unfold maxLen at hlen
  obtain ⟨vv, hv⟩ : ∃ vv, s.valid = vv := ⟨_, rfl⟩
  obtain ⟨k, hk⟩ : ∃ k, fullN s.cells = k := ⟨_, rfl⟩
  have hkl : k ≤ s.cells.length := by rw [← hk]; exact fullN_le _
  have Hr : Hid (largeB s = (decide (600 < s.cells.length) || (vv && decide (9 < k)))) := Lib.hid (by unfold largeB; rw [hv, hk])
  have Hv := Lib.hid hv
  have Hk := Lib.hid hk
  by_cases hl : 600 < s.cells.length
  · have hr : largeB s = true := by rw [Hr.out]; simp [hl]
    have HR := Lib.hid hr
    clear hv hk hr
    go_enter Tryd.func25, Tryd.ntmps25
    go_wp2_with fail
    go_ret
    exact ⟨by rw [HR.out] <;> rfl, E1⟩
  · have hr : largeB s = (vv && decide (9 < k)) := by rw [Hr.out]; simp [hl]
    have HR := Lib.hid hr
    clear hv hk hr
    cases vv
    · go_enter Tryd.func25, Tryd.ntmps25
      go_wp2_with fail
      refine (validShape_c A cap s.W s.D s.H s.cells _ (hs.ext E1)).mono ?_
      rintro e w2 ⟨rfl, E2⟩
      rw [show Shape.valid ⟨s.W, s.D, s.H, s.cells⟩ = false from Hv.out]
      go_wp2_with fail
      go_ret
      exact ⟨by rw [HR.out] <;> simp <;> omega, E1.trans E2⟩
    · go_enter Tryd.func25, Tryd.ntmps25
      go_wp2_with fail
      refine (validShape_c A cap s.W s.D s.H s.cells _ (hs.ext E1)).mono ?_
      rintro e w2 ⟨rfl, E2⟩
      rw [show Shape.valid ⟨s.W, s.D, s.H, s.cells⟩ = true from Hv.out]
      have b2 := (B1.ext E2).cell
      clear b1
      go_wp2_with fail
      refine (rFull_c A cap s.W s.D s.H s.cells _ (hs.ext (E1.trans E2))).mono ?_
      rintro e w3 ⟨rfl, E3⟩
      rw [Hk.out]
      go_wp2_with fail
      go_ret
      refine ⟨?_, (E1.trans E2).trans E3⟩
      rw [HR.out]
      refine congrArg (fun b => Ending.returned (Value.bool b)) ?_
      show (decide (600 < (s.cells.length : Int)) || decide (9 < (k : Int))) = (true && decide (9 < k))
      rw [Bool.eq_iff_iff]
      simp only [Bool.or_eq_true, Bool.true_and, decide_eq_true_eq]
      omega
end Go.Proofs.YtpikemglnnjemaaDoor

namespace Go.Proofs.YtpikemglnnjemaaDoor
open Go.RowKit

/-- The same plates, perhaps more of them. -/
structure Wider (l l' : List Plate) : Prop where
  len : l'.length = l.length
  w : ∀ k, (plateAt l' k).W = (plateAt l k).W
  d : ∀ k, (plateAt l' k).D = (plateAt l k).D
  color : ∀ k, (plateAt l' k).color = (plateAt l k).color
  n : ∀ k, (plateAt l k).N ≤ (plateAt l' k).N
section
variable {s : Shape} {l l' : List Plate} (h : Wider l l')
include h
theorem Wider.sizeW (c : Laid) : sizeW l' c = sizeW l c := by unfold Go.Proofs.YtpikemglnnjemaaDoor.sizeW; rw [h.w, h.d]
theorem Wider.sizeD (c : Laid) : sizeD l' c = sizeD l c := by unfold Go.Proofs.YtpikemglnnjemaaDoor.sizeD; rw [h.w, h.d]
theorem Wider.has (c : Laid) (x y z : Int) : hasB l' c x y z = hasB l c x y z := by unfold hasB; rw [h.sizeW, h.sizeD]
theorem Wider.cover (c : Laid) : coverOf s l' c = coverOf s l c := by
  unfold coverOf layF layP
  rw [h.len, h.w, h.d, h.color]
theorem Wider.touch (a b : Laid) : touchB s l' a b = touchB s l a b := by
  have e : touchP s l' a b = touchP s l a b := by
    unfold touchP
    simp only [h.has]
  rw [Bool.eq_iff_iff, touchB_iff, touchB_iff, e]
theorem Wider.hang (c : List Laid) : hangB s l' c = hangB s l c := by
  have e : Tl s l' c = Tl s l c := by
    funext i j
    unfold Tl
    rw [h.touch]
  unfold hangB
  rw [e]
theorem Wider.run (c : List Laid) : ∀ (k : Nat) (st : List Nat × Nat), setRun s l c k = some st → setRun s l' c k = some st
  | 0, _, e => e
  | k + 1, st, e => by
    have e : (setRun s l c k).bind (setStep s l c k) = some st := e
    show (setRun s l' c k).bind (setStep s l' c k) = some st
    cases hr : setRun s l c k with
    | none =>
      rw [hr] at e
      cases e
    | some q =>
      rw [hr] at e
      rw [Wider.run c k q hr]
      have e : setStep s l c k q = some st := e
      show setStep s l' c k q = some st
      unfold setStep at e ⊢
      rw [h.cover]
      split
      · rename_i h1
        rw [if_pos h1] at e
        cases e
      · rename_i h1
        rw [if_neg h1] at e
        cases hc : coverOf s l (laidAt c k) with
        | none =>
          rw [hc] at e
          cases e
        | some m =>
          rw [hc] at e
          simp only at e ⊢
          split at e
          · cases e
          · rename_i h2
            rw [if_neg]
            · exact e
            · have := h.n (laidAt c k).plate.toNat
              omega
theorem Wider.mem (ok : s.Ok) (okl : platesB l = true) (okl' : platesB l' = true) {c : List Laid} {out : List Nat} (hm : (c, out) ∈ allComps s l) : (c, out) ∈ allComps s l' :=
  (mem_all ok okl').2 (h.run c _ _ ((mem_all ok okl).1 hm))
end
theorem nodup_le {α : Type} : ∀ (xs ys : List α), xs.Nodup → (∀ x ∈ xs, x ∈ ys) → xs.length ≤ ys.length
  | [], _, _, _ => Nat.zero_le _
  | x :: xs, ys, hn, hs => by
    obtain ⟨a1, bs, rfl⟩ := List.append_of_mem (hs x (by simp))
    have hn := List.nodup_cons.1 hn
    have := nodup_le xs (a1 ++ bs) hn.2 fun y hy => by
      have := hs y (by simp [hy])
      simp only [List.mem_append, List.mem_cons] at this ⊢
      rcases this with h | rfl | h
      · exact Or.inl h
      · exact absurd hy hn.1
      · exact Or.inr h
    simp only [List.length_append, List.length_cons] at this ⊢
    omega
theorem flatMap_le {α β : Type} (f : α → List β) (b : Nat) : ∀ xs : List α, (∀ x ∈ xs, (f x).length ≤ b) → (xs.flatMap f).length ≤ xs.length * b
  | [], _ => by simp
  | x :: xs, h => by
    rw [List.flatMap_cons, List.length_append, List.length_cons, Nat.succ_mul]
    have h1 := h x (by simp)
    have h2 := flatMap_le f b xs fun y hy => h y (by simp [hy])
    omega
theorem comps_le {s : Shape} {l : List Plate} (hl : l.length ≤ 8) : ∀ (f : Nat) (c : List Laid) (all : List Nat) (cov : Nat), (comps s l f c all cov).length ≤ 16 ^ f
  | 0, _, _, _ => by simp [comps]
  | f + 1, c, all, cov => by
    unfold comps
    split
    · simp only [List.length_cons, List.length_nil]
      exact Nat.one_le_pow _ _ (by omega)
    · refine Nat.le_trans (flatMap_le _ (16 ^ f) _ fun q _ => ?_) ?_
      · split
        · simp
        · exact comps_le hl f _ _ _
      · rw [sorts_len, Nat.pow_succ, Nat.mul_comm]
        exact Nat.mul_le_mul_left _ (by omega)
/-- No number of compositions of a small shape wraps round. -/
theorem count_is {s : Shape} {l : List Plate} (ha : askErr s l = 0) (hn : largeB s = false) : countI s l = ((allComps s l).length : Int) ∧ (allComps s l).length ≤ 2 ^ 40 := by
  obtain ⟨hv, okl⟩ := ask_ok ha
  have hf : fullN s.cells ≤ 9 := by
    unfold largeB at hn
    rw [hv] at hn
    simp at hn
    omega
  have hl : l.length ≤ 8 := by
    unfold platesB at okl
    rw [Bool.and_eq_true, inB_iff] at okl
    omega
  have hle : (allComps s l).length ≤ 2 ^ 40 := by
    refine Nat.le_trans (comps_le hl _ _ _ _) ?_
    have : (16 : Nat) ^ (fullN s.cells + 1) ≤ 16 ^ 10 := Nat.pow_le_pow_right (by omega) (by omega)
    omega
  refine ⟨?_, hle⟩
  unfold countI
  rw [if_pos ha]
  unfold wrap64
  omega
theorem wider_count {s : Shape} {l l' : List Plate} (h : Wider l l') (ha : askErr s l = 0) (ha' : askErr s l' = 0) (hn : largeB s = false) : countI s l ≤ countI s l' := by
  obtain ⟨hv, okl⟩ := ask_ok ha
  have okl' := (ask_ok ha').2
  rw [(count_is ha hn).1, (count_is ha' hn).1]
  have := nodup_le (allComps s l) (allComps s l') (all_nodup s l) fun p hp => h.mem (Shape.ok_of hv) okl okl' (c := p.1) (out := p.2) hp
  omega
theorem wider_best {s : Shape} {l l' : List Plate} (h : Wider l l') (ha : askErr s l = 0) (ha' : askErr s l' = 0) (he : composeE s l = 0) : composeE s l' = 0 ∧ compErr s l (composeL s l) = 0 ∧ compErr s l' (composeL s l') = 0 ∧
    (composeL s l').length ≤ (composeL s l).length ∧ ((composeL s l').length = (composeL s l).length → weakR s l' (composeL s l') ≤ weakR s l (composeL s l)) := by
  obtain ⟨hv, okl⟩ := ask_ok ha
  have okl' := (ask_ok ha').2
  have ok := Shape.ok_of hv
  obtain ⟨b1, b2, _⟩ := compose_best he
  obtain ⟨out, hm⟩ := (mem_all_comp ok okl).2 (comp_all b1).2.2
  have hm' := h.mem ok okl okl' hm
  obtain ⟨m1, m2, m3⟩ := comp_mem hv okl hm
  obtain ⟨n1, n2, n3⟩ := comp_mem hv okl' hm'
  have hh : hangR s l' (composeL s l) = true := by rw [n2, h.hang, ← m2, b2]
  have he' : composeE s l' = 0 := by
    apply Classical.byContradiction
    intro hne
    by_cases h6 : composeE s l' = 6
    · rw [(compose_six h6).2] at hh
      cases hh
    · have := compose_bad hne h6 (composeL s l)
      rw [n1] at this
      exact hne this.symm
  obtain ⟨c1, _, c3⟩ := compose_best he'
  obtain ⟨k1, k2⟩ := c3 _ hh
  refine ⟨he', b1, c1, k1, fun e => ?_⟩
  have := (k2 e).1
  rw [n3] at this
  rw [m3]
  exact this
end Go.Proofs.YtpikemglnnjemaaDoor

namespace Go.Proofs.YtpikemglnnjemaaDoor
open Go.RowKit

/-- A row that has just been laid. -/
theorem blk_slice {w : World} {g : Nat} {t : TypeId} {cs : Array Value} (h : Blk w g t cs) {rows : List (List Value)} {n sz : Nat} (hf : rows.flatten = cs.toList) (hw : ∀ r ∈ rows, r.length = sz) (hn : rows.length = n) (hm : n ≤ maxLen) : SliceIs w (some ⟨g, 0, none⟩) n n sz rows := by
  refine ⟨hn, Nat.le_refl _, hm, hw, fun _ => ⟨g, 0, rfl, h.lt, fun i r hr j u hu => ?_⟩⟩
  have hj : j < sz := by
    rw [← hw r (List.mem_of_getElem? hr)]
    exact (List.getElem?_eq_some_iff.1 hu).1
  have := flat_get hw hr hj
  rw [hf, hu] at this
  rw [Nat.zero_add, h.cell, ← Array.getElem?_toList]
  exact this
set_option maxHeartbeats 800000 in
theorem at7_c (i x y z : Int) (t : Bool) (w : World) : Calls Tryd.prog 46 #[.int .i64 i, .int .i64 x, .int .i64 y, .int .i64 z, .bool t] w fun e w' => e = .returned (.agg #[.int .i64 i, .int .i64 x, .int .i64 y, .int .i64 z, .bool t]) ∧ Ext w w' := by
  go_enter Tryd.func46, Tryd.ntmps46
  go_wp2_with fail
  refine bodyPost_ret (by simp [results, Tryd.results46, go_sem]; try rfl) rfl ?_
  exact ⟨rfl, ext_alloc _ _⟩
set_option maxHeartbeats 800000 in
theorem two_c (a b : Int) (w : World) : Calls Tryd.prog 30 #[.int .i64 a, .int .i64 b] w fun e w' => ∃ g, e = .returned (.slice (some ⟨g, 0, none⟩) 2 2) ∧ Plates w' (some ⟨g, 0, none⟩) 2 [⟨1, 1, a, 0⟩, ⟨1, 2, b, 0⟩] ∧ Ext w w' := by
  have B := Blk.new w #[.int .i64 1, .int .i64 1, .int .i64 a, .int .u8 0, .int .i64 1, .int .i64 2, .int .i64 b, .int .u8 0] 51
  go_enter Tryd.func30, Tryd.ntmps30
  go_wp2_with fail
  go_ret
  exact ⟨_, rfl, blk_slice B rfl (by simp [Plate.cells]) rfl (by show 2 ≤ maxLen; decide), ext_alloc _ _⟩
set_option maxHeartbeats 800000 in
theorem four_c (w : World) : Calls Tryd.prog 47 #[] w fun e w' => ∃ g, e = .returned (.agg #[.int .i64 2, .int .i64 1, .int .i64 2, .slice (some ⟨g, 0, none⟩) 4 4]) ∧ Bytes w' (some ⟨g, 0, none⟩) 4 [3, 3, 3, 3] ∧ Ext w w' := by
  go_enter Tryd.func47, Tryd.ntmps47
  go_wp2_with fail
  refine bodyPost_ret (by simp [results, Tryd.results47, go_sem]; try rfl) rfl ?_
  refine ⟨_, rfl, ⟨blk_slice (t := 5) (cs := #[.int .u8 3, .int .u8 3, .int .u8 3, .int .u8 3]) ?_ rfl (by simp) rfl (by decide), ?_⟩, ?_⟩
  · have hz : (w.alloc (.cells #[.int .i64 2, .int .i64 1, .int .i64 2, .slice (some ⟨w.heap.size + 1, 0, none⟩) 4 4] 24)).heap.size = w.heap.size + 1 := by rw [World.size_alloc]
    have h := Blk.new (w.alloc (.cells #[.int .i64 2, .int .i64 1, .int .i64 2, .slice (some ⟨w.heap.size + 1, 0, none⟩) 4 4] 24)) #[.int .u8 3, .int .u8 3, .int .u8 3, .int .u8 3] 5
    rw [hz] at h
    exact h
  · intro c hc
    simp at hc
    subst hc
    exact ⟨by omega, by omega⟩
  · exact (ext_alloc _ _).trans (ext_alloc _ _)
end Go.Proofs.YtpikemglnnjemaaDoor

namespace Go.Proofs.YtpikemglnnjemaaDoor
open Go.RowKit

theorem laid_same (a b c d : Int) (t : Bool) (w : World) : (binOp .neq 85 (.agg #[.int .i64 a, .int .i64 b, .int .i64 c, .int .i64 d, .bool t]) (.agg #[.int .i64 a, .int .i64 b, .int .i64 c, .int .i64 d, .bool t])).run Tryd.prog w = .ok (.bool false) w := by
  simp [go_sem]

set_option maxRecDepth 100000 in
set_option maxHeartbeats 1600000 in
theorem sameLaid_c (A1 A2 : Option Addr) (n c1 c2 : Nat) (c : List Laid) (hcn : c.length = n) (w : World) (h1 : Laids w A1 c1 c) (h2 : Laids w A2 c2 c) :
    Calls Tryd.prog 39 #[.slice A1 n c1, .slice A2 n c2] w fun e w' => e = .returned (.bool true) ∧ Ext w w' := by
  have hn : n ≤ maxLen := by rw [← hcn]; exact Nat.le_trans h1.le h1.small
  unfold maxLen at hn
  go_enter Tryd.func39, Tryd.ntmps39
  go_wp2_with fail
  go_loopw [5] (fun i wr => ∃ k : Nat, k ≤ n ∧ i = .int .i64 k ∧ Ext w wr) (fun i _ => n - (intOf i).toNat)
  case atStart => exact ⟨0, by omega, rfl, Ext.refl _⟩
  case round =>
    obtain ⟨k, hk, rfl, E⟩ := hrel
    by_cases hlt : k < n
    · have hk2 : k < c.length := by omega
      have hg : (c.map Laid.cells)[k]? = some c[k].cells := by rw [List.getElem?_map, List.getElem?_eq_getElem hk2]; rfl
      obtain ⟨⟨a, x, y, z, t⟩, hx⟩ : ∃ x, c[k] = x := ⟨_, rfl⟩
      rw [hx] at hg
      clear hx
      obtain ⟨p, poff, rfl, hp, hpc⟩ := h1.cells (by omega)
      obtain ⟨q, qoff, rfl, hq, hqc⟩ := h2.cells (by omega)
      have p0 := E.cell (hpc k _ hg 0 _ rfl)
      have p1 := E.cell (hpc k _ hg 1 _ rfl)
      have p2 := E.cell (hpc k _ hg 2 _ rfl)
      have p3 := E.cell (hpc k _ hg 3 _ rfl)
      have p4 := E.cell (hpc k _ hg 4 _ rfl)
      have q0 := E.cell (hqc k _ hg 0 _ rfl)
      have q1 := E.cell (hqc k _ hg 1 _ rfl)
      have q2 := E.cell (hqc k _ hg 2 _ rfl)
      have q3 := E.cell (hqc k _ hg 3 _ rfl)
      have q4 := E.cell (hqc k _ hg 4 _ rfl)
      simp only [Nat.add_zero] at p0 q0 p1 p2 p3 p4 q1 q2 q3 q4
      have hpr : p < wr.heap.size := Nat.lt_of_lt_of_le hp E.size
      have hqr : q < wr.heap.size := Nat.lt_of_lt_of_le hq E.size
      have hsame := laid_same a x y z t
      clear hpc hqc hg hcn
      go_wp2_with fail
      refine wp_region_grow (by kernel_rfl) (by kernel_rfl) ?_
      repeat (go_big_quiet_step (fail))
      refine wpQuiet_nil ?_
      intro W3 hW3
      have E3 : Ext wr W3 := by
        obtain ⟨x, rfl⟩ := hW3
        exact (Ext.refl _).grow x
      clear hW3
      obtain ⟨hcW3, hfW3, hzW3⟩ := ext_facts E3
      go_wp2_with fail
      go_roundw
      case rel => exact ⟨k + 1, by omega, by go_num, E.trans E3⟩
      case measure => simp only [intOf]; omega
    · obtain rfl : k = n := by omega
      go_wp2_with fail
      go_ret
      exact ⟨rfl, E⟩
end Go.Proofs.YtpikemglnnjemaaDoor

namespace Go.Proofs.YtpikemglnnjemaaDoor
open Go.RowKit

theorem four_compose : composeE fourS (twoL 9 9) = 0 ∧ composeL fourS (twoL 9 9) = best99 := by
  have h : askErr fourS (twoL 9 9) = 0 := by decide +kernel
  unfold composeE composeL
  rw [h, four_best]
  exact ⟨rfl, rfl⟩
theorem four_compose1 : composeE fourS (twoL 9 1) = 0 ∧ composeL fourS (twoL 9 1) = best91 := by
  have h : askErr fourS (twoL 9 1) = 0 := by decide +kernel
  unfold composeE composeL
  rw [h, four_best1]
  exact ⟨rfl, rfl⟩
theorem pair_compose : composeE pairS (twoL 9 9) = 6 ∧ composeL pairS (twoL 9 9) = [] := by
  have h : askErr pairS (twoL 9 9) = 0 := by decide +kernel
  unfold composeE composeL
  rw [h, pair_best]
  exact ⟨rfl, rfl⟩
theorem four_countI : countI fourS (twoL 9 9) = 4 ∧ askErr fourS (twoL 9 9) = 0 := by decide +kernel
set_option maxRecDepth 100000 in
set_option maxHeartbeats 8000000 in
theorem alive_c (w : World) (hT : TzTab w) : Calls Tryd.prog 24 #[] w fun e w' => e = .returned (.bool true) ∧ Ext w w' := by
  go_enter Tryd.func24, Tryd.ntmps24
  go_wp2_with fail
  refine (four_c _).mono ?_
  rintro e w1 ⟨g1, rfl, hs1, E1⟩
  go_wp2_with fail
  refine (two_c 9 9 _).mono ?_
  rintro e w2 ⟨p2, rfl, hl2, E2⟩
  go_wp2_with fail
  have E := E1.trans E2
  refine (count_c fourS (some ⟨g1, 0, none⟩) 4 (twoL 9 9) (some ⟨p2, 0, none⟩) 2 _ (hs1.ext E2) hl2 (hT.ext E)).mono ?_
  rintro e w3 ⟨rfl, E3⟩
  rw [four_countI.1, four_countI.2]
  replace E := E.trans E3
  clear E1 E2 E3
  go_wp2_with fail
  refine (four_c _).mono ?_
  rintro e w4 ⟨g4, rfl, hs4, E4⟩
  go_wp2_with fail
  refine (two_c 9 9 _).mono ?_
  rintro e w5 ⟨p5, rfl, hl5, E5⟩
  replace E := (E.trans E4).trans E5
  go_wp2_with fail
  refine (compose_c fourS (some ⟨g4, 0, none⟩) 4 (twoL 9 9) (some ⟨p5, 0, none⟩) 2 _ (hs4.ext E5) hl5 (hT.ext E)).mono ?_
  rintro e w6 ⟨C6, cc6, rfl, hc6, -, E6⟩
  rw [four_compose.2] at hc6
  rw [four_compose.1, four_compose.2, show best99.length = 2 from rfl]
  replace E := E.trans E6
  clear E4 E5 E6 hs1 hl2 hs4 hl5
  go_wp2_with fail
  refine (four_c _).mono ?_
  rintro e w7 ⟨g7, rfl, hs7, E7⟩
  go_wp2_with fail
  refine (two_c 9 1 _).mono ?_
  rintro e w8 ⟨p8, rfl, hl8, E8⟩
  replace E := (E.trans E7).trans E8
  replace hc6 := hc6.ext (E7.trans E8)
  go_wp2_with fail
  refine (compose_c fourS (some ⟨g7, 0, none⟩) 4 (twoL 9 1) (some ⟨p8, 0, none⟩) 2 _ (hs7.ext E8) hl8 (hT.ext E)).mono ?_
  rintro e w9 ⟨C9, cc9, rfl, hc9, -, E9⟩
  rw [four_compose1.2] at hc9
  rw [four_compose1.1, four_compose1.2, show best91.length = 3 from rfl]
  replace E := E.trans E9
  replace hc6 := hc6.ext E9
  clear E7 E8 E9 hs7 hl8
  go_wp2_with fail
  refine (four_c _).mono ?_
  rintro e w10 ⟨g10, rfl, hs10, E10⟩
  go_wp2_with fail
  refine (two_c 9 9 _).mono ?_
  rintro e w11 ⟨p11, rfl, hl11, E11⟩
  replace E := (E.trans E10).trans E11
  replace hc6 := hc6.ext (E10.trans E11)
  replace hc9 := hc9.ext (E10.trans E11)
  replace hs10 := hs10.ext E11
  clear E10 E11
  go_wp2_with fail
  refine (at7_c _ _ _ _ _ _).mono ?_
  rintro e w12 ⟨rfl, E0⟩
  replace E := E.trans E0
  replace hc6 := hc6.ext E0
  replace hc9 := hc9.ext E0
  replace hs10 := hs10.ext E0
  replace hl11 := hl11.ext E0
  clear E0
  go_wp2_with fail
  refine (at7_c _ _ _ _ _ _).mono ?_
  rintro e w13 ⟨rfl, E0⟩
  replace E := E.trans E0
  replace hc6 := hc6.ext E0
  replace hc9 := hc9.ext E0
  replace hs10 := hs10.ext E0
  replace hl11 := hl11.ext E0
  clear E0
  go_wp2_with fail
  refine (at7_c _ _ _ _ _ _).mono ?_
  rintro e w14 ⟨rfl, E0⟩
  replace E := E.trans E0
  replace hc6 := hc6.ext E0
  replace hc9 := hc9.ext E0
  replace hs10 := hs10.ext E0
  replace hl11 := hl11.ext E0
  clear E0
  go_wp2_with fail
  refine (at7_c _ _ _ _ _ _).mono ?_
  rintro e w15 ⟨rfl, E0⟩
  replace E := E.trans E0
  replace hc6 := hc6.ext E0
  replace hc9 := hc9.ext E0
  replace hs10 := hs10.ext E0
  replace hl11 := hl11.ext E0
  clear E0
  have B16 := Blk.new w15 #[.int .i64 0, .int .i64 0, .int .i64 0, .int .i64 0, .bool false, .int .i64 0, .int .i64 1, .int .i64 0, .int .i64 0, .bool false, .int .i64 0, .int .i64 0, .int .i64 0, .int .i64 1, .bool false, .int .i64 0, .int .i64 1, .int .i64 0, .int .i64 1, .bool false] 85
  have E16 := ext_alloc w15 (.cells #[.int .i64 0, .int .i64 0, .int .i64 0, .int .i64 0, .bool false, .int .i64 0, .int .i64 1, .int .i64 0, .int .i64 0, .bool false, .int .i64 0, .int .i64 0, .int .i64 0, .int .i64 1, .bool false, .int .i64 0, .int .i64 1, .int .i64 0, .int .i64 1, .bool false] 85)
  have h16 : Laids _ (some ⟨w15.heap.size, 0, none⟩) 4 four4 := blk_slice B16 rfl (by decide +kernel) rfl (by show 4 ≤ maxLen; decide)
  replace E := E.trans E16
  replace hc6 := hc6.ext E16
  replace hc9 := hc9.ext E16
  go_wp2_with fail
  refine (weakTop_c fourS (some ⟨g10, 0, none⟩) 4 (twoL 9 9) (some ⟨p11, 0, none⟩) 2 four4 (some ⟨w15.heap.size, 0, none⟩) 4 (by decide) _ (hs10.ext E16) (hl11.ext E16) h16 (hT.ext E)).mono ?_
  rintro e w17 ⟨rfl, E17⟩
  rw [four_weak.1, four_weak.2]
  replace E := E.trans E17
  replace hc6 := hc6.ext E17
  replace hc9 := hc9.ext E17
  clear E16 E17 h16 B16 hs10 hl11
  have B17 := Blk.new w17 #[.int .u8 1, .int .u8 2] 5
  have E17 := ext_alloc w17 (.cells #[.int .u8 1, .int .u8 2] 5)
  have hs17 : Bytes _ (some ⟨w17.heap.size, 0, none⟩) 2 [1, 2] := ⟨blk_slice B17 rfl (by simp) rfl (by show 2 ≤ maxLen; decide), fun c hc => by
    simp only [List.mem_cons, List.not_mem_nil, or_false] at hc
    unfold byteOk
    omega⟩
  go_wp2_with fail
  refine (two_c 9 9 _).mono ?_
  rintro e w18 ⟨p18, rfl, hl18, E18⟩
  replace E := (E.trans E17).trans E18
  replace hc6 := hc6.ext (E17.trans E18)
  replace hc9 := hc9.ext (E17.trans E18)
  go_wp2_with fail
  refine (compose_c pairS (some ⟨w17.heap.size, 0, none⟩) 2 (twoL 9 9) (some ⟨p18, 0, none⟩) 2 _ (hs17.ext E18) hl18 (hT.ext E)).mono ?_
  rintro e w19 ⟨C19, cc19, rfl, -, -, E19⟩
  rw [pair_compose.1, pair_compose.2]
  replace E := E.trans E19
  replace hc6 := hc6.ext E19
  replace hc9 := hc9.ext E19
  clear E17 E18 E19 B17 hs17 hl18
  go_wp2_with fail
  refine (at7_c _ _ _ _ _ _).mono ?_
  rintro e w20 ⟨rfl, E0⟩
  replace E := E.trans E0
  replace hc6 := hc6.ext E0
  replace hc9 := hc9.ext E0
  clear E0
  go_wp2_with fail
  refine (at7_c _ _ _ _ _ _).mono ?_
  rintro e w21 ⟨rfl, E0⟩
  replace E := E.trans E0
  replace hc6 := hc6.ext E0
  replace hc9 := hc9.ext E0
  clear E0
  have B22 := Blk.new w21 #[.int .i64 1, .int .i64 0, .int .i64 0, .int .i64 0, .bool true, .int .i64 1, .int .i64 0, .int .i64 0, .int .i64 1, .bool true] 85
  have E22 := ext_alloc w21 (.cells #[.int .i64 1, .int .i64 0, .int .i64 0, .int .i64 0, .bool true, .int .i64 1, .int .i64 0, .int .i64 0, .int .i64 1, .bool true] 85)
  have h22 : Laids _ (some ⟨w21.heap.size, 0, none⟩) 2 best99 := blk_slice B22 rfl (by decide +kernel) rfl (by show 2 ≤ maxLen; decide)
  replace E := E.trans E22
  replace hc6 := hc6.ext E22
  replace hc9 := hc9.ext E22
  go_wp2_with fail
  refine (sameLaid_c C6 (some ⟨w21.heap.size, 0, none⟩) 2 cc6 2 best99 rfl _ hc6 h22).mono ?_
  rintro e w23 ⟨rfl, E23⟩
  replace E := E.trans E23
  replace hc9 := hc9.ext E23
  clear hc6 h22 E22 E23 B22
  go_wp2_with fail
  refine (at7_c _ _ _ _ _ _).mono ?_
  rintro e w24 ⟨rfl, E0⟩
  replace E := E.trans E0
  replace hc9 := hc9.ext E0
  clear E0
  go_wp2_with fail
  refine (at7_c _ _ _ _ _ _).mono ?_
  rintro e w25 ⟨rfl, E0⟩
  replace E := E.trans E0
  replace hc9 := hc9.ext E0
  clear E0
  go_wp2_with fail
  refine (at7_c _ _ _ _ _ _).mono ?_
  rintro e w26 ⟨rfl, E0⟩
  replace E := E.trans E0
  replace hc9 := hc9.ext E0
  clear E0
  have B27 := Blk.new w26 #[.int .i64 0, .int .i64 0, .int .i64 0, .int .i64 0, .bool false, .int .i64 0, .int .i64 1, .int .i64 0, .int .i64 0, .bool false, .int .i64 1, .int .i64 0, .int .i64 0, .int .i64 1, .bool true] 85
  have E27 := ext_alloc w26 (.cells #[.int .i64 0, .int .i64 0, .int .i64 0, .int .i64 0, .bool false, .int .i64 0, .int .i64 1, .int .i64 0, .int .i64 0, .bool false, .int .i64 1, .int .i64 0, .int .i64 0, .int .i64 1, .bool true] 85)
  have h27 : Laids _ (some ⟨w26.heap.size, 0, none⟩) 3 best91 := blk_slice B27 rfl (by decide +kernel) rfl (by show 3 ≤ maxLen; decide)
  replace E := E.trans E27
  replace hc9 := hc9.ext E27
  go_wp2_with fail
  refine (sameLaid_c C9 (some ⟨w26.heap.size, 0, none⟩) 3 cc9 3 best91 rfl _ hc9 h27).mono ?_
  rintro e w28 ⟨rfl, E28⟩
  replace E := E.trans E28
  go_wp2_with fail
  go_ret
  exact ⟨rfl, E⟩
end Go.Proofs.YtpikemglnnjemaaDoor

namespace Go.Proofs.YtpikemglnnjemaaDoor
open Go.RowKit

theorem infoPlate : (Tryd.prog.info? 51).map (fun i => (i.zero, i.size, i.bytes)) = some (some (.agg #[.int .i64 0, .int .i64 0, .int .i64 0, .int .u8 0]), 4, 32) := by kernel_rfl
theorem SliceIs.set_ {w : World} {g : Nat} {t : TypeId} {cs : Array Value} {n cap sz : Nat} {rows : List (List Value)} (h : SliceIs w (some ⟨g, 0, none⟩) n cap sz rows) (hB : Blk w g t cs) {i j : Nat} {r : List Value} (hr : rows[i]? = some r) (hj : j < sz) (u : Value) :
    SliceIs (w.setCell ⟨g, i * sz + j, none⟩ u) (some ⟨g, 0, none⟩) n cap sz (rows.set i (r.set j u)) := by
  have hB' := hB.set_ (i * sz + j) u
  refine ⟨by rw [List.length_set]; exact h.len, h.le, h.small, fun q hq => ?_, fun hn => ⟨g, 0, rfl, hB'.lt, fun i' r' hr' j' u' hu' => ?_⟩⟩
  · rcases List.mem_or_eq_of_mem_set hq with h' | rfl
    · exact h.wide q h'
    · rw [List.length_set]
      exact h.wide r (List.mem_of_getElem? hr)
  · obtain ⟨b, off, hA, _, hc⟩ := h.cells hn
    cases hA
    rw [Nat.zero_add, hB'.cell]
    have hlt : i < rows.length := (List.getElem?_eq_some_iff.1 hr).1
    have hold : ∀ {i' : Nat} {r' : List Value}, rows[i']? = some r' → ∀ {j' : Nat} {u' : Value}, r'[j']? = some u' → cs[i' * sz + j']? = some u' := fun {i'} {r'} hr' {j'} {u'} hu' => by
      have := hc i' r' hr' j' u' hu'
      rw [Nat.zero_add, hB.cell] at this
      exact this
    have hwr := h.wide r (List.mem_of_getElem? hr)
    rw [List.getElem?_set] at hr'
    by_cases hi : i = i'
    · subst hi
      rw [if_pos rfl, if_pos hlt] at hr'
      cases hr'
      rw [List.getElem?_set] at hu'
      by_cases hjj : j = j'
      · subst hjj
        rw [if_pos rfl, if_pos (by omega)] at hu'
        cases hu'
        have hz := hold hr (List.getElem?_eq_getElem (show j < r.length by omega))
        have hin := (Array.getElem?_eq_some_iff.1 hz).1
        simp [hin]
      · rw [if_neg hjj] at hu'
        rw [Array.getElem?_setIfInBounds, if_neg (by omega)]
        exact hold hr hu'
    · rw [if_neg hi] at hr'
      have hw' := h.wide r' (List.mem_of_getElem? hr')
      have hj' : j' < sz := by rw [← hw']; exact (List.getElem?_eq_some_iff.1 hu').1
      rw [Array.getElem?_setIfInBounds, if_neg]
      · exact hold hr' hu'
      · intro e
        rcases Nat.lt_or_gt_of_ne hi with h1 | h1
        · have : (i + 1) * sz ≤ i' * sz := Nat.mul_le_mul_right _ h1
          rw [Nat.succ_mul] at this
          omega
        · have : (i' + 1) * sz ≤ i * sz := Nat.mul_le_mul_right _ h1
          rw [Nat.succ_mul] at this
          omega
def oneMore (l : List Plate) (k : Nat) (v : Int) : List Plate := l.set k ⟨(plateAt l k).W, (plateAt l k).D, v, (plateAt l k).color⟩
theorem more_at {l : List Plate} {k : Nat} (hk : k < l.length) (v : Int) (j : Nat) : plateAt (oneMore l k v) j = if k = j then ⟨(plateAt l k).W, (plateAt l k).D, v, (plateAt l k).color⟩ else plateAt l j := by
  unfold oneMore
  conv => lhs; unfold plateAt
  rw [List.getD_eq_getElem?_getD, List.getElem?_set]
  by_cases h : k = j
  · subst h
    rw [if_pos rfl, if_pos hk, if_pos rfl]
    rfl
  · rw [if_neg h, if_neg h, ← List.getD_eq_getElem?_getD]
    rfl
theorem more_wider {l : List Plate} {k : Nat} {v : Int} (hk : k < l.length) (hv : (plateAt l k).N ≤ v) : Wider l (oneMore l k v) := by
  refine ⟨by unfold oneMore; rw [List.length_set], fun j => ?_, fun j => ?_, fun j => ?_, fun j => ?_⟩ <;> rw [more_at hk] <;> split <;> (try subst_vars) <;> first | rfl | exact hv | exact Int.le_refl _
theorem plate_n {l : List Plate} {k : Nat} (hk : k < l.length) (okl : platesB l = true) : 0 ≤ (plateAt l k).N := by
  unfold platesB at okl
  rw [Bool.and_eq_true, List.all_eq_true] at okl
  have := okl.2 k (List.mem_range.2 hk)
  unfold okAt Plate.one at this
  simp only [Bool.and_eq_true, decide_eq_true_eq, inB_iff] at this
  exact this.1.2.2.1.1
theorem more_ok {l : List Plate} {k : Nat} {v : Int} (hk : k < l.length) (okl : platesB l = true) (h0 : 0 ≤ v) (h99 : v ≤ 99) : platesB (oneMore l k v) = true := by
  have hlen : (oneMore l k v).length = l.length := by unfold oneMore; rw [List.length_set]
  have hw : ∀ j, (plateAt (oneMore l k v) j).W = (plateAt l j).W ∧ (plateAt (oneMore l k v) j).D = (plateAt l j).D ∧ (plateAt (oneMore l k v) j).color = (plateAt l j).color ∧ ((plateAt (oneMore l k v) j).N = (plateAt l j).N ∨ (plateAt (oneMore l k v) j).N = v) := fun j => by
    rw [more_at hk]
    split
    · subst_vars
      exact ⟨rfl, rfl, rfl, Or.inr rfl⟩
    · exact ⟨rfl, rfl, rfl, Or.inl rfl⟩
  unfold platesB at okl ⊢
  rw [Bool.and_eq_true, List.all_eq_true] at okl ⊢
  rw [hlen]
  refine ⟨okl.1, fun j hj => ?_⟩
  have := okl.2 j hj
  unfold okAt pairB Plate.one at this ⊢
  rw [(hw j).1, (hw j).2.1, (hw j).2.2.1, (hw (j - 1)).1, (hw (j - 1)).2.1, (hw (j - 1)).2.2.1]
  simp only [Bool.and_eq_true, Bool.or_eq_true, decide_eq_true_eq, inB_iff] at this ⊢
  refine ⟨⟨this.1.1, this.1.2.1, ⟨?_, this.1.2.2.2⟩⟩, this.2⟩
  rcases (hw j).2.2.2 with h | h
  · rw [h]
    exact this.1.2.2.1
  · rw [h]
    exact ⟨h0, h99⟩
end Go.Proofs.YtpikemglnnjemaaDoor

namespace Go.Proofs.YtpikemglnnjemaaDoor
open Go.RowKit

theorem plate_one {l : List Plate} : ∀ u ∈ (l.map Plate.cells).flatten, u.oneCell' = true := by
  intro u hu
  rw [List.mem_flatten] at hu
  obtain ⟨r, hr, hu⟩ := hu
  obtain ⟨x, _, rfl⟩ := List.mem_map.1 hr
  unfold Plate.cells at hu
  simp only [List.mem_cons, List.not_mem_nil, or_false] at hu
  rcases hu with rfl | rfl | rfl | rfl <;> rfl
/-- The new row, as it reads. -/
theorem more_rows {w : World} {base g cap : Nat} {l : List Plate} {xs : List Value} {pw pd pn pc : Int} (k : Nat) (hk : k < l.length) (hxs : (l.map Plate.cells).flatten = xs) (hg : (l.map Plate.cells)[k]? = some (Plate.cells ⟨pw, pd, pn, pc⟩)) (own : w.ownsRow base 51 4 (.slice (some ⟨g, 0, none⟩) (0 + l.length) cap) (0 + l.length) ([] ++ xs)) :
    Plates w (some ⟨g, 0, none⟩) cap l ∧ ∃ cs, Blk w g 51 cs ∧ base ≤ g ∧ w.cell? ⟨g, k * 4 + 2, none⟩ = some (.int .i64 pn) := by
  have hlt := own.lt g rfl
  rw [Nat.zero_add, List.nil_append, ← hxs] at own
  have h := own_any (rows := l.map Plate.cells) (by decide) (fun r hr => by
    obtain ⟨x, _, rfl⟩ := List.mem_map.1 hr
    rfl) (by rw [List.length_map]) own
  obtain ⟨cs, hB⟩ := own_typed own rfl
  refine ⟨h, cs, hB, by have := hlt; omega, ?_⟩
  obtain ⟨b, off, hA, _, hc⟩ := h.cells (by omega)
  cases hA
  have := hc k _ hg 2 _ rfl
  rw [Nat.zero_add] at this
  exact this
theorem more_set {w0 w : World} {g cap k : Nat} {l : List Plate} {t : TypeId} {cs : Array Value} {pw pd pn pc : Int} (v : Int) (h : Plates w (some ⟨g, 0, none⟩) cap l) (hB : Blk w g t cs) (_hk : k < l.length) (hg : (l.map Plate.cells)[k]? = some (Plate.cells ⟨pw, pd, pn, pc⟩)) (hp : plateAt l k = ⟨pw, pd, pn, pc⟩) (hb : w0.heap.size ≤ g) (E : Ext w0 w) :
    ∃ w', w.setCell ⟨g, k * 4 + 2, none⟩ (.int .i64 v) = w' ∧ SliceIs w' (some ⟨g, 0, none⟩) l.length cap 4 ((oneMore l k v).map Plate.cells) ∧ Ext w0 w' := by
  refine ⟨_, rfl, ?_, E.setCell (p := ⟨g, k * 4 + 2, none⟩) hb _⟩
  have := SliceIs.set_ h hB hg (j := 2) (by decide) (.int .i64 v)
  have e : (oneMore l k v).map Plate.cells = (l.map Plate.cells).set k ((Plate.cells ⟨pw, pd, pn, pc⟩).set 2 (.int .i64 v)) := by
    unfold oneMore
    rw [hp, List.map_set]
    rfl
  rw [e]
  exact this
theorem more_new {w W3 w4 : World} {q k g cap : Nat} {t0 : TypeId} {c0 : Array Value} {l : List Plate} {xs : List Value} {pw pd pn pc : Int} (hk : k < l.length) (hxs : (l.map Plate.cells).flatten = xs) (hg : (l.map Plate.cells)[k]? = some (Plate.cells ⟨pw, pd, pn, pc⟩)) (hp : plateAt l k = ⟨pw, pd, pn, pc⟩)
    (own : w4.ownsRow W3.heap.size 51 4 (.slice (some ⟨g, 0, none⟩) (0 + l.length) cap) (0 + l.length) ([] ++ xs)) (E : Ext w W3) (B : Blk W3 q t0 c0) (E34 : Ext W3 w4) :
    ∃ v5 w5, wrap64 (pn + 1) = v5 ∧ w4.cell? ⟨g, k * 4 + 2, none⟩ = some (.int .i64 pn) ∧ (∀ i, w4.frozen? ⟨g, i, none⟩ = false) ∧ g < w4.heap.size ∧ w4.setCell ⟨g, k * 4 + 2, none⟩ (.int .i64 v5) = w5 ∧
      SliceIs w5 (some ⟨g, 0, none⟩) l.length cap 4 ((oneMore l k v5).map Plate.cells) ∧ Ext w w5 ∧ Ext W3 w5 ∧ Blk w5 q t0 c0 := by
  obtain ⟨hs4, cs4, BK4, hb4, n4⟩ := more_rows k hk hxs hg own
  have hE := E.size
  obtain ⟨w5, hw5, hs5, E5⟩ := more_set (w0 := w) (wrap64 (pn + 1)) hs4 BK4 hk hg hp (by omega) (E.trans E34)
  have E45 : Ext W3 w5 := by
    rw [← hw5]
    exact E34.setCell (p := ⟨g, k * 4 + 2, none⟩) hb4 _
  exact ⟨_, w5, rfl, n4, BK4.frozen, BK4.lt, hw5, hs5, E5, E45, B.ext E45⟩
set_option maxRecDepth 100000 in
set_option maxHeartbeats 8000000 in
theorem more_walk (s : Shape) (A : Option Addr) (cap : Nat) (l : List Plate) (PA : Option Addr) (pcap : Nat) (i : Int) (w : World) (hs : Bytes w A cap s.cells) (hl : Plates w PA pcap l) (hT : TzTab w) :
    Calls Tryd.prog 5 #[.agg #[.int .i64 s.W, .int .i64 s.D, .int .i64 s.H, .slice A s.cells.length cap], .slice PA l.length pcap, .int .i64 i] w fun e w' => e = .returned (.bool true) ∧ Ext w w' := by
  have hn2 := hl.len
  unfold maxLen at hn2
  obtain ⟨W1, hW1, E1, B1, hz1⟩ := box_ w #[.int .i64 s.W, .int .i64 s.D, .int .i64 s.H, .slice A s.cells.length cap] 24
  go_enter Tryd.func5, Tryd.ntmps5
  go_wp2_with fail
  refine (alive_c _ (hT.ext E1)).mono ?_
  rintro e W2 ⟨rfl, E2⟩
  have E := E1.trans E2
  have B := B1.ext E2
  clear E1 E2 B1 hz1 hW1
  have b1 := B.cell
  go_wp2_with fail
  refine (large_c s A cap _ (hs.ext E)).mono ?_
  rintro e W3 ⟨rfl, E3⟩
  replace E := E.trans E3
  replace B := B.ext E3
  clear b1 E3
  have b1 := B.cell
  obtain ⟨lb, hlb⟩ : ∃ lb, largeB s = lb := ⟨_, rfl⟩
  rw [hlb]
  cases lb
  · by_cases hll : 20 < l.length
    · clear hlb
      go_wp2_with fail
      go_ret
      exact ⟨rfl, E⟩
    · by_cases hi0 : i < 0
      · clear hlb
        go_wp2_with fail
        go_ret
        exact ⟨rfl, E⟩
      · obtain ⟨k, rfl⟩ := Int.eq_ofNat_of_zero_le (show 0 ≤ i by omega)
        by_cases hkl : k < l.length
        · obtain ⟨b, off, rfl, hcells⟩ := SliceIs.flat hl (by omega) (by decide)
          have hb := hl.cells (by omega)
          obtain ⟨b', off', hbe, hblt, hbc⟩ := hb
          cases hbe
          have hg : (l.map Plate.cells)[k]? = some (l[k].cells) := by rw [List.getElem?_map, List.getElem?_eq_getElem hkl]; rfl
          have hpk : plateAt l k = l[k] := plateAt_eq (List.getElem?_eq_getElem hkl)
          obtain ⟨pl, hpl⟩ : ∃ pl, l[k] = pl := ⟨_, rfl⟩
          rw [hpl] at hg hpk
          obtain ⟨pw, pd, pn, pc⟩ := pl
          have n0 := hbc k _ hg 2 _ rfl
          have n3 := E.cell n0
          have hbr : b < W3.heap.size := Nat.lt_of_lt_of_le hblt E.size
          have Hlb := Lib.hid hlb
          have Hg := Lib.hid hg
          have Hpk := Lib.hid hpk
          have Hbc := Lib.hid hbc
          have Hcells := Lib.hid hcells
          clear hlb hg hpk hpl hbc hcells n0
          by_cases hN : 99 ≤ pn
          · go_wp2_with fail
            go_ret
            exact ⟨rfl, E⟩
          · obtain ⟨iL, hiL, zL0, zL1, zL2⟩ := info_parts infoPlate
            have hfl : (l.map Plate.cells).flatten.length = l.length * 4 := by
              have := flat_len (rows := l.map Plate.cells) (sz := 4) (by
                intro r hr
                obtain ⟨x, _, rfl⟩ := List.mem_map.1 hr
                rfl)
              rw [this, List.length_map]
            obtain ⟨xs, hxs⟩ : ∃ xs, (l.map Plate.cells).flatten = xs := ⟨_, rfl⟩
            have hone : ∀ u ∈ xs, u.oneCell' = true := by rw [← hxs]; exact plate_one
            rw [hxs] at hfl
            have Hxs := Lib.hid hxs
            have Hone := Lib.hid hone
            have Hfl := Lib.hid hfl
            have HC3 : Hid (∀ (j : Nat) (u : Value), xs[j]? = some u → W3.cell? ((⟨b, off, none⟩ : Addr).add j) = some u) := Lib.hid (fun j u hu => E.cell (Hcells.out j u (by rw [hxs]; exact hu)))
            have m1 : 0 + l.length ≤ maxLen := by unfold maxLen; omega
            have m2 : (0 + l.length) * 32 ≤ 140737488355328 := by omega
            have hpos : 0 < l.length := by omega
            clear hfl hxs hone
            go_wp2_with (at_builtin; refine wpList_append_own _ rfl (.tmp 52) (.tmp 53) 25 rfl W3.heap.size 51 iL _ 4 32 Tryd.underlying25 hiL zL0 zL1 zL2 rfl (by decide) _ 0 [] rfl (World.ownsRow_made W3 #[] 0 (Nat.le_refl _) (by unfold maxLen; omega) rfl) ⟨b, off, none⟩ l.length pcap xs rfl Hfl.out (fun j u hu => (ext_alloc _ _).cell (HC3.out j u hu)) Hone.out m1 m2 (by simp) ?_; intro v' w4 own4 hg4 h4; obtain ⟨g4, cp4, rfl⟩ := own_form own4 (by omega); obtain ⟨v5, w5, hv5, n4, f4, l4, hw5, hs5, E5, E45, B5⟩ := more_new (k := k) (by omega) Hxs.out Hg.out Hpk.out own4 E B (((Ext.refl W3).alloc _).grown hg4 (fun r e => by cases e; exact Nat.le_refl _)); have b5 := B5.cell; have n5 := E45.cell n3; have E45s := E45)
            obtain ⟨l', hl'⟩ : ∃ l', oneMore l k v5 = l' := ⟨_, rfl⟩
            have hlen' : l'.length = l.length := by rw [← hl']; unfold oneMore; rw [List.length_set]
            rw [hl'] at hs5
            have hp5 : Plates w5 (some ⟨g4, 0, none⟩) cp4 l' := by unfold Plates; rw [hlen']; exact hs5
            have hl5 : Plates w5 (some ⟨b, off, none⟩) pcap l := hl.ext E5
            have HL' := Lib.hid hl'
            have Hlen' := Lib.hid hlen'
            have Hv5 := Lib.hid hv5
            replace E := E5
            replace B := B5
            clear hs5 hl' hlen' hv5 hw5 E5 B5 E45 n4 f4 l4 own4 hg4 hblt
            have c1 : ∀ W, Ext w5 W → Calls Tryd.prog 28 #[.agg #[.int .i64 s.W, .int .i64 s.D, .int .i64 s.H, .slice A s.cells.length cap], .slice (some ⟨g4, 0, none⟩) l.length cp4] W fun e w' => e = .returned (.tuple #[.int .i64 (countI s l'), .int .i64 (askErr s l')]) ∧ Ext W w' := fun W EW => by
              rw [← Hlen'.out]
              exact count_c s A cap l' (some ⟨g4, 0, none⟩) cp4 W ((hs.ext E).ext EW) (hp5.ext EW) ((hT.ext E).ext EW)
            have c2 : ∀ W, Ext w5 W → Calls Tryd.prog 29 #[.agg #[.int .i64 s.W, .int .i64 s.D, .int .i64 s.H, .slice A s.cells.length cap], .slice (some ⟨g4, 0, none⟩) l.length cp4] W fun e w' => ∃ CA cc, e = .returned (.tuple #[.slice CA (composeL s l').length cc, .int .i64 (composeE s l')]) ∧ Laids w' CA cc (composeL s l') ∧ (composeL s l').length ≤ 100 ∧ Ext W w' := fun W EW => by
              rw [← Hlen'.out]
              exact compose_c s A cap l' (some ⟨g4, 0, none⟩) cp4 W ((hs.ext E).ext EW) (hp5.ext EW) ((hT.ext E).ext EW)
            have c3 : ∀ W CA cc c, Ext w5 W → c.length ≤ 1000 → Laids W CA cc c → Calls Tryd.prog 16 #[.agg #[.int .i64 s.W, .int .i64 s.D, .int .i64 s.H, .slice A s.cells.length cap], .slice (some ⟨g4, 0, none⟩) l.length cp4, .slice CA c.length cc] W fun e w' => e = .returned (.tuple #[.int .i64 (weakR s l' c), .int .i64 (compErr s l' c)]) ∧ Ext W w' := fun W CA cc c EW hc hcs => by
              rw [← Hlen'.out]
              exact weakTop_c s A cap l' (some ⟨g4, 0, none⟩) cp4 c CA cc hc W ((hs.ext E).ext EW) (hp5.ext EW) hcs ((hT.ext E).ext EW)
            have C1 := Lib.hid c1
            have C2 := Lib.hid c2
            have C3 := Lib.hid c3
            clear c1 c2 c3 hp5
            refine (count_c s A cap l (some ⟨b, off, none⟩) pcap _ (hs.ext E) hl5 (hT.ext E)).mono ?_
            rintro e w6 ⟨rfl, E6⟩
            have B6 := B.ext E6
            have b6 := B6.cell
            have n6 := E6.cell n5
            obtain ⟨e1, he1⟩ : ∃ e1, askErr s l = e1 := ⟨_, rfl⟩
            obtain ⟨e2, he2⟩ : ∃ e2, askErr s l' = e2 := ⟨_, rfl⟩
            obtain ⟨k1, hk1⟩ : ∃ k1, countI s l = k1 := ⟨_, rfl⟩
            obtain ⟨k2, hk2⟩ : ∃ k2, countI s l' = k2 := ⟨_, rfl⟩
            rw [he1, hk1]
            have He1 := Lib.hid he1
            have He2 := Lib.hid he2
            have Hk1 := Lib.hid hk1
            have Hk2 := Lib.hid hk2
            clear he1 he2 hk1 hk2 b5 n5
            go_wp2_with fail
            refine (C1.out _ E6).mono ?_
            rintro e w7 ⟨rfl, E7⟩
            have E67 := E6.trans E7
            have B7 := B6.ext E7
            have b7 := B7.cell
            have n7 := E7.cell n6
            have hbr7 : b < w7.heap.size := Nat.lt_of_lt_of_le hbr (E45s.trans E67).size
            rw [He2.out, Hk2.out]
            clear b6 n6
            by_cases h1 : e1 = 0
            · subst h1
              have okl := (ask_ok He1.out).2
              have hv := (ask_ok He1.out).1
              have hpn : 0 ≤ pn := by
                have := plate_n (k := k) (by omega) okl
                rw [Hpk.out] at this
                exact this
              have hvv : v5 = pn + 1 := by
                rw [← Hv5.out]
                unfold wrap64
                omega
              have hok' : platesB l' = true := by
                rw [← HL'.out]
                exact more_ok (by omega) okl (by omega) (by omega)
              have he2 : askErr s l' = 0 := by
                unfold askErr platesErr
                rw [if_pos hv, if_pos hok']
              have hwd : Wider l l' := by
                rw [← HL'.out]
                exact more_wider (by omega) (by rw [Hpk.out]; show pn ≤ v5; omega)
              have hz : e2 = 0 := by rw [← He2.out, he2]
              have hkk : k1 ≤ k2 := by
                have := wider_count hwd He1.out he2 Hlb.out
                rw [Hk1.out, Hk2.out] at this
                exact this
              have Hwd := Lib.hid hwd
              have He2' := Lib.hid he2
              subst hz
              clear he2 hwd hok' hvv okl hv hpn
              have E7' := E.trans E67
              go_wp2_with fail
              refine (compose_c s A cap l (some ⟨b, off, none⟩) pcap _ (hs.ext E7') (hl5.ext E67) (hT.ext E7')).mono ?_
              rintro e w8 ⟨LA, lc, rfl, hL, hLn, E8⟩
              replace E67 := E67.trans E8
              have B8 := B7.ext E8
              have b8 := B8.cell
              obtain ⟨eE, heE⟩ : ∃ eE, composeE s l = eE := ⟨_, rfl⟩
              obtain ⟨eE', heE'⟩ : ∃ eE', composeE s l' = eE' := ⟨_, rfl⟩
              obtain ⟨L, hLL⟩ : ∃ L, composeL s l = L := ⟨_, rfl⟩
              obtain ⟨L', hLL'⟩ : ∃ L', composeL s l' = L' := ⟨_, rfl⟩
              rw [hLL] at hL hLn ⊢
              rw [heE]
              have HeE := Lib.hid heE
              have HeE' := Lib.hid heE'
              have HLL := Lib.hid hLL
              have HLL' := Lib.hid hLL'
              clear heE heE' hLL hLL' b7
              go_wp2_with fail
              refine (C2.out _ E67).mono ?_
              rintro e w9 ⟨LA', lc', rfl, hL', hLn', E9⟩
              rw [HLL'.out] at hL' hLn' ⊢
              rw [HeE'.out]
              replace E67 := E67.trans E9
              replace hL := hL.ext E9
              have B9 := B8.ext E9
              have b9 := B9.cell
              clear b8
              by_cases hz : eE = 0
              · subst hz
                obtain ⟨q1, q2, q3, q4, q5⟩ := wider_best Hwd.out He1.out He2'.out HeE.out
                rw [HeE'.out] at q1
                subst q1
                rw [HLL.out] at q2 q4 q5
                rw [HLL'.out] at q3 q4 q5
                obtain ⟨wL, hwL⟩ : ∃ wL, weakR s l L = wL := ⟨_, rfl⟩
                obtain ⟨wL', hwL'⟩ : ∃ wL', weakR s l' L' = wL' := ⟨_, rfl⟩
                rw [hwL, hwL'] at q5
                have Q2 := Lib.hid q2
                have Q3 := Lib.hid q3
                have Q5 := Lib.hid q5
                have HwL := Lib.hid hwL
                have HwL' := Lib.hid hwL'
                clear q2 q3 q5 hwL hwL'
                have E9' := E.trans E67
                go_wp2_with fail
                refine (weakTop_c s A cap l (some ⟨b, off, none⟩) pcap L LA lc (by omega) _ (hs.ext E9') (hl5.ext E67) hL (hT.ext E9')).mono ?_
                rintro e w10 ⟨rfl, E10⟩
                rw [HwL.out, Q2.out]
                replace E67 := E67.trans E10
                replace hL' := hL'.ext E10
                have B10 := B9.ext E10
                have b10 := B10.cell
                clear b9
                go_wp2_with fail
                refine (C3.out _ LA' lc' L' E67 (by omega) hL').mono ?_
                rintro e w11 ⟨rfl, E11⟩
                rw [HwL'.out, Q3.out]
                by_cases hlt : L'.length < L.length
                · go_wp2_with fail
                  go_ret
                  exact ⟨rfl, E.trans (E67.trans E11)⟩
                · have heq : L'.length = L.length := by omega
                  have hww := Q5.out heq
                  go_wp2_with fail
                  go_ret
                  exact ⟨by simp <;> omega, E.trans (E67.trans E11)⟩
              · have z1 : (eE == 0) = false := by simpa using hz
                have z2 : (eE != 0) = true := by simpa using hz
                go_wp2_with fail
                go_ret
                exact ⟨rfl, E.trans E67⟩
            · have h2 : (e1 != 0) = true := by simpa using h1
              have h3 : (e1 == 0) = false := by simpa using h1
              go_wp2_with fail
              go_ret
              exact ⟨rfl, E.trans E67⟩
        · clear hlb
          have hkl2 : (l.length : Int) ≤ (k : Int) := by omega
          go_wp2_with fail
          go_ret
          exact ⟨rfl, E⟩
  · clear hlb
    go_wp2_with fail
    go_ret
    exact ⟨rfl, E⟩
end Go.Proofs.YtpikemglnnjemaaDoor

namespace Go.Proofs.YtpikemglnnjemaaDoor
open Go.RowKit Go.ChangeShapes Go.WideShapes Go.ChangeAt Go.Deep

theorem Tryd.own : ownKnob Tryd.prog.godebug = none := by kernel_rfl
theorem Tryd.laidOut : laidOutB Tryd.prog = true := by kernel_rfl

theorem list_of {α : Type} (p : Nat → α → Prop) (n : Nat) (h : ∀ i, i < n → ∃ x, p i x) : ∃ l : List α, l.length = n ∧ ∀ i x, l[i]? = some x → p i x := by
  induction n with
  | zero => exact ⟨[], rfl, fun i x hx => by simp at hx⟩
  | succ n ih =>
    obtain ⟨l, hl, hp⟩ := ih (fun i hi => h i (by omega))
    obtain ⟨x, hx⟩ := h n (by omega)
    refine ⟨l ++ [x], by simp [hl], fun i y hy => ?_⟩
    rcases Nat.lt_or_ge i n with hi | hi
    · rw [List.getElem?_append_left (by omega)] at hy
      exact hp i y hy
    · rw [List.getElem?_append_right (by omega), hl] at hy
      obtain rfl : i = n := by
        rcases Nat.eq_or_lt_of_le hi with h' | h'
        · exact h'.symm
        · rw [List.getElem?_eq_none (by simp; omega)] at hy; cases hy
      simp at hy
      subst hy
      exact hx

section
variable {H : Type} {enc : TypeId × Value → H} {P : Program} {w : World} {base : Nat} {spare : Nat → Bool} {held : Bool}

theorem rows_of_trod {t e : TypeId} {fuel sz : Nat} {A : Option Addr} {n cap : Nat} {x : DataW H × List MemPlace} (ht : P.underlying t = some (.slice e)) (hC : P.cellsOf e = sz) (hsz : 0 < sz)
    (h : DataW.trod enc P w base spare held fuel t [.slice A n cap] = some x) :
    ∃ rows : List (List Value), SliceIs w A n cap sz rows ∧ ∀ r ∈ rows, ∃ (m : Nat) (y : DataW H × List MemPlace), DataW.trod enc P w base spare held m e r = some y := by
  rcases open_slice ht h with ⟨h0, _⟩ | ⟨a, len, cap', m, fl, D, Pl, hcs, _, hl, hm, hmm, _, hi⟩
  · simp only [List.cons.injEq, Value.slice.injEq, and_true] at h0
    obtain ⟨rfl, rfl, rfl⟩ := h0
    exact ⟨[], ⟨rfl, Nat.le_refl _, by unfold maxLen; omega, by simp, fun h => by omega⟩, by simp⟩
  · simp only [List.cons.injEq, Value.slice.injEq, and_true] at hcs
    obtain ⟨rfl, rfl, rfl⟩ := hcs
    rw [hC] at hi
    have hnm : n ≤ m := by rw [hmm]; split <;> omega
    obtain ⟨rows, hlen, hrow⟩ := list_of (fun i r => w.cells? base (a.add (i * sz)) sz = some r ∧ DataW.trod enc P w base spare held fl e r = some (D i, Pl i)) n (fun i hin => hi i (by omega))
    refine ⟨rows, ⟨hlen, hl, hm, ?_, fun hn => ?_⟩, ?_⟩
    · intro r hr
      obtain ⟨i, hir⟩ := List.getElem?_of_mem hr
      exact (World.cells?_some (hrow i r hir).1).2.1
    · have h0 := hi 0 (by omega)
      obtain ⟨cs0, hc0, _⟩ := h0
      obtain ⟨_, hl0, hat0⟩ := World.cells?_some hc0
      have hcell0 := hat0 0 hsz
      have hsome : (w.cell? a).isSome = true := by
        have : (a.add (0 * sz)).add 0 = a := by simp [Addr.add]
        rw [this] at hcell0
        rw [hcell0, List.getElem?_eq_getElem (by omega)]
        rfl
      obtain ⟨b, off, spot⟩ := a
      have hspot : spot = none := by
        cases spot with
        | none => rfl
        | some q =>
          exfalso
          unfold World.cell? at hsome
          simp only at hsome
          split at hsome <;> simp at hsome
      subst hspot
      obtain ⟨u, hu⟩ := Option.isSome_iff_exists.1 hsome
      refine ⟨b, off, rfl, World.block_lt_of_cell? w _ hu, fun i r hr j u hu => ?_⟩
      obtain ⟨_, hlr, hat⟩ := World.cells?_some (hrow i r hr).1
      have hj : j < sz := by
        rcases Nat.lt_or_ge j r.length with h' | h'
        · omega
        · rw [List.getElem?_eq_none h'] at hu; cases hu
      have hadd : ((⟨b, off, none⟩ : Addr).add (i * sz)).add j = ⟨b, off + i * sz + j, none⟩ := by
        unfold Addr.add
        by_cases h1 : i * sz = 0 <;> by_cases h2 : j = 0 <;> simp [h1, h2]
      rw [← hadd, hat j hj]
      exact hu
    · intro r hr
      obtain ⟨i, hir⟩ := List.getElem?_of_mem hr
      exact ⟨_, _, (hrow i r hir).2⟩

/-- All arguments read behind the call as they did, where the world has only grown. -/
theorem trodAll_ext {ts : List TypeId} (hl : laidOutB P = true) {W W' : World} (hb : Ext W W') :
    ∀ {vs : List Value} {ds : List (DataW H)} {ps : List MemPlace}, (∀ t ∈ ts, P.readableRec t = true ∧ t < P.types.size) → DataW.TrodAll enc P W 0 (fun _ => true) true ts vs ds ps → (∀ x ∈ ps, x.block < W.heap.size) →
      DataW.TrodAll enc P W' 0 (fun b => decide (b < W.heap.size)) true ts vs ds ps := by
  induction ts with
  | nil =>
    intro vs ds ps _ h _
    obtain ⟨rfl, rfl, rfl⟩ := trodAll_nil h
    exact trodAll_mk0
  | cons t ts ih =>
    intro vs ds ps hr h hlt
    obtain ⟨v, vs', d, ds', p, q, rfl, rfl, rfl, hd, hrest⟩ := trodAll_cons h
    exact ⟨p, q, Below.trod hl (hr t (by simp)).1 (hr t (by simp)).2 hd hb (fun x hx => hlt x (by simp [hx])), ih (fun t' ht' => hr t' (by simp [ht'])) hrest (fun x hx => hlt x (by simp [hx])), rfl⟩
end
end Go.Proofs.YtpikemglnnjemaaDoor
