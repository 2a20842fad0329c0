/- The given statement ComposeBestCardSaid: for every input the law returns true, and each argument reads behind the call as it did; the listed table is tied to the program's text. No other conditions. -/
import Derived.Test.YtpikemglnnjemaaDoorCb4
import Derived.Handy
import Derived.Laws.StructEq
import Derived.SevenTiedAt

namespace Go.Proofs.YtpikemglnnjemaaDoor
open Go.RowKit

theorem best_client (s : Shape) (l : List Plate) (nb mb g : Nat) (A : Option Addr) (cap : Nat) (PA : Option Addr) (pcap : Nat) (NA : Option Addr) (ncap : Nat) (AA : Option Addr) (acap : Nat) (EA : Option Addr) (ec : Nat) (OA : Option Addr) (oc : Nat) (LA : Option Addr) (lc : Nat) (ms : List Nat) (ok : s.Ok) (okl : platesB l = true) (wT : World)
    (hB : Board wT g s A cap l PA pcap NA ncap AA acap EA ec OA oc LA lc ms) (hT : TzTab wT) (hN : Blk wT nb 91 #[.pointer (some ⟨g, 0, none⟩)]) :
    Client s l (BestJ mb) wT 67 #[.pointer (some ⟨mb, 0, none⟩)] 68 #[.pointer (some ⟨nb, 0, none⟩), .pointer (some ⟨mb, 0, none⟩)] longB (seeB s l) := by
  refine ⟨fun st Fp w w' h hk => h.keep hk, fun st Fp w n hn _ h => bestLong_c mb st Fp n hn w h, fun st Fp w c out CA cc SA sc hc hlen hr E h hlt hC hS => ?_⟩
  have hset := setRun_is hr
  have hpos := comp_pos ok (hset.comp ok rfl)
  exact bestSee_c nb mb g s A cap l PA pcap NA ncap AA acap EA ec OA oc LA lc ms st Fp c out CA cc SA sc ok (apart_of ok okl hpos hset rfl) hc w (hB.ext E) (hT.ext E) (hN.ext E) h hlt hC hS

theorem laids_nil (w : World) : Laids w none 0 [] := ⟨rfl, Nat.le_refl _, Nat.zero_le _, fun r hr => absurd hr (by simp), fun h => absurd h (by simp)⟩
/-- What Compose answers. -/
noncomputable def composeE (s : Shape) (l : List Plate) : Int := if askErr s l = 0 then (match bestB s l with | none => 6 | some _ => 0) else askErr s l
noncomputable def composeL (s : Shape) (l : List Plate) : List Laid := if askErr s l = 0 then (match bestB s l with | none => [] | some b => b.1) else []

set_option maxRecDepth 100000 in
set_option maxHeartbeats 4000000 in
theorem compose_c (s : Shape) (A : Option Addr) (cap : Nat) (l : List Plate) (PA : Option Addr) (pcap : Nat) (w : World) (hs : Bytes w A cap s.cells) (hl : Plates w PA pcap l) (hT : TzTab w) :
    Calls Tryd.prog 29 #[.agg #[.int .i64 s.W, .int .i64 s.D, .int .i64 s.H, .slice A s.cells.length cap], .slice PA l.length pcap] w fun e w' =>
      ∃ CA cc, e = .returned (.tuple #[.slice CA (composeL s l).length cc, .int .i64 (composeE s l)]) ∧ Laids w' CA cc (composeL s l) ∧ (composeL s l).length ≤ 100 ∧ Ext w w' := by
  obtain ⟨W1, hW1, E1, B1, hz1⟩ := box_ w #[.int .i64 s.W, .int .i64 s.D, .int .i64 s.H, .slice A s.cells.length cap] 24
  have b1 := B1.cell
  obtain ⟨e0, he⟩ : ∃ e0, askErr s l = e0 := ⟨_, rfl⟩
  by_cases h0 : e0 = 0
  · subst h0
    have hv : s.valid = true ∧ platesB l = true := by
      unfold askErr platesErr at he
      split at he
      · split at he
        · exact ⟨by assumption, by assumption⟩
        · omega
      · omega
    have He := Lib.hid he
    have Hv := Lib.hid hv
    have ok := Shape.ok_of hv.1
    clear he hv
    go_enter Tryd.func29, Tryd.ntmps29
    go_wp2_with fail
    refine (look_ok s l A cap PA pcap Hv.out.1 Hv.out.2 _ (hs.ext E1) (hl.ext E1)).mono ?_
    rintro e w2 ⟨g, NA, ncap, AA, acap, EA, ec, OA, oc, LA, lc, ms, rfl, hB, E2⟩
    have B3 := Blk.new w2 #[.pointer (some ⟨g, 0, none⟩)] 91
    have E3 := ext_alloc w2 (.cells #[.pointer (some ⟨g, 0, none⟩)] 91)
    obtain ⟨nb, hnb⟩ : ∃ nb, w2.heap.size = nb := ⟨_, rfl⟩
    have Hnb := Lib.hid hnb
    go_wp2_with fail
    have hE4 := ext_alloc (w2.alloc (.cells #[.pointer (some ⟨g, 0, none⟩)] 91)) (.cells #[.pointer none] 109)
    have B4 := Blk.new (w2.alloc (.cells #[.pointer (some ⟨g, 0, none⟩)] 91)) #[.pointer none] 109
    have hz3 : (w2.alloc (.cells #[.pointer (some ⟨g, 0, none⟩)] 91)).heap.size = nb + 1 := by rw [World.size_alloc, Hnb.out]
    have hz4 : ((w2.alloc (.cells #[.pointer (some ⟨g, 0, none⟩)] 91)).alloc (.cells #[.pointer none] 109)).heap.size = nb + 2 := by rw [World.size_alloc, hz3]
    rw [hz3] at B4
    rw [Hnb.out] at B3
    have cl := best_client s l nb (nb + 1) g A cap PA pcap NA ncap AA acap EA ec OA oc LA lc ms ok Hv.out.2 _ (hB.ext E3) (hT.ext ((E1.trans E2).trans E3)) B3
    refine (searchBest_c nb (nb + 1) g s A cap l PA pcap NA ncap AA acap EA ec OA oc LA lc ms cl ok Hv.out.2 (hB.ext E3) (hT.ext ((E1.trans E2).trans E3)) _ none (fun r => r = nb + 1) hE4 ⟨B4, fun r => Iff.rfl⟩ (fun r hr => by rw [hr, hz3, hz4]; omega)).mono ?_
    rintro e w5 ⟨⟨v5, rfl⟩, Fp5, hj5, f1, f2, o5⟩
    rw [growS_eq (fun st k c out h hk => longB_see st k c out h hk)] at hj5
    have E5 : Ext w w5 := ((E1.trans E2).trans E3).trans (Only.below hE4 o5 (fun r hr => by rw [hr, hz3]; exact Nat.le_refl _))
    obtain ⟨bb, hbb⟩ : ∃ bb, bestB s l = bb := ⟨_, rfl⟩
    have hj5' : BestJ (nb + 1) bb Fp5 w5 := by rw [← hbb]; exact hj5
    have HE5 := Lib.hid E5
    clear hj5 cl
    cases bb with
    | none =>
      have Hr : Hid (composeE s l = 6 ∧ composeL s l = []) := Lib.hid ⟨by unfold composeE; rw [He.out, hbb, if_pos rfl], by unfold composeL; rw [He.out, hbb, if_pos rfl]⟩
      have b5 := hj5'.1.cell
      clear hj5' hbb B3 B4 hz3 hz4
      go_wp2_with fail
      go_ret2
      refine ⟨none, 0, by rw [Hr.out.1, Hr.out.2] <;> rfl, ?_, by rw [Hr.out.2]; simp, HE5.out⟩
      rw [Hr.out.2]
      exact laids_nil _
    | some b =>
      have Hr : Hid (composeE s l = 0 ∧ composeL s l = b.1) := Lib.hid ⟨by unfold composeE; rw [He.out, hbb, if_pos rfl], by unfold composeL; rw [He.out, hbb, if_pos rfl]⟩
      obtain ⟨M, D, bcap, h1, h2, h3, h4, h5, h6, h7⟩ := hj5'
      have b5 := h1.cell
      have m5 := h2.cell
      obtain ⟨k, hk⟩ : ∃ k, b.1.length = k := ⟨_, rfl⟩
      have Hk := Lib.hid hk
      rw [hk] at m5
      have h3' := Lib.hid h3
      clear h1 h2 h3 hbb B3 B4 hz3 hz4 hk
      go_wp2_with fail
      go_ret2
      refine ⟨some ⟨D, 0, none⟩, bcap, by rw [Hr.out.1, Hr.out.2, Hk.out] <;> rfl, ?_, by rw [Hr.out.2]; exact h6, HE5.out⟩
      rw [Hr.out.2]
      rw [Hk.out] at h3'
      have h := own_any (rows := b.1.map Laid.cells) (by decide) ?_ (by rw [List.length_map, Hk.out]) h3'.out
      · rw [← Hk.out] at h
        exact h
      · intro r hr
        obtain ⟨x, _, rfl⟩ := List.mem_map.1 hr
        rfl
  · have Hr : Hid (composeE s l = e0 ∧ composeL s l = []) := Lib.hid ⟨by unfold composeE; rw [he, if_neg h0], by unfold composeL; rw [he, if_neg h0]⟩
    have e1 : (e0 != 0) = true := by simpa using h0
    have e2 : (e0 == 0) = false := by simpa using h0
    have He := Lib.hid he
    have H0 := Lib.hid h0
    clear he h0
    go_enter Tryd.func29, Tryd.ntmps29
    go_wp2_with fail
    refine (look_bad s l A cap PA pcap e0 He.out H0.out _ (hs.ext E1) (hl.ext E1)).mono ?_
    rintro e w2 ⟨rfl, E2⟩
    go_wp2_with fail
    go_ret2
    refine ⟨none, 0, by rw [Hr.out.1, Hr.out.2] <;> rfl, ?_, by rw [Hr.out.2]; simp, (E1.trans E2).trans (ext_alloc _ _)⟩
    rw [Hr.out.2]
    exact laids_nil _
end Go.Proofs.YtpikemglnnjemaaDoor

namespace Go.Proofs.YtpikemglnnjemaaDoor
open Go.RowKit

def uPass (ab : List Int) (out : List Nat) (m : Nat) : Nat := (List.range out.length).foldl (fun m k => if condU ab (outAt out k) m = true then m ||| outAt out k else m) m
def uRun (ab : List Int) (out : List Nat) : Nat → Nat → Nat
  | 0, m => m
  | f + 1, m => uRun ab out f (uPass ab out m)
/-- Whether all hang together, found by passes. -/
def hangV (s : Shape) (out : List Nat) : Option Bool :=
  if (List.range out.length).all (fun k => !condU (abv s) (outAt out k) (uRun (abv s) out out.length (outAt out 0))) = true then some (decide (pop (uRun (abv s) out out.length (outAt out 0)) = fullN s.cells)) else none
section
variable {s : Shape} {l : List Plate} {c : List Laid} {out : List Nat}
theorem InU.pass (ha : Apart s l c out) : ∀ (ks : List Nat) (m : Nat), (∀ k ∈ ks, k < c.length) → InU s l c out m → InU s l c out (ks.foldl (fun m k => if condU (abv s) (outAt out k) m = true then m ||| outAt out k else m) m)
  | [], _, _, h => h
  | k :: ks, m, hk, h => by
    rw [List.foldl_cons]
    refine InU.pass ha ks _ (fun j hj => hk j (by simp [hj])) ?_
    split
    · exact (InU.step ha h (hk k (by simp)) (by assumption)).1
    · exact h
theorem InU.run (ha : Apart s l c out) : ∀ (f m : Nat), InU s l c out m → InU s l c out (uRun (abv s) out f m)
  | 0, _, h => h
  | f + 1, _, h => InU.run ha f _ (InU.pass ha _ _ (fun k hk => by rw [← ha.len]; exact List.mem_range.1 hk) h)
theorem hangV_is (ha : Apart s l c out) {b : Bool} (h : hangV s out = some b) : hangB s l c = b := by
  unfold hangV at h
  split at h
  · rename_i hall
    cases h
    refine InU.done ha (InU.run ha _ _ (InU.start ha)) fun k hk => ?_
    have := List.all_eq_true.1 hall k (List.mem_range.2 (by rw [ha.len]; exact hk))
    simpa using this
  · cases h
end
def seeV (s : Shape) (st : Option (Option (List Laid × Nat))) (p : List Laid × List Nat) : Option (Option (List Laid × Nat)) :=
  match st, hangV s p.2 with
  | some st, some b => some (if b = true then (match st with
    | none => some (p.1, weakN s p.2)
    | some q => if p.1.length < q.1.length ∨ p.1.length = q.1.length ∧ weakN s p.2 < q.2 then some (p.1, weakN s p.2) else some q) else st)
  | _, _ => none
theorem seeV_none {s : Shape} : ∀ xs : List (List Laid × List Nat), xs.foldl (seeV s) none = none
  | [] => rfl
  | x :: xs => by
    rw [List.foldl_cons]
    exact seeV_none xs
theorem seeV_is {s : Shape} {l : List Plate} : ∀ (xs : List (List Laid × List Nat)) (st b : Option (List Laid × Nat)), (∀ p ∈ xs, Apart s l p.1 p.2) → xs.foldl (seeV s) (some st) = some b → xs.foldl (fun st p => seeB s l st p.1 p.2) st = b
  | [], st, b, _, h => by
    cases h
    rfl
  | p :: xs, st, b, ha, h => by
    rw [List.foldl_cons] at h ⊢
    cases hv : hangV s p.2 with
    | none =>
      have : seeV s (some st) p = none := by unfold seeV; rw [hv]
      rw [this, seeV_none] at h
      cases h
    | some v =>
      have e : seeV s (some st) p = some (seeB s l st p.1 p.2) := by
        unfold seeV seeB
        rw [hv, hangV_is (ha p (by simp)) hv]
        cases st with
        | none => rfl
        | some q =>
          simp only [better_iff]
      rw [e] at h
      exact seeV_is xs _ b (fun q hq => ha q (by simp [hq])) h
/-- The best one, found by calculation. -/
def bestV (s : Shape) (l : List Plate) : Option (Option (List Laid × Nat)) := (allComps s l).foldl (seeV s) (some none)
theorem all_apart {s : Shape} {l : List Plate} (ok : s.Ok) (okl : platesB l = true) {c : List Laid} {out : List Nat} (h : (c, out) ∈ allComps s l) : Apart s l c out := by
  have hr := (mem_all ok okl).1 h
  have hset := setRun_is hr
  exact apart_of ok okl (comp_pos ok (hset.comp ok rfl)) hset rfl
theorem bestV_is {s : Shape} {l : List Plate} (ok : s.Ok) (okl : platesB l = true) {b : Option (List Laid × Nat)} (h : bestV s l = some b) : bestB s l = b :=
  seeV_is _ _ _ (fun p hp => all_apart ok okl (c := p.1) (out := p.2) hp) h

def fourS : Shape := ⟨2, 1, 2, [3, 3, 3, 3]⟩
def pairS : Shape := ⟨2, 1, 1, [1, 2]⟩
def twoL (a b : Int) : List Plate := [⟨1, 1, a, 0⟩, ⟨1, 2, b, 0⟩]
def four4 : List Laid := [⟨0, 0, 0, 0, false⟩, ⟨0, 1, 0, 0, false⟩, ⟨0, 0, 0, 1, false⟩, ⟨0, 1, 0, 1, false⟩]
def best99 : List Laid := [⟨1, 0, 0, 0, true⟩, ⟨1, 0, 0, 1, true⟩]
def best91 : List Laid := [⟨0, 0, 0, 0, false⟩, ⟨0, 1, 0, 0, false⟩, ⟨1, 0, 0, 1, true⟩]
theorem four_valid : fourS.valid = true := by decide +kernel
theorem pair_valid : pairS.valid = true := by decide +kernel
theorem two99_ok : platesB (twoL 9 9) = true := by decide +kernel
theorem two91_ok : platesB (twoL 9 1) = true := by decide +kernel
theorem four_count : (allComps fourS (twoL 9 9)).length = 4 := by decide +kernel
theorem four_best : bestB fourS (twoL 9 9) = some (best99, 0) := bestV_is (Shape.ok_of four_valid) two99_ok (by kernel_rfl)
theorem four_best1 : bestB fourS (twoL 9 1) = some (best91, 0) := bestV_is (Shape.ok_of four_valid) two91_ok (by kernel_rfl)
theorem pair_best : bestB pairS (twoL 9 9) = none := bestV_is (Shape.ok_of pair_valid) two99_ok (by kernel_rfl)
theorem four_weak : weakR fourS (twoL 9 9) four4 = 1 ∧ compErr fourS (twoL 9 9) four4 = 0 := by decide +kernel
end Go.Proofs.YtpikemglnnjemaaDoor

namespace Go.Proofs.YtpikemglnnjemaaDoor
open Go.RowKit

theorem ask_ok {s : Shape} {l : List Plate} (h : askErr s l = 0) : s.valid = true ∧ platesB l = true := by
  unfold askErr platesErr at h
  split at h
  · split at h
    · exact ⟨by assumption, by assumption⟩
    · omega
  · omega
theorem ask_in (s : Shape) (l : List Plate) : askErr s l = 0 ∨ askErr s l = 70 ∨ askErr s l = 71 := by
  unfold askErr platesErr
  split
  · split
    · exact Or.inl rfl
    · exact Or.inr (Or.inr rfl)
  · exact Or.inr (Or.inl rfl)
theorem comp_ask {s : Shape} {l : List Plate} {c : List Laid} (h : askErr s l ≠ 0) : compErr s l c = askErr s l := by
  unfold askErr platesErr at h ⊢
  unfold compErr
  split
  · split
    · rename_i h1 h2
      rw [if_pos h1, if_pos h2] at h
      exact absurd rfl h
    · rfl
  · rfl
theorem comp_all {s : Shape} {l : List Plate} {c : List Laid} (h : compErr s l c = 0) : s.valid = true ∧ platesB l = true ∧ compB s l c = true := by
  unfold compErr at h
  split at h
  · split at h
    · split at h
      · exact ⟨by assumption, by assumption, by assumption⟩
      · omega
    · omega
  · omega
theorem comp_mem {s : Shape} {l : List Plate} (hv : s.valid = true) (okl : platesB l = true) {c : List Laid} {out : List Nat} (h : (c, out) ∈ allComps s l) : compErr s l c = 0 ∧ hangR s l c = hangB s l c ∧ weakR s l c = weakN s out := by
  have ok := Shape.ok_of hv
  have hset := setRun_is ((mem_all ok okl).1 h)
  have he : compErr s l c = 0 := by unfold compErr; rw [if_pos hv, if_pos okl, if_pos (hset.comp ok rfl)]
  refine ⟨he, by unfold hangR; rw [if_pos he], ?_⟩
  unfold weakR
  rw [if_pos he]
  first | exact weak_eq ok hset rfl | exact (weak_eq ok hset rfl).symm
theorem hang_comp {s : Shape} {l : List Plate} {c : List Laid} (h : hangR s l c = true) : compErr s l c = 0 := by
  unfold hangR at h
  split at h
  · assumption
  · cases h

/-- No composition hangs together. -/
theorem compose_six {s : Shape} {l : List Plate} (h : composeE s l = 6) : composeL s l = [] ∧ ∀ c, hangR s l c = false := by
  have ha : askErr s l = 0 := by
    rcases ask_in s l with h' | h' | h'
    · exact h'
    · unfold composeE at h
      rw [h', if_neg (by omega)] at h
      omega
    · unfold composeE at h
      rw [h', if_neg (by omega)] at h
      omega
  obtain ⟨hv, okl⟩ := ask_ok ha
  have ok := Shape.ok_of hv
  unfold composeE at h
  unfold composeL
  rw [if_pos ha] at h ⊢
  have hbest := best_is s l
  cases hb : bestB s l with
  | some b =>
    rw [hb] at h
    simp at h
  | none =>
    rw [hb] at hbest
    refine ⟨rfl, fun c => ?_⟩
    cases hh : hangR s l c
    · rfl
    · exfalso
      have he := hang_comp hh
      obtain ⟨out, hm⟩ := (mem_all_comp ok okl).2 (comp_all he).2.2
      have hno : hangB s l c = false := hbest _ hm
      rw [← (comp_mem hv okl hm).2.1, hh] at hno
      cases hno
theorem compose_bad {s : Shape} {l : List Plate} (h0 : composeE s l ≠ 0) (h6 : composeE s l ≠ 6) (c : List Laid) : compErr s l c = composeE s l := by
  unfold composeE at h0 h6 ⊢
  split at h0
  · rename_i ha
    rw [if_pos ha] at h6
    exfalso
    cases hb : bestB s l with
    | none =>
      rw [hb] at h6
      exact h6 rfl
    | some b =>
      rw [hb] at h0
      exact h0 rfl
  · rename_i ha
    rw [if_neg ha]
    exact comp_ask ha
theorem compose_best {s : Shape} {l : List Plate} (h : composeE s l = 0) : compErr s l (composeL s l) = 0 ∧ hangR s l (composeL s l) = true ∧
    ∀ c, hangR s l c = true → (composeL s l).length ≤ c.length ∧ ((composeL s l).length = c.length → weakR s l (composeL s l) ≤ weakR s l c ∧ (weakR s l (composeL s l) = weakR s l c → beforeL c (composeL s l) = false)) := by
  have ha : askErr s l = 0 := by
    apply Classical.byContradiction
    intro hn
    unfold composeE at h
    rw [if_neg hn] at h
    exact hn h
  obtain ⟨hv, okl⟩ := ask_ok ha
  have ok := Shape.ok_of hv
  unfold composeE at h
  rw [if_pos ha] at h
  have hbest := best_is s l
  cases hb : bestB s l with
  | none =>
    rw [hb] at h
    simp at h
  | some b =>
    rw [hb] at hbest
    obtain ⟨xs1, out, xs2, hxs, hh, hw, hbef, haft⟩ := hbest
    have hL : composeL s l = b.1 := by unfold composeL; rw [if_pos ha, hb]
    rw [hL]
    have hm : (b.1, out) ∈ allComps s l := by rw [hxs]; simp
    obtain ⟨m1, m2, m3⟩ := comp_mem hv okl hm
    refine ⟨m1, by rw [m2, hh], fun c hc => ?_⟩
    obtain ⟨outc, hmc⟩ := (mem_all_comp ok okl).2 (comp_all (hang_comp hc)).2.2
    obtain ⟨c1, c2, c3⟩ := comp_mem hv okl hmc
    rw [c2] at hc
    rw [m3, c3]
    rw [hxs, List.mem_append, List.mem_cons] at hmc
    rcases hmc with hx | hx | hx
    · have := hbef _ hx hc
      rw [better_iff] at this
      simp only at this
      refine ⟨by omega, fun e => ⟨by omega, fun e2 => by omega⟩⟩
    · obtain ⟨rfl, rfl⟩ := Prod.mk.inj hx
      exact ⟨Nat.le_refl _, fun _ => ⟨Nat.le_refl _, fun _ => beforeL_irr _⟩⟩
    · have := haft _ hx hc
      have hnb : ¬ (c.length < b.1.length ∨ c.length = b.1.length ∧ weakN s outc < b.2) := fun hp => by
        rw [better_iff.2 hp] at this
        cases this
      have hs := all_sorted s l
      rw [hxs, List.pairwise_append] at hs
      have hlt := (List.pairwise_cons.1 hs.2.1).1 _ hx
      refine ⟨by omega, fun e => ⟨by omega, fun _ => beforeL_asymm hlt⟩⟩
end Go.Proofs.YtpikemglnnjemaaDoor

namespace Go.Proofs.YtpikemglnnjemaaDoor
open Go.RowKit

/-- A row that has just been laid. -/
theorem blk_slice {w : World} {g : Nat} {t : TypeId} {cs : Array Value} (h : Blk w g t cs) {rows : List (List Value)} {n sz : Nat} (hf : rows.flatten = cs.toList) (hw : ∀ r ∈ rows, r.length = sz) (hn : rows.length = n) (hm : n ≤ maxLen) : SliceIs w (some ⟨g, 0, none⟩) n n sz rows := by
  refine ⟨hn, Nat.le_refl _, hm, hw, fun _ => ⟨g, 0, rfl, h.lt, fun i r hr j u hu => ?_⟩⟩
  have hj : j < sz := by
    rw [← hw r (List.mem_of_getElem? hr)]
    exact (List.getElem?_eq_some_iff.1 hu).1
  have := flat_get hw hr hj
  rw [hf, hu] at this
  rw [Nat.zero_add, h.cell, ← Array.getElem?_toList]
  exact this
set_option maxHeartbeats 800000 in
theorem at7_c (i x y z : Int) (t : Bool) (w : World) : Calls Tryd.prog 46 #[.int .i64 i, .int .i64 x, .int .i64 y, .int .i64 z, .bool t] w fun e w' => e = .returned (.agg #[.int .i64 i, .int .i64 x, .int .i64 y, .int .i64 z, .bool t]) ∧ Ext w w' := by
  go_enter Tryd.func46, Tryd.ntmps46
  go_wp2_with fail
  refine bodyPost_ret (by simp [results, Tryd.results46, go_sem]; try rfl) rfl ?_
  exact ⟨rfl, ext_alloc _ _⟩
set_option maxHeartbeats 800000 in
theorem two_c (a b : Int) (w : World) : Calls Tryd.prog 30 #[.int .i64 a, .int .i64 b] w fun e w' => ∃ g, e = .returned (.slice (some ⟨g, 0, none⟩) 2 2) ∧ Plates w' (some ⟨g, 0, none⟩) 2 [⟨1, 1, a, 0⟩, ⟨1, 2, b, 0⟩] ∧ Ext w w' := by
  have B := Blk.new w #[.int .i64 1, .int .i64 1, .int .i64 a, .int .u8 0, .int .i64 1, .int .i64 2, .int .i64 b, .int .u8 0] 51
  go_enter Tryd.func30, Tryd.ntmps30
  go_wp2_with fail
  go_ret
  exact ⟨_, rfl, blk_slice B rfl (by simp [Plate.cells]) rfl (by show 2 ≤ maxLen; decide), ext_alloc _ _⟩
set_option maxHeartbeats 800000 in
theorem four_c (w : World) : Calls Tryd.prog 47 #[] w fun e w' => ∃ g, e = .returned (.agg #[.int .i64 2, .int .i64 1, .int .i64 2, .slice (some ⟨g, 0, none⟩) 4 4]) ∧ Bytes w' (some ⟨g, 0, none⟩) 4 [3, 3, 3, 3] ∧ Ext w w' := by
  go_enter Tryd.func47, Tryd.ntmps47
  go_wp2_with fail
  refine bodyPost_ret (by simp [results, Tryd.results47, go_sem]; try rfl) rfl ?_
  refine ⟨_, rfl, ⟨blk_slice (t := 5) (cs := #[.int .u8 3, .int .u8 3, .int .u8 3, .int .u8 3]) ?_ rfl (by simp) rfl (by decide), ?_⟩, ?_⟩
  · have hz : (w.alloc (.cells #[.int .i64 2, .int .i64 1, .int .i64 2, .slice (some ⟨w.heap.size + 1, 0, none⟩) 4 4] 24)).heap.size = w.heap.size + 1 := by rw [World.size_alloc]
    have h := Blk.new (w.alloc (.cells #[.int .i64 2, .int .i64 1, .int .i64 2, .slice (some ⟨w.heap.size + 1, 0, none⟩) 4 4] 24)) #[.int .u8 3, .int .u8 3, .int .u8 3, .int .u8 3] 5
    rw [hz] at h
    exact h
  · intro c hc
    simp at hc
    subst hc
    exact ⟨by omega, by omega⟩
  · exact (ext_alloc _ _).trans (ext_alloc _ _)
end Go.Proofs.YtpikemglnnjemaaDoor

namespace Go.Proofs.YtpikemglnnjemaaDoor
open Go.RowKit

theorem laid_same (a b c d : Int) (t : Bool) (w : World) : (binOp .neq 85 (.agg #[.int .i64 a, .int .i64 b, .int .i64 c, .int .i64 d, .bool t]) (.agg #[.int .i64 a, .int .i64 b, .int .i64 c, .int .i64 d, .bool t])).run Tryd.prog w = .ok (.bool false) w := by
  simp [go_sem]

set_option maxRecDepth 100000 in
set_option maxHeartbeats 1600000 in
theorem sameLaid_c (A1 A2 : Option Addr) (n c1 c2 : Nat) (c : List Laid) (hcn : c.length = n) (w : World) (h1 : Laids w A1 c1 c) (h2 : Laids w A2 c2 c) :
    Calls Tryd.prog 39 #[.slice A1 n c1, .slice A2 n c2] w fun e w' => e = .returned (.bool true) ∧ Ext w w' := by
  have hn : n ≤ maxLen := by rw [← hcn]; exact Nat.le_trans h1.le h1.small
  unfold maxLen at hn
  go_enter Tryd.func39, Tryd.ntmps39
  go_wp2_with fail
  go_loopw [5] (fun i wr => ∃ k : Nat, k ≤ n ∧ i = .int .i64 k ∧ Ext w wr) (fun i _ => n - (intOf i).toNat)
  case atStart => exact ⟨0, by omega, rfl, Ext.refl _⟩
  case round =>
    obtain ⟨k, hk, rfl, E⟩ := hrel
    by_cases hlt : k < n
    · have hk2 : k < c.length := by omega
      have hg : (c.map Laid.cells)[k]? = some c[k].cells := by rw [List.getElem?_map, List.getElem?_eq_getElem hk2]; rfl
      obtain ⟨⟨a, x, y, z, t⟩, hx⟩ : ∃ x, c[k] = x := ⟨_, rfl⟩
      rw [hx] at hg
      clear hx
      obtain ⟨p, poff, rfl, hp, hpc⟩ := h1.cells (by omega)
      obtain ⟨q, qoff, rfl, hq, hqc⟩ := h2.cells (by omega)
      have p0 := E.cell (hpc k _ hg 0 _ rfl)
      have p1 := E.cell (hpc k _ hg 1 _ rfl)
      have p2 := E.cell (hpc k _ hg 2 _ rfl)
      have p3 := E.cell (hpc k _ hg 3 _ rfl)
      have p4 := E.cell (hpc k _ hg 4 _ rfl)
      have q0 := E.cell (hqc k _ hg 0 _ rfl)
      have q1 := E.cell (hqc k _ hg 1 _ rfl)
      have q2 := E.cell (hqc k _ hg 2 _ rfl)
      have q3 := E.cell (hqc k _ hg 3 _ rfl)
      have q4 := E.cell (hqc k _ hg 4 _ rfl)
      simp only [Nat.add_zero] at p0 q0 p1 p2 p3 p4 q1 q2 q3 q4
      have hpr : p < wr.heap.size := Nat.lt_of_lt_of_le hp E.size
      have hqr : q < wr.heap.size := Nat.lt_of_lt_of_le hq E.size
      have hsame := laid_same a x y z t
      clear hpc hqc hg hcn
      go_wp2_with fail
      refine wp_region_grow (by kernel_rfl) (by kernel_rfl) ?_
      repeat (go_big_quiet_step (fail))
      refine wpQuiet_nil ?_
      intro W3 hW3
      have E3 : Ext wr W3 := by
        obtain ⟨x, rfl⟩ := hW3
        exact (Ext.refl _).grow x
      clear hW3
      obtain ⟨hcW3, hfW3, hzW3⟩ := ext_facts E3
      go_wp2_with fail
      go_roundw
      case rel => exact ⟨k + 1, by omega, by go_num, E.trans E3⟩
      case measure => simp only [intOf]; omega
    · obtain rfl : k = n := by omega
      go_wp2_with fail
      go_ret
      exact ⟨rfl, E⟩
end Go.Proofs.YtpikemglnnjemaaDoor

namespace Go.Proofs.YtpikemglnnjemaaDoor
open Go.RowKit

theorem four_compose : composeE fourS (twoL 9 9) = 0 ∧ composeL fourS (twoL 9 9) = best99 := by
  have h : askErr fourS (twoL 9 9) = 0 := by decide +kernel
  unfold composeE composeL
  rw [h, four_best]
  exact ⟨rfl, rfl⟩
theorem four_compose1 : composeE fourS (twoL 9 1) = 0 ∧ composeL fourS (twoL 9 1) = best91 := by
  have h : askErr fourS (twoL 9 1) = 0 := by decide +kernel
  unfold composeE composeL
  rw [h, four_best1]
  exact ⟨rfl, rfl⟩
theorem pair_compose : composeE pairS (twoL 9 9) = 6 ∧ composeL pairS (twoL 9 9) = [] := by
  have h : askErr pairS (twoL 9 9) = 0 := by decide +kernel
  unfold composeE composeL
  rw [h, pair_best]
  exact ⟨rfl, rfl⟩
theorem four_countI : countI fourS (twoL 9 9) = 4 ∧ askErr fourS (twoL 9 9) = 0 := by decide +kernel
set_option maxRecDepth 100000 in
set_option maxHeartbeats 8000000 in
theorem alive_c (w : World) (hT : TzTab w) : Calls Tryd.prog 24 #[] w fun e w' => e = .returned (.bool true) ∧ Ext w w' := by
  go_enter Tryd.func24, Tryd.ntmps24
  go_wp2_with fail
  refine (four_c _).mono ?_
  rintro e w1 ⟨g1, rfl, hs1, E1⟩
  go_wp2_with fail
  refine (two_c 9 9 _).mono ?_
  rintro e w2 ⟨p2, rfl, hl2, E2⟩
  go_wp2_with fail
  have E := E1.trans E2
  refine (count_c fourS (some ⟨g1, 0, none⟩) 4 (twoL 9 9) (some ⟨p2, 0, none⟩) 2 _ (hs1.ext E2) hl2 (hT.ext E)).mono ?_
  rintro e w3 ⟨rfl, E3⟩
  rw [four_countI.1, four_countI.2]
  replace E := E.trans E3
  clear E1 E2 E3
  go_wp2_with fail
  refine (four_c _).mono ?_
  rintro e w4 ⟨g4, rfl, hs4, E4⟩
  go_wp2_with fail
  refine (two_c 9 9 _).mono ?_
  rintro e w5 ⟨p5, rfl, hl5, E5⟩
  replace E := (E.trans E4).trans E5
  go_wp2_with fail
  refine (compose_c fourS (some ⟨g4, 0, none⟩) 4 (twoL 9 9) (some ⟨p5, 0, none⟩) 2 _ (hs4.ext E5) hl5 (hT.ext E)).mono ?_
  rintro e w6 ⟨C6, cc6, rfl, hc6, -, E6⟩
  rw [four_compose.2] at hc6
  rw [four_compose.1, four_compose.2, show best99.length = 2 from rfl]
  replace E := E.trans E6
  clear E4 E5 E6 hs1 hl2 hs4 hl5
  go_wp2_with fail
  refine (four_c _).mono ?_
  rintro e w7 ⟨g7, rfl, hs7, E7⟩
  go_wp2_with fail
  refine (two_c 9 1 _).mono ?_
  rintro e w8 ⟨p8, rfl, hl8, E8⟩
  replace E := (E.trans E7).trans E8
  replace hc6 := hc6.ext (E7.trans E8)
  go_wp2_with fail
  refine (compose_c fourS (some ⟨g7, 0, none⟩) 4 (twoL 9 1) (some ⟨p8, 0, none⟩) 2 _ (hs7.ext E8) hl8 (hT.ext E)).mono ?_
  rintro e w9 ⟨C9, cc9, rfl, hc9, -, E9⟩
  rw [four_compose1.2] at hc9
  rw [four_compose1.1, four_compose1.2, show best91.length = 3 from rfl]
  replace E := E.trans E9
  replace hc6 := hc6.ext E9
  clear E7 E8 E9 hs7 hl8
  go_wp2_with fail
  refine (four_c _).mono ?_
  rintro e w10 ⟨g10, rfl, hs10, E10⟩
  go_wp2_with fail
  refine (two_c 9 9 _).mono ?_
  rintro e w11 ⟨p11, rfl, hl11, E11⟩
  replace E := (E.trans E10).trans E11
  replace hc6 := hc6.ext (E10.trans E11)
  replace hc9 := hc9.ext (E10.trans E11)
  replace hs10 := hs10.ext E11
  clear E10 E11
  go_wp2_with fail
  refine (at7_c _ _ _ _ _ _).mono ?_
  rintro e w12 ⟨rfl, E0⟩
  replace E := E.trans E0
  replace hc6 := hc6.ext E0
  replace hc9 := hc9.ext E0
  replace hs10 := hs10.ext E0
  replace hl11 := hl11.ext E0
  clear E0
  go_wp2_with fail
  refine (at7_c _ _ _ _ _ _).mono ?_
  rintro e w13 ⟨rfl, E0⟩
  replace E := E.trans E0
  replace hc6 := hc6.ext E0
  replace hc9 := hc9.ext E0
  replace hs10 := hs10.ext E0
  replace hl11 := hl11.ext E0
  clear E0
  go_wp2_with fail
  refine (at7_c _ _ _ _ _ _).mono ?_
  rintro e w14 ⟨rfl, E0⟩
  replace E := E.trans E0
  replace hc6 := hc6.ext E0
  replace hc9 := hc9.ext E0
  replace hs10 := hs10.ext E0
  replace hl11 := hl11.ext E0
  clear E0
  go_wp2_with fail
  refine (at7_c _ _ _ _ _ _).mono ?_
  rintro e w15 ⟨rfl, E0⟩
  replace E := E.trans E0
  replace hc6 := hc6.ext E0
  replace hc9 := hc9.ext E0
  replace hs10 := hs10.ext E0
  replace hl11 := hl11.ext E0
  clear E0
  have B16 := Blk.new w15 #[.int .i64 0, .int .i64 0, .int .i64 0, .int .i64 0, .bool false, .int .i64 0, .int .i64 1, .int .i64 0, .int .i64 0, .bool false, .int .i64 0, .int .i64 0, .int .i64 0, .int .i64 1, .bool false, .int .i64 0, .int .i64 1, .int .i64 0, .int .i64 1, .bool false] 85
  have E16 := ext_alloc w15 (.cells #[.int .i64 0, .int .i64 0, .int .i64 0, .int .i64 0, .bool false, .int .i64 0, .int .i64 1, .int .i64 0, .int .i64 0, .bool false, .int .i64 0, .int .i64 0, .int .i64 0, .int .i64 1, .bool false, .int .i64 0, .int .i64 1, .int .i64 0, .int .i64 1, .bool false] 85)
  have h16 : Laids _ (some ⟨w15.heap.size, 0, none⟩) 4 four4 := blk_slice B16 rfl (by decide +kernel) rfl (by show 4 ≤ maxLen; decide)
  replace E := E.trans E16
  replace hc6 := hc6.ext E16
  replace hc9 := hc9.ext E16
  go_wp2_with fail
  refine (weakTop_c fourS (some ⟨g10, 0, none⟩) 4 (twoL 9 9) (some ⟨p11, 0, none⟩) 2 four4 (some ⟨w15.heap.size, 0, none⟩) 4 (by decide) _ (hs10.ext E16) (hl11.ext E16) h16 (hT.ext E)).mono ?_
  rintro e w17 ⟨rfl, E17⟩
  rw [four_weak.1, four_weak.2]
  replace E := E.trans E17
  replace hc6 := hc6.ext E17
  replace hc9 := hc9.ext E17
  clear E16 E17 h16 B16 hs10 hl11
  have B17 := Blk.new w17 #[.int .u8 1, .int .u8 2] 5
  have E17 := ext_alloc w17 (.cells #[.int .u8 1, .int .u8 2] 5)
  have hs17 : Bytes _ (some ⟨w17.heap.size, 0, none⟩) 2 [1, 2] := ⟨blk_slice B17 rfl (by simp) rfl (by show 2 ≤ maxLen; decide), fun c hc => by
    simp only [List.mem_cons, List.not_mem_nil, or_false] at hc
    unfold byteOk
    omega⟩
  go_wp2_with fail
  refine (two_c 9 9 _).mono ?_
  rintro e w18 ⟨p18, rfl, hl18, E18⟩
  replace E := (E.trans E17).trans E18
  replace hc6 := hc6.ext (E17.trans E18)
  replace hc9 := hc9.ext (E17.trans E18)
  go_wp2_with fail
  refine (compose_c pairS (some ⟨w17.heap.size, 0, none⟩) 2 (twoL 9 9) (some ⟨p18, 0, none⟩) 2 _ (hs17.ext E18) hl18 (hT.ext E)).mono ?_
  rintro e w19 ⟨C19, cc19, rfl, -, -, E19⟩
  rw [pair_compose.1, pair_compose.2]
  replace E := E.trans E19
  replace hc6 := hc6.ext E19
  replace hc9 := hc9.ext E19
  clear E17 E18 E19 B17 hs17 hl18
  go_wp2_with fail
  refine (at7_c _ _ _ _ _ _).mono ?_
  rintro e w20 ⟨rfl, E0⟩
  replace E := E.trans E0
  replace hc6 := hc6.ext E0
  replace hc9 := hc9.ext E0
  clear E0
  go_wp2_with fail
  refine (at7_c _ _ _ _ _ _).mono ?_
  rintro e w21 ⟨rfl, E0⟩
  replace E := E.trans E0
  replace hc6 := hc6.ext E0
  replace hc9 := hc9.ext E0
  clear E0
  have B22 := Blk.new w21 #[.int .i64 1, .int .i64 0, .int .i64 0, .int .i64 0, .bool true, .int .i64 1, .int .i64 0, .int .i64 0, .int .i64 1, .bool true] 85
  have E22 := ext_alloc w21 (.cells #[.int .i64 1, .int .i64 0, .int .i64 0, .int .i64 0, .bool true, .int .i64 1, .int .i64 0, .int .i64 0, .int .i64 1, .bool true] 85)
  have h22 : Laids _ (some ⟨w21.heap.size, 0, none⟩) 2 best99 := blk_slice B22 rfl (by decide +kernel) rfl (by show 2 ≤ maxLen; decide)
  replace E := E.trans E22
  replace hc6 := hc6.ext E22
  replace hc9 := hc9.ext E22
  go_wp2_with fail
  refine (sameLaid_c C6 (some ⟨w21.heap.size, 0, none⟩) 2 cc6 2 best99 rfl _ hc6 h22).mono ?_
  rintro e w23 ⟨rfl, E23⟩
  replace E := E.trans E23
  replace hc9 := hc9.ext E23
  clear hc6 h22 E22 E23 B22
  go_wp2_with fail
  refine (at7_c _ _ _ _ _ _).mono ?_
  rintro e w24 ⟨rfl, E0⟩
  replace E := E.trans E0
  replace hc9 := hc9.ext E0
  clear E0
  go_wp2_with fail
  refine (at7_c _ _ _ _ _ _).mono ?_
  rintro e w25 ⟨rfl, E0⟩
  replace E := E.trans E0
  replace hc9 := hc9.ext E0
  clear E0
  go_wp2_with fail
  refine (at7_c _ _ _ _ _ _).mono ?_
  rintro e w26 ⟨rfl, E0⟩
  replace E := E.trans E0
  replace hc9 := hc9.ext E0
  clear E0
  have B27 := Blk.new w26 #[.int .i64 0, .int .i64 0, .int .i64 0, .int .i64 0, .bool false, .int .i64 0, .int .i64 1, .int .i64 0, .int .i64 0, .bool false, .int .i64 1, .int .i64 0, .int .i64 0, .int .i64 1, .bool true] 85
  have E27 := ext_alloc w26 (.cells #[.int .i64 0, .int .i64 0, .int .i64 0, .int .i64 0, .bool false, .int .i64 0, .int .i64 1, .int .i64 0, .int .i64 0, .bool false, .int .i64 1, .int .i64 0, .int .i64 0, .int .i64 1, .bool true] 85)
  have h27 : Laids _ (some ⟨w26.heap.size, 0, none⟩) 3 best91 := blk_slice B27 rfl (by decide +kernel) rfl (by show 3 ≤ maxLen; decide)
  replace E := E.trans E27
  replace hc9 := hc9.ext E27
  go_wp2_with fail
  refine (sameLaid_c C9 (some ⟨w26.heap.size, 0, none⟩) 3 cc9 3 best91 rfl _ hc9 h27).mono ?_
  rintro e w28 ⟨rfl, E28⟩
  replace E := E.trans E28
  go_wp2_with fail
  go_ret
  exact ⟨rfl, E⟩
end Go.Proofs.YtpikemglnnjemaaDoor

namespace Go.Proofs.YtpikemglnnjemaaDoor
open Go.RowKit

theorem beforeL_drop {c d : List Laid} {k : Nat} (h1 : k < c.length) (h2 : k < d.length) : beforeL (c.drop k) (d.drop k) = if c[k].plate ≠ d[k].plate then decide (c[k].plate < d[k].plate) else if c[k].turned ≠ d[k].turned then d[k].turned else beforeL (c.drop (k + 1)) (d.drop (k + 1)) := by
  rw [List.drop_eq_getElem_cons h1, List.drop_eq_getElem_cons h2]
  rw [beforeL]

set_option maxRecDepth 100000 in
set_option maxHeartbeats 3000000 in
theorem beforeC_c (A1 A2 : Option Addr) (n c1 c2 : Nat) (c d : List Laid) (hcn : c.length = n) (hdn : d.length = n) (w : World) (h1 : Laids w A1 c1 c) (h2 : Laids w A2 c2 d) :
    Calls Tryd.prog 31 #[.slice A1 n c1, .slice A2 n c2] w fun e w' => e = .returned (.bool (beforeL c d)) ∧ Ext w w' := by
  have hn : n ≤ maxLen := by rw [← hcn]; exact Nat.le_trans h1.le h1.small
  unfold maxLen at hn
  go_enter Tryd.func31, Tryd.ntmps31
  go_wp2_with fail
  go_loopw [8] (fun i wr => ∃ k : Nat, k ≤ n ∧ i = .int .i64 k ∧ Ext w wr ∧ beforeL c d = beforeL (c.drop k) (d.drop k)) (fun i _ => n - (intOf i).toNat)
  case atStart => exact ⟨0, by omega, rfl, Ext.refl _, rfl⟩
  case round =>
    obtain ⟨k, hk, rfl, E, hb⟩ := hrel
    by_cases hlt : k < n
    · have hk1 : k < c.length := by omega
      have hk2 : k < d.length := by omega
      have hg : (c.map Laid.cells)[k]? = some c[k].cells := by rw [List.getElem?_map, List.getElem?_eq_getElem hk1]; rfl
      have hg' : (d.map Laid.cells)[k]? = some d[k].cells := by rw [List.getElem?_map, List.getElem?_eq_getElem hk2]; rfl
      rw [beforeL_drop hk1 hk2] at hb
      obtain ⟨⟨a, x, y, z, t⟩, hx⟩ : ∃ x, c[k] = x := ⟨_, rfl⟩
      obtain ⟨⟨a', x', y', z', t'⟩, hx'⟩ : ∃ x, d[k] = x := ⟨_, rfl⟩
      rw [hx] at hg hb
      rw [hx'] at hg' hb
      clear hx hx'
      obtain ⟨p, poff, rfl, hp, hpc⟩ := h1.cells (by omega)
      obtain ⟨q, qoff, rfl, hq, hqc⟩ := h2.cells (by omega)
      have p0 := E.cell (hpc k _ hg 0 _ rfl)
      have p4 := E.cell (hpc k _ hg 4 _ rfl)
      have q0 := E.cell (hqc k _ hg' 0 _ rfl)
      have q4 := E.cell (hqc k _ hg' 4 _ rfl)
      simp only [Nat.add_zero] at p0 q0
      have hpr : p < wr.heap.size := Nat.lt_of_lt_of_le hp E.size
      have hqr : q < wr.heap.size := Nat.lt_of_lt_of_le hq E.size
      simp only at hb
      have Hb := Lib.hid hb
      clear hpc hqc hg hg' hcn hdn hb
      go_wp2_with fail
      refine wp_region_grow (by kernel_rfl) (by kernel_rfl) ?_
      repeat (go_big_quiet_step (fail))
      refine wpQuiet_nil ?_
      intro W3 hW3
      have E3 : Ext wr W3 := by
        obtain ⟨x, rfl⟩ := hW3
        exact (Ext.refl _).grow x
      clear hW3
      obtain ⟨hcW3, hfW3, hzW3⟩ := ext_facts E3
      have hpr := Nat.lt_of_lt_of_le hpr E3.size
      have hqr := Nat.lt_of_lt_of_le hqr E3.size
      have p0 := E3.cell p0
      have p4 := E3.cell p4
      have q0 := E3.cell q0
      have q4 := E3.cell q4
      replace E := E.trans E3
      by_cases hpl : a = a'
      · subst hpl
        go_wp2_with fail
        refine wp_region_grow (by kernel_rfl) (by kernel_rfl) ?_
        repeat (go_big_quiet_step (fail))
        refine wpQuiet_nil ?_
        intro W4 hW4
        have E4 : Ext W3 W4 := by
          obtain ⟨x, rfl⟩ := hW4
          exact (Ext.refl _).grow x
        clear hW4
        obtain ⟨hcW4, hfW4, hzW4⟩ := ext_facts E4
        have hpr := Nat.lt_of_lt_of_le hpr E4.size
        have hqr := Nat.lt_of_lt_of_le hqr E4.size
        have p0 := E4.cell p0
        have p4 := E4.cell p4
        have q0 := E4.cell q0
        have q4 := E4.cell q4
        replace E := E.trans E4
        cases t
        · cases t'
          · have hr : beforeL c d = beforeL (c.drop (k + 1)) (d.drop (k + 1)) := by rw [Hb.out]; simp
            have Hr := Lib.hid hr
            clear hr
            go_wp2_with fail
            go_roundw
            case rel => exact ⟨k + 1, by omega, by go_num, E, Hr.out⟩
            case measure => simp only [intOf]; omega
          · have hr : beforeL c d = true := by rw [Hb.out]; simp
            have Hr := Lib.hid hr
            clear hr
            go_wp2_with fail
            go_ret
            exact ⟨by rw [Hr.out] <;> rfl, E⟩
        · cases t'
          · have hr : beforeL c d = false := by rw [Hb.out]; simp
            have Hr := Lib.hid hr
            clear hr
            go_wp2_with fail
            go_ret
            exact ⟨by rw [Hr.out] <;> rfl, E⟩
          · have hr : beforeL c d = beforeL (c.drop (k + 1)) (d.drop (k + 1)) := by rw [Hb.out]; simp
            have Hr := Lib.hid hr
            clear hr
            go_wp2_with fail
            go_roundw
            case rel => exact ⟨k + 1, by omega, by go_num, E, Hr.out⟩
            case measure => simp only [intOf]; omega
      · have hr : beforeL c d = decide (a < a') := by rw [Hb.out]; simp [hpl]
        have Hr := Lib.hid hr
        have hp2 : (a == a') = false := by simpa using hpl
        have hp3 : (a != a') = true := by simpa using hpl
        clear hr
        go_wp2_with fail
        refine wp_region_grow (by kernel_rfl) (by kernel_rfl) ?_
        repeat (go_big_quiet_step (fail))
        refine wpQuiet_nil ?_
        intro W4 hW4
        have E4 : Ext W3 W4 := by
          obtain ⟨x, rfl⟩ := hW4
          exact (Ext.refl _).grow x
        clear hW4
        obtain ⟨hcW4, hfW4, hzW4⟩ := ext_facts E4
        go_wp2_with fail
        go_ret
        exact ⟨by rw [Hr.out] <;> rfl, E.trans E4⟩
    · obtain rfl : k = n := by omega
      have hb' : beforeL c d = false := by
        rw [hb, List.drop_of_length_le (by omega)]
        rfl
      clear hcn hdn hb
      go_wp2_with fail
      go_ret
      exact ⟨by rw [hb'] <;> rfl, E⟩
end Go.Proofs.YtpikemglnnjemaaDoor

namespace Go.Proofs.YtpikemglnnjemaaDoor
open Go.RowKit

def largeB (s : Shape) : Bool := decide (600 < s.cells.length) || (s.valid && decide (9 < fullN s.cells))
set_option maxRecDepth 100000 in
set_option maxHeartbeats 1600000 in
theorem large_c (s : Shape) (A : Option Addr) (cap : Nat) (w : World) (hs : Bytes w A cap s.cells) :
    Calls Tryd.prog 25 #[.agg #[.int .i64 s.W, .int .i64 s.D, .int .i64 s.H, .slice A s.cells.length cap]] w fun e w' => e = .returned (.bool (largeB s)) ∧ Ext w w' := by
  obtain ⟨W1, hW1, E1, B1, hz1⟩ := box_ w #[.int .i64 s.W, .int .i64 s.D, .int .i64 s.H, .slice A s.cells.length cap] 24
  have b1 := B1.cell
  have hlen := hs.len
  unfold maxLen at hlen
  obtain ⟨vv, hv⟩ : ∃ vv, s.valid = vv := ⟨_, rfl⟩
  obtain ⟨k, hk⟩ : ∃ k, fullN s.cells = k := ⟨_, rfl⟩
  have hkl : k ≤ s.cells.length := by rw [← hk]; exact fullN_le _
  have Hr : Hid (largeB s = (decide (600 < s.cells.length) || (vv && decide (9 < k)))) := Lib.hid (by unfold largeB; rw [hv, hk])
  have Hv := Lib.hid hv
  have Hk := Lib.hid hk
  by_cases hl : 600 < s.cells.length
  · have hr : largeB s = true := by rw [Hr.out]; simp [hl]
    have HR := Lib.hid hr
    clear hv hk hr
    go_enter Tryd.func25, Tryd.ntmps25
    go_wp2_with fail
    go_ret
    exact ⟨by rw [HR.out] <;> rfl, E1⟩
  · have hr : largeB s = (vv && decide (9 < k)) := by rw [Hr.out]; simp [hl]
    have HR := Lib.hid hr
    clear hv hk hr
    cases vv
    · go_enter Tryd.func25, Tryd.ntmps25
      go_wp2_with fail
      refine (validShape_c A cap s.W s.D s.H s.cells _ (hs.ext E1)).mono ?_
      rintro e w2 ⟨rfl, E2⟩
      rw [show Shape.valid ⟨s.W, s.D, s.H, s.cells⟩ = false from Hv.out]
      go_wp2_with fail
      go_ret
      exact ⟨by rw [HR.out] <;> simp [hl] <;> omega, E1.trans E2⟩
    · go_enter Tryd.func25, Tryd.ntmps25
      go_wp2_with fail
      refine (validShape_c A cap s.W s.D s.H s.cells _ (hs.ext E1)).mono ?_
      rintro e w2 ⟨rfl, E2⟩
      rw [show Shape.valid ⟨s.W, s.D, s.H, s.cells⟩ = true from Hv.out]
      have b2 := (B1.ext E2).cell
      clear b1
      go_wp2_with fail
      refine (rFull_c A cap s.W s.D s.H s.cells _ (hs.ext (E1.trans E2))).mono ?_
      rintro e w3 ⟨rfl, E3⟩
      rw [Hk.out]
      go_wp2_with fail
      go_ret
      refine ⟨?_, (E1.trans E2).trans E3⟩
      rw [HR.out]
      refine congrArg (fun b => Ending.returned (Value.bool b)) ?_
      show (decide (600 < (s.cells.length : Int)) || decide (9 < (k : Int))) = (true && decide (9 < k))
      rw [Bool.eq_iff_iff]
      simp only [Bool.or_eq_true, Bool.true_and, decide_eq_true_eq]
      omega
end Go.Proofs.YtpikemglnnjemaaDoor

namespace Go.Proofs.YtpikemglnnjemaaDoor
open Go.RowKit

set_option maxRecDepth 100000 in
set_option maxHeartbeats 8000000 in
theorem best_walk (s : Shape) (A : Option Addr) (cap : Nat) (l : List Plate) (PA : Option Addr) (pcap : Nat) (c : List Laid) (CA : Option Addr) (ccap : Nat) (w : World) (hs : Bytes w A cap s.cells) (hl : Plates w PA pcap l) (hcs : Laids w CA ccap c) (hT : TzTab w) :
    Calls Tryd.prog 7 #[.agg #[.int .i64 s.W, .int .i64 s.D, .int .i64 s.H, .slice A s.cells.length cap], .slice PA l.length pcap, .slice CA c.length ccap] w fun e w' => e = .returned (.bool true) ∧ Ext w w' := by
  have hn2 := hl.len
  have hn3 := hcs.len
  unfold maxLen at hn2 hn3
  obtain ⟨W1, hW1, E1, B1, hz1⟩ := box_ w #[.int .i64 s.W, .int .i64 s.D, .int .i64 s.H, .slice A s.cells.length cap] 24
  go_enter Tryd.func7, Tryd.ntmps7
  go_wp2_with fail
  refine (alive_c _ (hT.ext E1)).mono ?_
  rintro e W2 ⟨rfl, E2⟩
  have E := E1.trans E2
  have B := B1.ext E2
  clear E1 E2 B1 hz1 hW1
  have b1 := B.cell
  go_wp2_with fail
  refine (large_c s A cap _ (hs.ext E)).mono ?_
  rintro e W3 ⟨rfl, E3⟩
  replace E := E.trans E3
  replace B := B.ext E3
  clear b1 E3
  have b1 := B.cell
  obtain ⟨lb, hlb⟩ : ∃ lb, largeB s = lb := ⟨_, rfl⟩
  rw [hlb]
  clear hlb
  cases lb
  · by_cases hll : 20 < l.length
    · go_wp2_with fail
      go_ret
      exact ⟨rfl, E⟩
    · by_cases hcl : 30 < c.length
      · go_wp2_with fail
        go_ret
        exact ⟨rfl, E⟩
      · have hcl1 : c.length ≤ 1000 := by omega
        go_wp2_with fail
        refine (compose_c s A cap l PA pcap _ (hs.ext E) (hl.ext E) (hT.ext E)).mono ?_
        rintro e W4 ⟨LA, lc, rfl, hL, hLn, E4⟩
        replace E := E.trans E4
        replace B := B.ext E4
        clear b1 E4
        have b1 := B.cell
        go_wp2_with fail
        refine (hangsTop_c s A cap l PA pcap c CA ccap hcl1 _ (hs.ext E) (hl.ext E) (hcs.ext E) (hT.ext E)).mono ?_
        rintro e W5 ⟨rfl, E5⟩
        replace E := E.trans E5
        replace B := B.ext E5
        replace hL := hL.ext E5
        clear b1 E5
        have b1 := B.cell
        obtain ⟨e0, he0⟩ : ∃ e0, compErr s l c = e0 := ⟨_, rfl⟩
        obtain ⟨hg, hhg⟩ : ∃ hg, hangR s l c = hg := ⟨_, rfl⟩
        obtain ⟨eE, heE⟩ : ∃ eE, composeE s l = eE := ⟨_, rfl⟩
        rw [he0, hhg, heE]
        by_cases h6 : eE = 6
        · subst h6
          obtain ⟨k1, k2⟩ := compose_six heE
          rw [k1]
          rw [k2] at hhg
          subst hhg
          clear he0 heE k1 k2 hL
          by_cases h0 : e0 = 0
          · subst h0
            go_wp2_with fail
            go_ret
            exact ⟨rfl, E⟩
          · have h1 : (e0 != 0) = true := by simpa using h0
            have h2 : (e0 == 0) = false := by simpa using h0
            go_wp2_with fail
            go_ret
            exact ⟨by simp [h0], E⟩
        · by_cases hz : eE = 0
          · subst hz
            obtain ⟨L0, L1, L2⟩ := compose_best heE
            have L3 := L2 c
            obtain ⟨L, hLL⟩ : ∃ L, composeL s l = L := ⟨_, rfl⟩
            rw [hLL] at hL hLn L0 L1 L3 ⊢
            have H0 := Lib.hid L0
            have H1 := Lib.hid L1
            have H3 := Lib.hid L3
            have Hhg := Lib.hid hhg
            have He0 := Lib.hid he0
            have hLn1 : L.length ≤ 1000 := by omega
            clear L0 L1 L2 L3 hhg he0 heE hLL
            go_wp2_with fail
            refine (hangsTop_c s A cap l PA pcap L LA lc hLn1 _ (hs.ext E) (hl.ext E) hL (hT.ext E)).mono ?_
            rintro e W6 ⟨rfl, E6⟩
            replace E := E.trans E6
            replace B := B.ext E6
            replace hL := hL.ext E6
            clear b1 E6
            have b1 := B.cell
            rw [H0.out, H1.out]
            go_wp2_with fail
            refine (weakTop_c s A cap l PA pcap L LA lc hLn1 _ (hs.ext E) (hl.ext E) hL (hT.ext E)).mono ?_
            rintro e W7 ⟨rfl, E6⟩
            replace E := E.trans E6
            replace B := B.ext E6
            replace hL := hL.ext E6
            clear b1 E6
            have b1 := B.cell
            rw [H0.out]
            obtain ⟨wL, hwL⟩ : ∃ wL, weakR s l L = wL := ⟨_, rfl⟩
            rw [hwL]
            have HwL := Lib.hid hwL
            clear hwL
            go_wp2_with fail
            refine (check_c s A cap l PA pcap L LA lc hLn1 _ (hs.ext E) (hl.ext E) hL).mono ?_
            rintro e W8 ⟨rfl, E6⟩
            replace E := E.trans E6
            replace B := B.ext E6
            replace hL := hL.ext E6
            clear b1 E6
            have b1 := B.cell
            rw [H0.out]
            by_cases h0 : e0 = 0
            · subst h0
              cases hg
              · go_wp2_with fail
                go_ret
                exact ⟨rfl, E⟩
              · have hLE := H3.out Hhg.out
                obtain ⟨hle, hrest⟩ := hLE
                by_cases hlt : L.length < c.length
                · clear hrest
                  go_wp2_with fail
                  go_ret
                  exact ⟨rfl, E⟩
                · have heq : L.length = c.length := by omega
                  have hR := hrest heq
                  rw [HwL.out] at hR
                  obtain ⟨wc, hwc⟩ : ∃ wc, weakR s l c = wc := ⟨_, rfl⟩
                  rw [hwc] at hR
                  obtain ⟨hR1, hR2⟩ := hR
                  have HR2 := Lib.hid hR2
                  have Heq := Lib.hid heq
                  have Hwc := Lib.hid hwc
                  clear hrest hR2 hwc
                  go_wp2_with fail
                  refine (weakTop_c s A cap l PA pcap c CA ccap hcl1 _ (hs.ext E) (hl.ext E) (hcs.ext E) (hT.ext E)).mono ?_
                  rintro e W9 ⟨rfl, E6⟩
                  replace E := E.trans E6
                  replace B := B.ext E6
                  replace hL := hL.ext E6
                  clear b1 E6
                  have b1 := B.cell
                  rw [He0.out, Hwc.out]
                  have hle2 : wL ≤ wc := hR1
                  by_cases hww : wL < wc
                  · go_wp2_with fail
                    go_ret
                    exact ⟨by simp [hww], E⟩
                  · have hbf := HR2.out (by omega)
                    have Hbf := Lib.hid hbf
                    have HbC := Lib.hid (beforeC_c CA LA c.length ccap lc c L rfl Heq.out)
                    clear hbf
                    go_wp2_with fail
                    refine (HbC.out _ (hcs.ext E) hL).mono ?_
                    rintro e W10 ⟨rfl, E10⟩
                    rw [Hbf.out]
                    go_wp2_with fail
                    go_ret
                    exact ⟨by simp, E.trans E10⟩
            · have h1 : (e0 != 0) = true := by simpa using h0
              have h2 : (e0 == 0) = false := by simpa using h0
              go_wp2_with fail
              go_ret
              exact ⟨rfl, E⟩
          · have hb := compose_bad (by rw [heE]; exact hz) (by rw [heE]; exact h6) c
            rw [he0, heE] at hb
            subst hb
            have h1 : (e0 == 0) = false := by simpa using hz
            have h2 : (e0 != 0) = true := by simpa using hz
            have h3 : (e0 == 6) = false := by simpa using h6
            clear he0 hhg heE hL
            go_wp2_with fail
            go_ret
            exact ⟨by simp, E⟩
  · go_wp2_with fail
    go_ret
    exact ⟨rfl, E⟩
end Go.Proofs.YtpikemglnnjemaaDoor

namespace Go.Proofs.YtpikemglnnjemaaDoor
open Go.RowKit Go.ChangeShapes Go.WideShapes Go.ChangeAt Go.Deep Go.Joins

set_option maxRecDepth 100000 in
theorem best_lifted (os : Os) (started : os.Started) (H : Type) (enc : TypeId × Value → H) :
    ReturnsInHanded {} Tryd.checked os 7 .any (fun w args => (Rows.composeBestSpec.pre enc Tryd.prog Tryd.f7 [] false w args ∧ laidMetH Tryd.prog laidTab w) ∧ sizedMet enc Tryd.prog Tryd.f7 (OpenSpec.ofChange Rows.composeBestSpec) false w args)
      (Rows.composeBestSpec.post enc Tryd.prog Tryd.f7 false true false false) := by
  refine returnsInHanded_of_change_and (C := Tryd.checked) (X := fun w _ => laidMetH Tryd.prog laidTab w) (fun _ _ _ hh h => h.of_heap hh) Tryd.own started (by kernel_rfl) Tryd.func7
    (ChangeSpec.witness_at (enc := enc) (C := Tryd.checked) (os := os) (X := fun w _ => laidMetH Tryd.prog laidTab w) false (laidWorld os) #[.agg #[.int .i64 0, .int .i64 0, .int .i64 0, .slice none 0 0], .slice none 0 0, .slice none 0 0] 8 rfl (by kernel_rfl) (by kernel_rfl) (by kernel_rfl) (by kernel_rfl) (by kernel_rfl) (laidWorld_met os _)) ?_
  intro W base args ds gs before hval0 hW _ _ hL _
  have hval : ∀ (j : Nat) t v, Tryd.f7.params[j]? = some t → args[j]? = some v → Value.okWide Tryd.prog W .any base t v := hval0
  have hW' := hW
  obtain ⟨p, q, hA0, hV, rfl, hfz, hnd⟩ := hW
  have hA : DataW.TrodAll enc Tryd.prog W 0 (fun _ => true) true Tryd.f7.params.toList args.toList ds p := hA0
  rw [Tryd.params7] at hA hval
  have hAll := hA
  obtain ⟨v0, v1, v2, d0, d1, d2, p0, p1, p2, rfl, rfl, rfl, h0, h1, h2⟩ := trodAll_three hA
  obtain ⟨rfl, rfl⟩ := trodVars_none hV
  obtain ⟨c0, c1, c2, c3, y0, y1, y2, y3, m, rfl, rfl, rfl, hy0, hy1, hy2, hy3⟩ := open_agg4 Tryd.underlying24 (by kernel_rfl) cells_shape (hval 0 24 v0 rfl rfl) h0
  obtain ⟨x, e0, e0', -⟩ := DataW.trod_int Tryd.underlying3 hy0
  obtain ⟨y, e1, e1', -⟩ := DataW.trod_int Tryd.underlying3 hy1
  obtain ⟨z, e2, e2', -⟩ := DataW.trod_int Tryd.underlying3 hy2
  simp at e0 e1 e2
  subst e0 e1 e2
  have hc3 : ∃ A n ca, c3 = .slice A n ca := by
    rcases open_slice Tryd.underlying22 hy3 with ⟨h, _⟩ | ⟨a, len, cap', _, _, _, _, h, _⟩
    · exact ⟨none, 0, 0, by simpa using h⟩
    · exact ⟨some a, len, cap', by simpa using h⟩
  obtain ⟨A, n, ca, rfl⟩ := hc3
  obtain ⟨cs, hcl, hcs⟩ := bytes_of_trod hy3
  obtain ⟨B, n1, cb, rfl⟩ := okWide_slice Tryd.underlying25 (hval 1 25 v1 rfl rfl)
  obtain ⟨C, n2, cc, rfl⟩ := okWide_slice Tryd.underlying26 (hval 2 26 v2 rfl rfl)
  obtain ⟨fu1, hf1⟩ := h1
  obtain ⟨fu2, hf2⟩ := h2
  obtain ⟨l, rfl, hpl⟩ := plates_of_trod (by simpa [Value.cells] using hf1)
  obtain ⟨ls, rfl, hla⟩ := laids_of_trod (by simpa [Value.cells] using hf2)
  subst hcl
  clear hA0 hval0
  simp only [List.append_nil] at hW' hAll
  have hlt : ∀ q ∈ (y0.2 ++ (y1.2 ++ (y2.2 ++ y3.2))) ++ p1 ++ p2, q.block < W.heap.size := fun q hq => hW'.lt q hq
  refine (best_walk ⟨x, y, z, cs⟩ A ca l B cb ls C cc W hcs hpl hla (tz_of_laid hL)).mono fun e W' ⟨he, hE⟩ => ?_
  subst he
  refine ⟨_, rfl, ?_⟩
  refine ⟨_, _, _, [], (y0.2 ++ (y1.2 ++ (y2.2 ++ y3.2))) ++ p1 ++ p2, [], hW', ?_, ?_, rfl, hE.frame _, fun h => by cases h⟩
  · exact trodAll_mk1 (shut_bool Tryd.underlying4 true)
  · exact trodAll_ext (ts := [24, 25, 26]) Tryd.laidOut hE (by
      intro t ht
      simp only [List.mem_cons, List.not_mem_nil, or_false] at ht
      rcases ht with rfl | rfl | rfl <;> exact ⟨by kernel_rfl, of_decide_eq_true (by kernel_rfl)⟩) hAll hlt

theorem composeBest_row : Rows.ComposeBestSaid :=
  OpenClaim.holds_of_wide 7 Tryd.f7 rfl rfl rfl rfl rfl rfl rfl ⟨rfl, rfl, rfl, rfl, rfl⟩ rfl rfl rfl rfl rfl (by kernel_rfl) Tryd.func7 (by kernel_rfl)
    (of_decide_eq_true (by kernel_rfl)) (by unfold Func.isWrapper; rw [if_neg (of_decide_eq_false (by kernel_rfl))]; exact ⟨rfl, rfl⟩)
    (fun os started H enc _ => best_lifted os started H enc)
theorem composeBest_holds : Rows.ComposeBestCardSaid :=
  Claim7.holds_tied_plain_at .later [] [.data] true Rows.composeBestCard.stood.harness false
    composeBest_row (fun _ h => by cases h) (by kernel_rfl) (fun _ h => by cases h) composeBest_row_tie rfl ⟨rfl, rfl⟩ (by kernel_rfl) rfl
    (fun f fn hf hfn => by
      obtain rfl : f = 7 := Option.some.inj ((show Tryd.prog.funcNamed "studwork/studworklaw07.ComposeBest" = some 7 by kernel_rfl).symm.trans hf) |>.symm
      obtain rfl : fn = Tryd.f7 := (Option.some.inj (Tryd.func7.symm.trans hfn)).symm
      exact ⟨by kernel_rfl, fun j t ht => by
        rw [Tryd.params7] at ht
        have ht := List.mem_of_getElem? (show ([24, 25, 26] : List TypeId)[j]? = some t by simpa using ht)
        simp only [List.mem_cons, List.not_mem_nil, or_false] at ht
        rcases ht with rfl | rfl | rfl
        · exact (show Tryd.prog.wantsStandIn 24 = false by kernel_rfl)
        · exact (show Tryd.prog.wantsStandIn 25 = false by kernel_rfl)
        · exact (show Tryd.prog.wantsStandIn 26 = false by kernel_rfl)⟩)
    (by kernel_rfl)
#print axioms composeBest_holds
end Go.Proofs.YtpikemglnnjemaaDoor
