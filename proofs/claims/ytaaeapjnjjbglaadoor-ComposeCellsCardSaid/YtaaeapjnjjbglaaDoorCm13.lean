/- The reference's search of compositions, walked: the case of counting. weak of the program. firstOf: whether a composition is better than the best one so far. -/
import Derived.Test.YtaaeapjnjjbglaaDoorCm12
import Derived.Great.BuildSlice

namespace Go.Proofs.YtaaeapjnjjbglaaDoor
open Go.RowKit

/-- The best one so far, as the reference holds it. -/
def FoundAt (w : World) (best : Option (List Laid × Nat)) (wk : Int) (A : Option Addr) (bn bc : Nat) : Prop := match best with
  | none => A = none ∧ bn = 0 ∧ bc = 0 ∧ wk = 0
  | some b => (∃ a, A = some a ∧ a.block < w.heap.size) ∧ bn = b.1.length ∧ wk = (b.2 : Int) ∧ Laids w A bc b.1 ∧ b.1.length ≤ 100 ∧ b.2 ≤ 1000
theorem FoundAt.ext {w w' : World} {best : Option (List Laid × Nat)} {wk : Int} {A : Option Addr} {bn bc : Nat} (h : FoundAt w best wk A bn bc) (E : Ext w w') : FoundAt w' best wk A bn bc := by
  cases best with
  | none => exact h
  | some b =>
    obtain ⟨⟨a, h1, h2⟩, h3, h4, h5, h6⟩ := h
    exact ⟨⟨a, h1, Nat.lt_of_lt_of_le h2 E.size⟩, h3, h4, h5.ext E, h6⟩
theorem cellFar {w : World} {p q : Addr} {u v : Value} (h : w.cell? q = some v) (hb : q.block ≠ p.block) : (w.setCell p u).cell? q = some v := by
  unfold World.cell? at h ⊢
  rw [Below.heap_setCell w p u q.block hb]
  exact h
theorem SliceIs.far {w : World} {A : Option Addr} {n cap sz : Nat} {rows : List (List Value)} (h : SliceIs w A n cap sz rows) {p : Addr} (hp : ∀ a, A = some a → a.block ≠ p.block) (u : Value) : SliceIs (w.setCell p u) A n cap sz rows := by
  obtain ⟨h1, h2, h3, h4, h5⟩ := h
  refine ⟨h1, h2, h3, h4, fun hn => ?_⟩
  obtain ⟨b, off, hA, hb, hc⟩ := h5 hn
  exact ⟨b, off, hA, by simpa [World.setCell] using hb, fun i r hr j u hu => cellFar (hc i r hr j u hu) (show b ≠ p.block from hp _ hA)⟩
theorem FoundAt.far {w : World} {best : Option (List Laid × Nat)} {wk : Int} {A : Option Addr} {bn bc : Nat} (h : FoundAt w best wk A bn bc) {p : Addr} (hp : ∀ a, A = some a → a.block ≠ p.block) (u : Value) : FoundAt (w.setCell p u) best wk A bn bc := by
  cases best with
  | none => exact h
  | some b =>
    obtain ⟨⟨a, h1, h2⟩, h3, h4, h5, h6⟩ := h
    exact ⟨⟨a, h1, by simpa [World.setCell] using h2⟩, h3, h4, SliceIs.far h5 hp u, h6⟩
/-- Where the row of the best one may lie: where it lay, or in new memory. -/
def Since (BA A : Option Addr) (n : Nat) : Prop := ∀ a, A = some a → BA = some a ∨ n ≤ a.block
def RPost (BA : Option Addr) (st : Int × Option (List Laid × Nat)) (w : World) (e : Ending) (w' : World) : Prop := ∃ wk A bn bc, e = .returned (.agg #[.int .i64 st.1, .int .i64 wk, .slice A bn bc]) ∧ FoundAt w' st.2 wk A bn bc ∧ Since BA A w.heap.size ∧ Ext w w'
def RS (s : Shape) (A : Option Addr) (cap : Nat) (l : List Plate) (PA : Option Addr) (pcap : Nat) (cnt : Bool) (m : Nat) : Prop :=
  ∀ (c : List Laid) (all : List Nat) (cov : Nat) (CA : Option Addr) (cc : Nat) (n : Int) (best : Option (List Laid × Nat)) (wk : Int) (BA : Option Addr) (bn bc : Nat) (w : World), Part s l c all cov → fullN s.cells + 1 ≤ m + lowZ cov → (cnt = true → best = none) → Bytes w A cap s.cells → Plates w PA pcap l → Laids w CA cc c → (CA = none → cc = 0) → FoundAt w best wk BA bn bc →
    Calls Tryd.prog 42 #[.agg #[.int .i64 s.W, .int .i64 s.D, .int .i64 s.H, .slice A s.cells.length cap], .slice PA l.length pcap, .slice CA c.length cc, .agg #[.int .i64 n, .int .i64 wk, .slice BA bn bc], .bool cnt] w
      (RPost BA (rGrow s l cnt m (n, best) c all cov) w)
/-- What holds between two kids of the search. -/
def LoopAt (s : Shape) (l : List Plate) (cnt : Bool) (m : Nat) (c : List Laid) (all : List Nat) (cov : Nat) (st : Int × Option (List Laid × Nat)) (BA : Option Addr) (w0 : World) (S5 S8 S10 S11 : Nat) (sa ca : Array Value) (k : Nat) (w : World) : Prop :=
  ∃ wk A bn bc, Ext w0 w ∧ Blk w S5 24 sa ∧ Blk w S8 95 #[.int .i64 (growTo (rLong cnt) (rSee s l cnt) s l m c all cov st k).1, .int .i64 wk, .slice A bn bc] ∧ Blk w S10 95 #[.int .i64 0, .int .i64 0, .slice none 0 0] ∧
    Blk w S11 56 ca ∧ FoundAt w (growTo (rLong cnt) (rSee s l cnt) s l m c all cov st k).2 wk A bn bc ∧ ∀ a, A = some a → (BA = some a ∧ a.block < S5) ∨ S11 < a.block
theorem LoopAt.stay {s : Shape} {l : List Plate} {cnt : Bool} {m : Nat} {c : List Laid} {all : List Nat} {cov : Nat} {st : Int × Option (List Laid × Nat)} {BA : Option Addr} {w0 : World} {S5 S8 S10 S11 : Nat} {sa ca : Array Value} {k k' : Nat} {w w' : World} (h : LoopAt s l cnt m c all cov st BA w0 S5 S8 S10 S11 sa ca k w) (E : Ext w w')
    (hg : growTo (rLong cnt) (rSee s l cnt) s l m c all cov st k' = growTo (rLong cnt) (rSee s l cnt) s l m c all cov st k) : LoopAt s l cnt m c all cov st BA w0 S5 S8 S10 S11 sa ca k' w' := by
  obtain ⟨wk, A', bn, bc, E6, X5, X8, X10, X11, F6, G6⟩ := h
  unfold LoopAt
  rw [hg]
  exact ⟨wk, A', bn, bc, E6.trans E, X5.ext E, X8.ext E, X10.ext E, X11.ext E, F6.ext E, G6⟩
theorem infoLaid21 : (Tryd.prog.info? 64).map (fun i => (i.zero, i.size, i.bytes)) = some (some (.agg #[.int .i64 0, .int .i64 0, .int .i64 0, .int .i64 0, .bool false]), 5, 40) := by kernel_rfl
theorem empty_laid (w : World) : (Instr.buildSlice 27 0 #[]).run Tryd.prog w = .ok (.slice (some ⟨w.heap.size, 0, none⟩) 0 0) (w.alloc (.cells #[] 64)) := by
  obtain ⟨i, hi, hz, -, -⟩ := info_parts infoLaid21
  simp [Instr.buildSlice, run_underlying Tryd.underlying27, sizeOf, typeInfo, hi, newRow, Instr.fill]
  rw [show Array.range 0 = #[] from by simp [Array.range]]
  simp
theorem own_empty21 (w : World) {U : Nat} (hU : U ≤ w.heap.size) (e : TypeId) (sz : Nat) : (w.alloc (.cells #[] e)).ownsRow U e sz (.slice (some ⟨w.heap.size, 0, none⟩) 0 0) 0 [] := by
  exact World.ownsRow_made w #[] 0 hU (Nat.zero_le _) (by simp)
def cpOf : Value → Nat
  | .slice _ _ c => c
  | _ => 0
def aggA : Value → Array Value
  | .agg a => a
  | _ => #[]
/-- The result of a deeper search. -/
def ResAt (w : World) (st : Int × Option (List Laid × Nat)) (BA : Option Addr) (U : Nat) (v : Value) : Prop := ∃ wk A bn bc, v = .agg #[.int .i64 st.1, .int .i64 wk, .slice A bn bc] ∧ FoundAt w st.2 wk A bn bc ∧ Since BA A U
theorem ResAt.ext {w w' : World} {st : Int × Option (List Laid × Nat)} {BA : Option Addr} {U : Nat} {v : Value} (h : ResAt w st BA U v) (E : Ext w w') : ResAt w' st BA U v := by
  obtain ⟨wk, A, bn, bc, h1, h2, h3⟩ := h
  exact ⟨wk, A, bn, bc, h1, h2.ext E, h3⟩
/-- What stays while a kid is made. -/
structure Keep21 (w : World) (S5 S10 S11 T7 U : Nat) (sa ca xa : Array Value) (best : Option (List Laid × Nat)) (wk : Int) (A : Option Addr) (bn bc : Nat) : Prop where
  x5 : Blk w S5 24 sa
  x10 : Blk w S10 95 #[.int .i64 0, .int .i64 0, .slice none 0 0]
  x11 : Blk w S11 56 ca
  x7 : Blk w T7 64 xa
  fa : FoundAt w best wk A bn bc
  u : U ≤ w.heap.size
theorem Keep21.ext {w w' : World} {S5 S10 S11 T7 U : Nat} {sa ca xa : Array Value} {best : Option (List Laid × Nat)} {wk : Int} {A : Option Addr} {bn bc : Nat} (h : Keep21 w S5 S10 S11 T7 U sa ca xa best wk A bn bc) (E : Ext w w') : Keep21 w' S5 S10 S11 T7 U sa ca xa best wk A bn bc :=
  ⟨h.x5.ext E, h.x10.ext E, h.x11.ext E, h.x7.ext E, h.fa.ext E, Nat.le_trans h.u E.size⟩
/-- Behind the kid's region. -/
def DoneAt (w0 : World) (S5 S8 S10 S11 U : Nat) (sa ca : Array Value) (st : Int × Option (List Laid × Nat)) (BA : Option Addr) (w : World) (v : Value) : Prop :=
  ∃ wk A bn bc, v = .agg #[.int .i64 st.1, .int .i64 wk, .slice A bn bc] ∧ Ext w0 w ∧ Blk w S5 24 sa ∧ Blk w S8 95 #[.int .i64 st.1, .int .i64 wk, .slice A bn bc] ∧ Blk w S10 95 #[.int .i64 0, .int .i64 0, .slice none 0 0] ∧ Blk w S11 56 ca ∧ FoundAt w st.2 wk A bn bc ∧ Since BA A U
structure Rk (W0 W8 : World) (U : Nat) (PV CV : Value) (cnt : Bool) (nc : Nat) (rows : List (List Value)) (sa fa xa : Array Value) (st : Int × Option (List Laid × Nat)) (A : Option Addr) (D : World → Value → Prop) (L : Nat → Bool) (us : Nat → Value) (w : World) : Prop where
  x : Ext W0 w
  g1 : L 2 = true → L 4 = false → w.ownsRow U 64 5 (us 2) 0 []
  g2 : L 4 = true → L 7 = false → w.ownsRow U 64 5 (us 4) nc rows.flatten
  g3 : L 6 = true → L 7 = false → Blk w (bk (us 6)) 64 xa
  g4 : L 2 = true → L 6 = true → L 4 = false → (us 2).ownBlock ≠ some (bk (us 6))
  g6 : L 7 = true → L 11 = false → w.ownsRow U 64 5 (us 7) (nc + 1) (rows.flatten ++ xa.toList)
  g7 : L 11 = false → Ext W8 w
  g8 : L 11 = true → D w (us 10)
  f0 : L 0 = true → us 0 = .agg sa
  f1 : L 1 = true → us 1 = PV
  f3 : L 3 = true → us 3 = CV
  f5 : L 5 = true → us 5 = .agg xa
  f6 : L 6 = true → us 6 = .slice (some ⟨bk (us 6), 0, none⟩) 1 1
  f7 : L 7 = true → us 7 = .slice (some ⟨bk (us 7), 0, none⟩) (nc + 1) (cpOf (us 7))
  f8 : L 8 = true → us 8 = .agg fa
  f9 : L 9 = true → us 9 = .bool cnt
  f10 : L 10 = true → L 11 = false → ResAt w st A U (us 10)
theorem rowX21 {w : World} {g : Nat} {t : TypeId} {rows : List (List Value)} (h : Blk w g t (rowsA rows)) : RowX w g t rows := ⟨#[], by rw [Array.append_empty]; exact h⟩
theorem lds21 (c : List Laid) : ∀ u ∈ (c.map Laid.cells).flatten, u.oneCell' = true := fun u hu => by
  obtain ⟨r, hr, hu⟩ := List.mem_flatten.1 hu
  obtain ⟨x, -, rfl⟩ := List.mem_map.1 hr
  simp only [Laid.cells, List.mem_cons, List.not_mem_nil, or_false] at hu
  rcases hu with rfl | rfl | rfl | rfl | rfl <;> rfl
theorem rGrow_keep (s : Shape) (l : List Plate) : ∀ (f : Nat) (st : Int × Option (List Laid × Nat)) (c : List Laid) (all : List Nat) (cov : Nat), (rGrow s l true f st c all cov).2 = st.2
  | 0, _, _, _, _ => rfl
  | f + 1, st, c, all, cov => by
    show (if rLong true st c.length = true then st else if fullN s.cells ≤ lowZ cov then _ else _ : Int × Option (List Laid × Nat)).2 = st.2
    rw [show rLong true st c.length = false from rfl, if_neg (by simp)]
    split
    · rfl
    · have key : ∀ (q : List (Nat × Bool)) (st : Int × Option (List Laid × Nat)), (q.foldl (fun st q => match kidOk s l c cov q.1 q.2 with
            | none => st
            | some m => growS (rLong true) (rSee s l true) s l f st (c ++ [laidN s (lowZ cov) q.1 q.2]) (all ++ [m]) (cov ||| m)) st).2 = st.2 := by
        intro q
        induction q with
        | nil => intro st; rfl
        | cons p q ih =>
          intro st
          rw [List.foldl_cons, ih]
          cases kidOk s l c cov p.1 p.2 with
          | none => rfl
          | some m => exact rGrow_keep s l f _ _ _ _
      exact key (sorts l) st
theorem growTo_keep (s : Shape) (l : List Plate) (f : Nat) (c : List Laid) (all : List Nat) (cov : Nat) (st : Int × Option (List Laid × Nat)) (k : Nat) : (growTo (rLong true) (rSee s l true) s l f c all cov st k).2 = st.2 := by
  unfold growTo
  generalize (sorts l).take k = q
  induction q generalizing st with
  | nil => rfl
  | cons p q ih =>
    rw [List.foldl_cons, ih]
    unfold kidS
    cases kidOk s l c cov p.1 p.2 with
    | none => rfl
    | some m => exact rGrow_keep s l f _ _ _ _
theorem done21 {w0 w8 w : World} {S5 S8 S10 S11 T7 U : Nat} {sa ca xa : Array Value} {best : Option (List Laid × Nat)} {wk wk3 : Int} {A A3 : Option Addr} {bn bc bn3 bc3 : Nat} {r : Int × Option (List Laid × Nat)} {n0 : Int} (x : Ext w0 w) (x8 : Ext w8 w) (K : Keep21 w8 S5 S10 S11 T7 U sa ca xa best wk A bn bc) (B : Blk w8 S8 95 #[.int .i64 n0, .int .i64 wk, .slice A bn bc])
    (hS : S5 < S8 ∧ S8 < S10 ∧ S10 < S11) (hS5 : w0.heap.size = S5) (hU : S11 < U) (F3 : FoundAt w r.2 wk3 A3 bn3 bc3) (S3 : Since A A3 U) (G6 : ∀ a, A = some a → (A = some a ∧ a.block < S5) ∨ S11 < a.block) :
    DoneAt w0 S5 S8 S10 S11 U sa ca r A (((w.setCell ⟨S8, 0, none⟩ (.int .i64 r.1)).setCell ⟨S8, 1, none⟩ (.int .i64 wk3)).setCell ⟨S8, 2, none⟩ (.slice A3 bn3 bc3)) (.agg #[.int .i64 r.1, .int .i64 wk3, .slice A3 bn3 bc3]) ∧ Ext w0 (((w.setCell ⟨S8, 0, none⟩ (.int .i64 r.1)).setCell ⟨S8, 1, none⟩ (.int .i64 wk3)).setCell ⟨S8, 2, none⟩ (.slice A3 bn3 bc3)) := by
  have hfar : ∀ a, A3 = some a → a.block ≠ S8 := fun a ha => by
    rcases S3 a ha with h | h
    · rcases G6 a h with ⟨-, h2⟩ | h2 <;> omega
    · omega
  have E : Ext w0 (((w.setCell ⟨S8, 0, none⟩ (.int .i64 r.1)).setCell ⟨S8, 1, none⟩ (.int .i64 wk3)).setCell ⟨S8, 2, none⟩ (.slice A3 bn3 bc3)) := ((x.setCell (p := ⟨S8, 0, none⟩) (by simp only; omega) _).setCell (p := ⟨S8, 1, none⟩) (by simp only; omega) _).setCell (p := ⟨S8, 2, none⟩) (by simp only; omega) _
  refine ⟨⟨wk3, A3, bn3, bc3, rfl, E, ?_, ?_, ?_, ?_, ?_, S3⟩, E⟩
  · exact (((K.x5.ext x8).far (p := ⟨S8, 0, none⟩) (by simp only; omega) _).far (p := ⟨S8, 1, none⟩) (by simp only; omega) _).far (p := ⟨S8, 2, none⟩) (by simp only; omega) _
  · exact (((B.ext x8).set_ 0 _).set_ 1 _).set_ 2 _
  · exact (((K.x10.ext x8).far (p := ⟨S8, 0, none⟩) (by simp only; omega) _).far (p := ⟨S8, 1, none⟩) (by simp only; omega) _).far (p := ⟨S8, 2, none⟩) (by simp only; omega) _
  · exact (((K.x11.ext x8).far (p := ⟨S8, 0, none⟩) (by simp only; omega) _).far (p := ⟨S8, 1, none⟩) (by simp only; omega) _).far (p := ⟨S8, 2, none⟩) (by simp only; omega) _
  · exact ((F3.far (p := ⟨S8, 0, none⟩) hfar _).far (p := ⟨S8, 1, none⟩) hfar _).far (p := ⟨S8, 2, none⟩) hfar _
set_option maxRecDepth 100000 in
set_option maxHeartbeats 8000000 in
theorem rs_true (s : Shape) (A : Option Addr) (cap : Nat) (l : List Plate) (PA : Option Addr) (pcap : Nat) (ok : s.Ok) (okl : platesB l = true) (m : Nat) (ih : RS s A cap l PA pcap true m) : RS s A cap l PA pcap true (m + 1) := by
  intro c all cov CA cc n best wk BA bn bc w hP hm hb hs hl hc hnil hF
  obtain rfl := hb rfl
  obtain ⟨rfl, rfl, rfl, rfl⟩ := hF
  obtain ⟨W1, hW1, E1, B1, hz1⟩ := box_ w #[.int .i64 s.W, .int .i64 s.D, .int .i64 s.H, .slice A s.cells.length cap] 24
  obtain ⟨W2, hW2, E2, B2, hz2⟩ := box_ W1 #[.int .i64 n, .int .i64 0, .slice none 0 0] 95
  obtain ⟨W3, hW3, E3, B3, hz3⟩ := box_ W2 #[.int .i64 0, .int .i64 0, .slice none 0 0] 95
  have b1 := ((B1.ext E2).ext E3).cell
  have b2 := (B2.ext E3).cell
  have b3 := B3.cell
  have E := (E1.trans E2).trans E3
  have HB1 := Lib.hid ((B1.ext E2).ext E3)
  have HB2 := Lib.hid (B2.ext E3)
  have HB3 := Lib.hid B3
  have HE := Lib.hid E
  have HE1 := Lib.hid E1
  have HB2' := Lib.hid B2.lt
  have HB1' := Lib.hid B1.lt
  obtain ⟨hl1, hl2⟩ := part_len ok hP
  obtain ⟨f1, f2, f3⟩ := firstN_free ok hP.is
  by_cases hfull : fullN s.cells ≤ lowZ cov
  · have hfn : firstN s cov = s.cells.length := by unfold firstN; rw [if_pos hfull]
    have P1 := firstNone_c s A cap l PA pcap c CA cc ok okl (part_ok ok hP) (by omega) (firstN s cov) hfn f1 f2 W3 (hs.ext E) (hl.ext E) (hc.ext E)
    have Hr := Lib.hid (rGrow_end (l := l) (cnt := true) (f := m) (st := (n, none)) (all := all) (c := c) rfl hfull)
    clear hz1 hz2 hz3 B1 B2 B3 E1 E2 E3 E f1 f2 f3 hfn hfull hP hm hb hs hl hc hl1 hl2 ih
    go_enter Tryd.func42, Tryd.ntmps42
    go_wp2_with fail
    refine P1.mono ?_
    rintro e W4 ⟨rfl, E4⟩
    have HE4 := Lib.hid (HE.out.trans E4)
    have HB24 := Lib.hid (HB2.out.ext E4)
    have HB34 := Lib.hid (HB3.out.ext E4)
    have h21 := HB2'.out
    clear b1 b2 b3 hW1 hW2 hW3 P1 E4
    obtain ⟨S8, hS8⟩ : ∃ S, W1.heap.size = S := ⟨_, rfl⟩
    obtain ⟨S10, hS10⟩ : ∃ S, W2.heap.size = S := ⟨_, rfl⟩
    rw [hS8] at HB24 h21 ⊢
    rw [hS10] at HB34 h21 ⊢
    have hwS : w.heap.size ≤ S8 := by have := HE1.out.size; omega
    obtain ⟨W5, hW5, E5, B5, hz5⟩ := box_ W4 #[.int .i64 0, .int .i64 0, .int .i64 0] 56
    obtain ⟨T, hT⟩ : ∃ T, W4.heap.size = T := ⟨_, rfl⟩
    rw [hT] at B5
    have b5 := B5.cell
    have f5 := B5.frozen
    have l5 := B5.lt
    have HT := Lib.hid hT
    obtain ⟨V5, hV5⟩ : ∃ V, ((W5.setCell ⟨T, 0, none⟩ (.int .i64 0)).setCell ⟨T, 1, none⟩ (.int .i64 0)).setCell ⟨T, 2, none⟩ (.int .i64 0) = V := ⟨_, rfl⟩
    have EV : Ext W4 V5 := by
      rw [← hV5]
      exact ((E5.setCell (p := ⟨T, 0, none⟩) (Nat.le_of_eq hT) _).setCell (p := ⟨T, 1, none⟩) (Nat.le_of_eq hT) _).setCell (p := ⟨T, 2, none⟩) (Nat.le_of_eq hT) _
    have B2V := HB24.out.ext EV
    have B3V := HB34.out.ext EV
    have b2 := B2V.cell
    have f2 := B2V.frozen
    have l2 := B2V.lt
    obtain ⟨V6, hV6⟩ : ∃ V, V5.setCell ⟨S8, 0, none⟩ (.int .i64 (wrap64 (n + 1))) = V := ⟨_, rfl⟩
    have B26 := B2V.set_ 0 (.int .i64 (wrap64 (n + 1)))
    have B36 := B3V.far (p := ⟨S8, 0, none⟩) (by simp only; omega) (.int .i64 (wrap64 (n + 1)))
    have E6 := (HE4.out.trans EV).setCell (p := ⟨S8, 0, none⟩) hwS (.int .i64 (wrap64 (n + 1)))
    rw [hV6] at B26 B36 E6
    have b26 := B26.cell
    have b36 := B36.cell
    have f36 := B36.frozen
    have l36 := B36.lt
    have BX := ((B36.set_ 0 (.int .i64 (wrap64 (n + 1)))).set_ 1 (.int .i64 0)).set_ 2 (.slice none 0 0)
    have bx0 := Lib.hid (BX.cell 0)
    have bx1 := Lib.hid (BX.cell 1)
    have bx2 := Lib.hid (BX.cell 2)
    have HE6 := Lib.hid E6
    have Hw := Lib.hid hwS
    have H21 := Lib.hid h21
    clear BX B26 B36 E6 B2V B3V EV E5 B5 hz5 hwS h21 hS8 hS10
    go_wp2_with fail
    refine bodyPost_ret (by simp [results, Tryd.results42, go_sem, bx0.out, bx1.out, bx2.out]; try rfl) rfl ?_
    have q10 : w.heap.size ≤ S10 := by have := Hw.out; have := H21.out; omega
    rw [Hr.out]
    exact ⟨0, none, 0, 0, rfl, ⟨rfl, rfl, rfl, rfl⟩, nofun, ((HE6.out.setCell q10 _).setCell q10 _).setCell q10 _⟩
  · have hlt : lowZ cov < fullN s.cells := by omega
    have hfn : firstN s cov = placeN s (lowZ cov) := by unfold firstN; rw [if_neg hfull]
    obtain ⟨p1, -, -, -⟩ := place_num ok hlt
    have P1 := firstAt_c s A cap l PA pcap c CA cc ok okl (part_ok ok hP) (by omega) (firstN s cov) (by rw [hfn]; exact p1) f1 f2 W3 (hs.ext E) (hl.ext E) (hc.ext E)
    have Hr := Lib.hid (rGrow_go (l := l) (cnt := true) (f := m) (st := (n, none)) (all := all) (c := c) rfl hlt)
    rw [hfn] at P1
    obtain ⟨cx, hcx⟩ : ∃ x, ((placeN s (lowZ cov) : Nat) : Int) % s.W = x := ⟨_, rfl⟩
    obtain ⟨cy, hcy⟩ : ∃ x, ((placeN s (lowZ cov) : Nat) : Int) / s.W % s.D = x := ⟨_, rfl⟩
    obtain ⟨cz, hcz⟩ : ∃ x, ((placeN s (lowZ cov) : Nat) : Int) / s.W / s.D = x := ⟨_, rfl⟩
    rw [hcx, hcy, hcz] at P1
    have HX := Lib.hid (fun (i : Nat) (t : Bool) => show laidN s (lowZ cov) i t = ⟨i, cx, cy, cz, t⟩ by
      unfold laidN Shape.px Shape.py Shape.pz
      rw [hcx, hcy, hcz])
    have HP := Lib.hid hP
    have Hlt := Lib.hid hlt
    have Hm := Lib.hid hm
    have Hs := Lib.hid hs
    have Hl := Lib.hid hl
    have Hc := Lib.hid hc
    have Hnil := Lib.hid hnil
    have Hih := Lib.hid ih
    have hln := hl.len
    unfold maxLen at hln
    have Hlen := Lib.hid (show c.length ≤ 16 from hl2)
    clear hz1 hz2 hz3 B1 B2 B3 E1 E2 E3 E f1 f2 hfn hfull hP hm hb hs hl hc hl1 hl2 ih p1 hcx hcy hcz hlt hnil
    go_enter Tryd.func42, Tryd.ntmps42
    go_wp2_with fail
    refine P1.mono ?_
    rintro e W4 ⟨rfl, E4⟩
    have HE4 := Lib.hid (HE.out.trans E4)
    have HB14 := Lib.hid (HB1.out.ext E4)
    have HB24 := Lib.hid (HB2.out.ext E4)
    have HB34 := Lib.hid (HB3.out.ext E4)
    have h21 := HB2'.out
    clear b1 b2 b3 hW1 hW2 hW3 P1 E4
    obtain ⟨S5, hS5⟩ : ∃ S, w.heap.size = S := ⟨_, rfl⟩
    obtain ⟨S8, hS8⟩ : ∃ S, W1.heap.size = S := ⟨_, rfl⟩
    obtain ⟨S10, hS10⟩ : ∃ S, W2.heap.size = S := ⟨_, rfl⟩
    rw [hS5] at HB14 ⊢
    rw [hS8] at HB24 h21 ⊢
    rw [hS10] at HB34 h21 ⊢
    have hwS : S5 < S8 := by have := HB1'.out; omega
    obtain ⟨W5, hW5, E5, B5, hz5⟩ := box_ W4 #[.int .i64 0, .int .i64 0, .int .i64 0] 56
    obtain ⟨T, hT⟩ : ∃ T, W4.heap.size = T := ⟨_, rfl⟩
    rw [hT] at B5
    have b5 := B5.cell
    have f5 := B5.frozen
    have l5 := B5.lt
    have h3T : S10 < T := by have := HB34.out.lt; omega
    obtain ⟨V5, hV5⟩ : ∃ V, ((W5.setCell ⟨T, 0, none⟩ (.int .i64 cx)).setCell ⟨T, 1, none⟩ (.int .i64 cy)).setCell ⟨T, 2, none⟩ (.int .i64 cz) = V := ⟨_, rfl⟩
    have EV : Ext W4 V5 := by
      rw [← hV5]
      exact ((E5.setCell (p := ⟨T, 0, none⟩) (Nat.le_of_eq hT) _).setCell (p := ⟨T, 1, none⟩) (Nat.le_of_eq hT) _).setCell (p := ⟨T, 2, none⟩) (Nat.le_of_eq hT) _
    have B5V := ((B5.set_ 0 (.int .i64 cx)).set_ 1 (.int .i64 cy)).set_ 2 (.int .i64 cz)
    rw [hV5] at B5V
    have R0 : LoopAt s l true m c all cov (n, none) none w S5 S8 S10 T #[.int .i64 s.W, .int .i64 s.D, .int .i64 s.H, .slice A s.cells.length cap] #[.int .i64 cx, .int .i64 cy, .int .i64 cz] 0 V5 :=
      ⟨0, none, 0, 0, HE4.out.trans EV, HB14.out.ext EV, HB24.out.ext EV, HB34.out.ext EV, B5V, ⟨rfl, rfl, rfl, rfl⟩, nofun⟩
    have HR0 := Lib.hid R0
    have HS := Lib.hid (show S5 < S8 ∧ S8 < S10 ∧ S10 < T from ⟨hwS, h21, h3T⟩)
    have HS5 := Lib.hid hS5
    clear B5V EV E5 B5 hz5 hwS h21 hS8 hS10 hS5 h3T R0
    go_upto_region 14 with (fail)
    clear hT b5 f5 l5 hW5 hV5
    go_loopw [14] (fun p wr => ∃ i : Nat, i ≤ l.length ∧ p = .int .i64 i ∧ LoopAt s l true m c all cov (n, none) none w S5 S8 S10 T #[.int .i64 s.W, .int .i64 s.D, .int .i64 s.H, .slice A s.cells.length cap] #[.int .i64 cx, .int .i64 cy, .int .i64 cz] (2 * i) wr) (fun p _ => l.length - (intOf p).toNat)
    case atStart => exact ⟨0, by omega, rfl, HR0.out⟩
    case round =>
      obtain ⟨i, hi, rfl, HL⟩ := hrel
      replace HL := Lib.hid HL
      clear HR0
      by_cases hil : i < l.length
      · have i1 : (i : Int) < l.length := by omega
        go_upto_region 17 with (fail)
        go_loopw [15] (fun q wr => ∃ t : Nat, t ≤ 2 ∧ q = .int .i64 t ∧ LoopAt s l true m c all cov (n, none) none w S5 S8 S10 T #[.int .i64 s.W, .int .i64 s.D, .int .i64 s.H, .slice A s.cells.length cap] #[.int .i64 cx, .int .i64 cy, .int .i64 cz] (2 * i + t) wr) (fun q _ => 2 - (intOf q).toNat)
        case atStart => exact ⟨0, by omega, rfl, HL.out⟩
        case round =>
          clear HL
          obtain ⟨t, ht, rfl, HL⟩ := hrel
          replace HL := Lib.hid HL
          by_cases htl : t < 2
          · obtain ⟨tb, rfl⟩ : ∃ tb : Bool, t = tb.toNat := by
              rcases Nat.lt_or_ge t 1 with h | h
              · exact ⟨false, by show t = 0; omega⟩
              · exact ⟨true, by show t = 1; omega⟩
            have htb : (((tb.toNat : Nat) : Int) == 1) = tb := by cases tb <;> rfl
            have hlt2 : ((tb.toNat : Nat) : Int) < 2 := by cases tb <;> decide
            have hst := growTo_succ (rLong true) (rSee s l true) s l (f := m) (c := c) (all := all) (cov := cov) (st := (n, none)) hil tb
            obtain ⟨ko, hk⟩ : ∃ ko, kidOk s l c cov i tb = ko := ⟨_, rfl⟩
            have hfit : fitsB s l c ⟨i, cx, cy, cz, tb⟩ = ko.isSome := by
              rw [← HX.out, fits_kid ok okl HP.out Hlt.out hil tb, hk]
            obtain ⟨wk, A', bn, bc, E6, X5, X8, X10, X11, F6, G6⟩ := HL.out
            obtain ⟨W7, hW7, E7, B7, hz7⟩ := box_ wr #[.int .i64 (i : Int), .int .i64 cx, .int .i64 cy, .int .i64 cz, .bool tb] 64
            have PF := fits_c s A cap l PA pcap c CA cc ⟨i, cx, cy, cz, tb⟩ ok okl (part_ok ok HP.out) (by have := Hlen.out; omega) W7 (Hs.out.ext (E6.trans E7)) (Hl.out.ext (E6.trans E7)) (Hc.out.ext (E6.trans E7))
            rw [hfit] at PF
            have c5 := (X5.ext E7).cell
            have c11 := X11.cell
            have c7 := B7.cell
            have Hst := Lib.hid hst
            have Hk := Lib.hid hk
            have HE7 := Lib.hid E7
            have HB7 := Lib.hid B7
            clear hst hk hfit E6 X5 X8 X10 X11 F6 G6 E7 B7 hz7
            cases ko with
            | none =>
              go_wp2_with fail
              refine PF.mono ?_
              rintro e W8 ⟨rfl, E8⟩
              replace E8 := Lib.hid E8
              go_wp2_with fail
              go_roundw
              case rel => exact ⟨tb.toNat + 1, by cases tb <;> decide, by cases tb <;> go_num, HL.out.stay (HE7.out.trans E8.out) (by
                rw [← Nat.add_assoc, Hst.out]
                unfold kidS
                simp only [Hk.out])⟩
              case measure => simp only [intOf]; cases tb <;> simp <;> omega
            | some m' =>
              go_wp2_with fail
              refine PF.mono ?_
              rintro e W8 ⟨rfl, E8⟩
              replace E8 := Lib.hid E8
              clear c5 c11 hW7 PF
              go_upto_region 21 with (fail)
              obtain ⟨wk2, A2, bn2, bc2, E6, X5, X8, X10, X11, F6, G6⟩ := HL.out
              have EE := HE7.out.trans E8.out
              obtain ⟨g, hg⟩ : ∃ g, growTo (rLong true) (rSee s l true) s l m c all cov (n, none) (2 * i + tb.toNat) = g := ⟨_, rfl⟩
              rw [hg] at X8 F6
              obtain ⟨U, hU⟩ : ∃ U, W8.heap.size = U := ⟨_, rfl⟩
              have HKK := Lib.hid (show Keep21 W8 S5 S10 T wr.heap.size U _ _ _ g.2 wk2 A2 bn2 bc2 from ⟨X5.ext EE, X10.ext EE, X11.ext EE, HB7.out.ext E8.out, F6.ext EE, Nat.le_of_eq hU.symm⟩)
              have HBF := Lib.hid (X8.ext EE)
              have HEW8 := Lib.hid (E6.trans EE)
              have HU := Lib.hid hU
              have HUw := Lib.hid (show w.heap.size ≤ U by rw [← hU]; exact (E6.trans EE).size)
              have Hg := Lib.hid hg
              have HG6 := Lib.hid (show ∀ a, A2 = some a → (A2 = some a ∧ a.block < S5) ∨ T < a.block from fun a ha => by rcases G6 a ha with ⟨-, h⟩ | h; exact Or.inl ⟨ha, h⟩; exact Or.inr h)
              have HG6' := Lib.hid G6
              have HSU := Lib.hid (show T < U by have := X11.lt; have := EE.size; omega)
              obtain ⟨i9, hi9, hz9, hz91, hz92⟩ := info_parts infoLaid21
              have hk3 := (kidOk_some okl HP.out hil).1 Hk.out
              obtain ⟨hP2, hlt3⟩ := HP.out.add ok okl Hlt.out (i := i) (t := tb) hk3.1 hk3.2.1 hk3.2.2
              rw [HX.out] at hP2
              have hg2 : g.2 = none := by rw [← hg]; exact growTo_keep s l m c all cov (n, none) _
              have HC := Lib.hid (fun (wx : World) (g7 c7 : Nat) (Ex : Ext w wx) (E8x : Ext W8 wx) (own : wx.ownsRow U 64 5 (.slice (some ⟨g7, 0, none⟩) (c.length + 1) c7) (c.length + 1) ((c.map Laid.cells).flatten ++ #[.int .i64 (i : Int), .int .i64 cx, .int .i64 cy, .int .i64 cz, .bool tb].toList)) =>
                show Calls Tryd.prog 42 #[.agg #[.int .i64 s.W, .int .i64 s.D, .int .i64 s.H, .slice A s.cells.length cap], .slice PA l.length pcap, .slice (some ⟨g7, 0, none⟩) (c.length + 1) c7, .agg #[.int .i64 g.1, .int .i64 wk2, .slice A2 bn2 bc2], .bool true] wx (RPost A2 (rGrow s l true m g (c ++ [⟨i, cx, cy, cz, tb⟩]) (all ++ [m']) (cov ||| m')) wx) by
                  have hrow : ((c ++ [(⟨i, cx, cy, cz, tb⟩ : Laid)]).map Laid.cells).flatten = (c.map Laid.cells).flatten ++ #[.int .i64 (i : Int), .int .i64 cx, .int .i64 cy, .int .i64 cz, .bool tb].toList := by simp [Laid.cells]
                  have hn : (c ++ [(⟨i, cx, cy, cz, tb⟩ : Laid)]).length = c.length + 1 := by simp
                  rw [← hrow] at own
                  have hL : Laids wx (some ⟨g7, 0, none⟩) c7 (c ++ [⟨i, cx, cy, cz, tb⟩]) := by
                    unfold Laids
                    rw [hn]
                    exact own_any (by decide) (fun r hr => by obtain ⟨x, _, rfl⟩ := List.mem_map.1 hr; rfl) (by rw [List.length_map, hn]) own
                  have CC := Hih.out (c ++ [⟨i, cx, cy, cz, tb⟩]) (all ++ [m']) (cov ||| m') (some ⟨g7, 0, none⟩) c7 g.1 g.2 wk2 A2 bn2 bc2 wx hP2 (by have := Hm.out; omega) (fun _ => hg2) (Hs.out.ext Ex) (Hl.out.ext Ex) hL (nofun) (HKK.out.fa.ext E8x)
                  rw [hn] at CC
                  exact CC)
              clear E6 X5 X8 X10 X11 F6 G6 EE hg hU c7 hk3 hP2 hlt3 hg2
              refine wp_region_by (Rk w W8 U (.slice PA l.length pcap) (.slice CA c.length cc) true c.length (c.map Laid.cells) #[.int .i64 s.W, .int .i64 s.D, .int .i64 s.H, .slice A s.cells.length cap] #[.int .i64 g.1, .int .i64 wk2, .slice A2 bn2 bc2] #[.int .i64 (i : Int), .int .i64 cx, .int .i64 cy, .int .i64 cz, .bool tb] (rGrow s l true m g (c ++ [⟨i, cx, cy, cz, tb⟩]) (all ++ [m']) (cov ||| m')) A2
                (DoneAt w S5 S8 S10 T U #[.int .i64 s.W, .int .i64 s.D, .int .i64 s.H, .slice A s.cells.length cap] #[.int .i64 cx, .int .i64 cy, .int .i64 cz] (rGrow s l true m g (c ++ [⟨i, cx, cy, cz, tb⟩]) (all ++ [m']) (cov ||| m')) A2)) (by kernel_rfl) (by kernel_rfl) (by kernel_rfl) (fun us => ⟨HEW8.out.drew, (nofun), (nofun), (nofun), (nofun), (nofun), (fun _ => (Ext.refl _).drew), (nofun), (nofun), (nofun), (nofun), (nofun), (nofun), (nofun), (nofun), (nofun), (nofun)⟩) ⟨?_, ?_, ?_, ?_, ?_, ?_, ?_, ?_, ?_, ?_, ?_, ?_, trivial⟩ ?_
              · intro L us wx K a ha hp hd hun hI hK
                have HX := hI.x
                have h11 : L 11 = false := Bool.eq_false_iff.2 fun hl => absurd (hd 11 0 hl (by kernel_rfl)) (by rw [hun]; decide)
                have bb := (HKK.out.x5.ext (hI.g7 h11)).cell
                clear hp HX
                replace hd := Lib.hid hd
                simp only [putAll, Act.put, List.setIfInBounds_toArray, List.set_cons_succ, List.set_cons_zero, Nat.reduceAdd] at ha
                subst ha
                simp only [Act.put, List.setIfInBounds_toArray, List.set_cons_succ, List.set_cons_zero] at hK
                go_simp
                refine hK _ _ ?_
                first
                | (refine ⟨hI.x, hI.g1, hI.g2, hI.g3, hI.g4, hI.g6, hI.g7, hI.g8, ?_, hI.f1, hI.f3, hI.f5, hI.f6, hI.f7, hI.f8, hI.f9, hI.f10⟩ <;> (first | exact fun _ => rfl | skip))
                | (refine ⟨?_, ?_, ?_, ?_, ?_, ?_, ?_, ?_, ?_, ?_, ?_, ?_, ?_, ?_, ?_, ?_, ?_⟩ <;> (first | exact hI.x | exact hI.g1 | exact hI.g2 | exact hI.g3 | exact hI.g4 | exact hI.g6 | exact hI.g7 | exact hI.g8 | exact hI.f0 | exact hI.f1 | exact hI.f3 | exact hI.f5 | exact hI.f6 | exact hI.f7 | exact hI.f8 | exact hI.f9 | exact hI.f10 | exact fun _ => rfl | skip))
              · intro L us wx K a ha hp hd hun hI hK
                have HX := hI.x
                clear hp HX
                replace hd := Lib.hid hd
                simp only [putAll, Act.put, List.setIfInBounds_toArray, List.set_cons_succ, List.set_cons_zero, Nat.reduceAdd] at ha
                subst ha
                simp only [Act.put, List.setIfInBounds_toArray, List.set_cons_succ, List.set_cons_zero] at hK
                go_simp
                refine hK _ _ ?_
                first
                | (refine ⟨hI.x, hI.g1, hI.g2, hI.g3, hI.g4, hI.g6, hI.g7, hI.g8, hI.f0, ?_, hI.f3, hI.f5, hI.f6, hI.f7, hI.f8, hI.f9, hI.f10⟩ <;> (first | exact fun _ => rfl | skip))
                | (refine ⟨?_, ?_, ?_, ?_, ?_, ?_, ?_, ?_, ?_, ?_, ?_, ?_, ?_, ?_, ?_, ?_, ?_⟩ <;> (first | exact hI.x | exact hI.g1 | exact hI.g2 | exact hI.g3 | exact hI.g4 | exact hI.g6 | exact hI.g7 | exact hI.g8 | exact hI.f0 | exact hI.f1 | exact hI.f3 | exact hI.f5 | exact hI.f6 | exact hI.f7 | exact hI.f8 | exact hI.f9 | exact hI.f10 | exact fun _ => rfl | skip))
              · intro L us wx K a ha hp hd hun hI hK
                have h4 : L 4 = false := Bool.eq_false_iff.2 fun hl => absurd (hd 4 2 hl (by kernel_rfl)) (by rw [hun]; decide)
                have h7 : L 7 = false := Bool.eq_false_iff.2 fun hl => absurd (hd 7 4 hl (by kernel_rfl)) (by rw [h4]; decide)
                have h10 : L 10 = false := Bool.eq_false_iff.2 fun hl => absurd (hd 10 7 hl (by kernel_rfl)) (by rw [h7]; decide)
                have h11 : L 11 = false := Bool.eq_false_iff.2 fun hl => absurd (hd 11 10 hl (by kernel_rfl)) (by rw [h10]; decide)
                have hX8 := hI.g7 h11
                have hUx : U ≤ wx.heap.size := by have := hX8.size; have := HU.out; omega
                have er := empty_laid wx
                have EW : Ext wx (wx.alloc (.cells #[] 64)) := (Ext.refl wx).alloc _
                replace hd := Lib.hid hd
                simp only [putAll, Act.put, List.setIfInBounds_toArray, List.set_cons_succ, List.set_cons_zero, Nat.reduceAdd] at ha
                subst ha
                simp only [Act.put, List.setIfInBounds_toArray, List.set_cons_succ, List.set_cons_zero] at hK
                go_simp
                exact hK _ _ ⟨hI.x.trans EW, (fun _ _ => own_empty21 wx hUx _ _), (fun h => absurd (show L 4 = true from h) (by rw [h4]; decide)), (fun h h2 => (hI.g3 h h2).ext EW), (fun _ h6 _ e => by have h9 := (hI.g3 h6 h7).lt; have e2 : some wx.heap.size = some (bk (us 6)) := e; have e3 := Option.some.inj e2; omega), (fun h => absurd (show L 7 = true from h) (by rw [h7]; decide)), (fun h => (hI.g7 h).trans EW), (fun h => absurd (show L 11 = true from h) (by rw [h11]; decide)), hI.f0, hI.f1, hI.f3, hI.f5, hI.f6, hI.f7, hI.f8, hI.f9, (fun h => absurd (show L 10 = true from h) (by rw [h10]; decide))⟩
              · intro L us wx K a ha hp hd hun hI hK
                have HX := hI.x
                clear hp HX
                replace hd := Lib.hid hd
                simp only [putAll, Act.put, List.setIfInBounds_toArray, List.set_cons_succ, List.set_cons_zero, Nat.reduceAdd] at ha
                subst ha
                simp only [Act.put, List.setIfInBounds_toArray, List.set_cons_succ, List.set_cons_zero] at hK
                go_simp
                refine hK _ _ ?_
                first
                | (refine ⟨hI.x, hI.g1, hI.g2, hI.g3, hI.g4, hI.g6, hI.g7, hI.g8, hI.f0, hI.f1, ?_, hI.f5, hI.f6, hI.f7, hI.f8, hI.f9, hI.f10⟩ <;> (first | exact fun _ => rfl | skip))
                | (refine ⟨?_, ?_, ?_, ?_, ?_, ?_, ?_, ?_, ?_, ?_, ?_, ?_, ?_, ?_, ?_, ?_, ?_⟩ <;> (first | exact hI.x | exact hI.g1 | exact hI.g2 | exact hI.g3 | exact hI.g4 | exact hI.g6 | exact hI.g7 | exact hI.g8 | exact hI.f0 | exact hI.f1 | exact hI.f3 | exact hI.f5 | exact hI.f6 | exact hI.f7 | exact hI.f8 | exact hI.f9 | exact hI.f10 | exact fun _ => rfl | skip))
              · intro L us wx K a ha hp hd hun hI hK
                have h2 := hp 2 (by kernel_rfl)
                have u3 := hI.f3 (hp 3 (by kernel_rfl))
                have h7 : L 7 = false := Bool.eq_false_iff.2 fun hl => absurd (hd 7 4 hl (by kernel_rfl)) (by rw [hun]; decide)
                have h10 : L 10 = false := Bool.eq_false_iff.2 fun hl => absurd (hd 10 7 hl (by kernel_rfl)) (by rw [h7]; decide)
                have h11 : L 11 = false := Bool.eq_false_iff.2 fun hl => absurd (hd 11 10 hl (by kernel_rfl)) (by rw [h10]; decide)
                have own := hI.g1 h2 hun
                have hne := fun h6 => hI.g4 h2 h6 hun
                have hS := Hc.out.ext hI.x
                have hX8 := hI.g7 h11
                have hUx : U ≤ wx.heap.size := by have := hX8.size; have := HU.out; omega
                obtain ⟨v0, hv0⟩ : ∃ v, us 2 = v := ⟨_, rfl⟩
                rw [hv0] at own hne
                replace hd := Lib.hid hd
                simp only [putAll, Act.put, List.setIfInBounds_toArray, List.set_cons_succ, List.set_cons_zero, Nat.reduceAdd, hv0, u3] at ha
                subst ha
                simp only [Act.put, List.setIfInBounds_toArray, List.set_cons_succ, List.set_cons_zero] at hK
                refine step_append_any rfl (.tmp 113) (.tmp 114) 27 rfl U 64 i9 _ 5 40 Tryd.underlying27 hi9 hz9 hz91 hz92 rfl (by decide) v0 0 [] rfl own CA c.length cc (c.map Laid.cells) rfl hS Hnil.out (lds21 c) (by unfold maxLen; have := Hlen.out; omega) (by have := Hlen.out; omega) hUx ?_
                intro v2 w2 own2 hg2
                rw [Nat.zero_add, List.nil_append] at own2
                have hfar : ∀ k, v0.ownBlock = some k → U ≤ k := fun k hk => (own.lt k hk).1
                exact hK _ _ ⟨hI.x.grown hg2 (fun k hk => Nat.le_trans HUw.out (hfar k hk)), (fun _ h => nomatch (show true = false from h)), (fun _ _ => own2), (fun h h2 => (hI.g3 h h2).grown hg2 (fun e => hne h e.symm)), (fun _ _ h => nomatch (show true = false from h)), (fun h => absurd (show L 7 = true from h) (by rw [h7]; decide)), (fun h => (hI.g7 h).grown hg2 (fun k hk => by have := hfar k hk; have := HU.out; omega)), (fun h => absurd (show L 11 = true from h) (by rw [h11]; decide)), hI.f0, hI.f1, hI.f3, hI.f5, hI.f6, hI.f7, hI.f8, hI.f9, (fun h => absurd (show L 10 = true from h) (by rw [h10]; decide))⟩
              · intro L us wx K a ha hp hd hun hI hK
                have HX := hI.x
                have h11 : L 11 = false := Bool.eq_false_iff.2 fun hl => absurd (hd 11 5 hl (by kernel_rfl)) (by rw [hun]; decide)
                have bb := (HKK.out.x7.ext (hI.g7 h11)).cell
                clear hp HX
                replace hd := Lib.hid hd
                simp only [putAll, Act.put, List.setIfInBounds_toArray, List.set_cons_succ, List.set_cons_zero, Nat.reduceAdd] at ha
                subst ha
                simp only [Act.put, List.setIfInBounds_toArray, List.set_cons_succ, List.set_cons_zero] at hK
                go_simp
                refine hK _ _ ?_
                first
                | (refine ⟨hI.x, hI.g1, hI.g2, hI.g3, hI.g4, hI.g6, hI.g7, hI.g8, hI.f0, hI.f1, hI.f3, ?_, hI.f6, hI.f7, hI.f8, hI.f9, hI.f10⟩ <;> (first | exact fun _ => rfl | skip))
                | (refine ⟨?_, ?_, ?_, ?_, ?_, ?_, ?_, ?_, ?_, ?_, ?_, ?_, ?_, ?_, ?_, ?_, ?_⟩ <;> (first | exact hI.x | exact hI.g1 | exact hI.g2 | exact hI.g3 | exact hI.g4 | exact hI.g6 | exact hI.g7 | exact hI.g8 | exact hI.f0 | exact hI.f1 | exact hI.f3 | exact hI.f5 | exact hI.f6 | exact hI.f7 | exact hI.f8 | exact hI.f9 | exact hI.f10 | exact fun _ => rfl | skip))
              · intro L us wx K a ha hp hd hun hI hK
                have u5 := hI.f5 (hp 5 (by kernel_rfl))
                have h7 : L 7 = false := Bool.eq_false_iff.2 fun hl => absurd (hd 7 6 hl (by kernel_rfl)) (by rw [hun]; decide)
                have h10 : L 10 = false := Bool.eq_false_iff.2 fun hl => absurd (hd 10 7 hl (by kernel_rfl)) (by rw [h7]; decide)
                have h11 : L 11 = false := Bool.eq_false_iff.2 fun hl => absurd (hd 11 10 hl (by kernel_rfl)) (by rw [h10]; decide)
                replace hd := Lib.hid hd
                simp only [putAll, Act.put, List.setIfInBounds_toArray, List.set_cons_succ, List.set_cons_zero, Nat.reduceAdd, u5] at ha
                subst ha
                simp only [Act.put, List.setIfInBounds_toArray, List.set_cons_succ, List.set_cons_zero] at hK
                go_simp
                have EW : Ext wx (wx.alloc (.cells #[.int .i64 (i : Int), .int .i64 cx, .int .i64 cy, .int .i64 cz, .bool tb] 64)) := (Ext.refl wx).alloc _
                exact hK _ _ ⟨hI.x.trans EW, (fun h h2 => own_ext (hI.g1 h h2) EW), (fun h h2 => own_ext (hI.g2 h h2) EW), (fun _ _ => Blk.new _ _ _), (fun h0 _ h3 e => by have := ((hI.g1 h0 h3).lt _ e).2; exact absurd this (Nat.lt_irrefl _)), (fun h => absurd (show L 7 = true from h) (by rw [h7]; decide)), (fun h => (hI.g7 h).trans EW), (fun h => absurd (show L 11 = true from h) (by rw [h11]; decide)), hI.f0, hI.f1, hI.f3, hI.f5, (fun _ => rfl), hI.f7, hI.f8, hI.f9, (fun h => absurd (show L 10 = true from h) (by rw [h10]; decide))⟩
              · intro L us wx K a ha hp hd hun hI hK
                have h4 := hp 4 (by kernel_rfl)
                have h6 := hp 6 (by kernel_rfl)
                have u6 := hI.f6 h6
                have own := hI.g2 h4 hun
                have hb := hI.g3 h6 hun
                have h10 : L 10 = false := Bool.eq_false_iff.2 fun hl => absurd (hd 10 7 hl (by kernel_rfl)) (by rw [hun]; decide)
                have h11 : L 11 = false := Bool.eq_false_iff.2 fun hl => absurd (hd 11 10 hl (by kernel_rfl)) (by rw [h10]; decide)
                have hX8 := hI.g7 h11
                have hUx : U ≤ wx.heap.size := by have := hX8.size; have := HU.out; omega
                obtain ⟨g6, hg6⟩ : ∃ g, bk (us 6) = g := ⟨_, rfl⟩
                rw [hg6] at u6 hb
                obtain ⟨v4, hv4⟩ : ∃ v, us 4 = v := ⟨_, rfl⟩
                rw [hv4] at own
                have hS : SliceIs wx (some ⟨g6, 0, none⟩) 1 1 5 [Laid.cells ⟨i, cx, cy, cz, tb⟩] := (rowX21 (rows := [Laid.cells ⟨i, cx, cy, cz, tb⟩]) hb).slice (fun r hr => by rw [List.mem_singleton] at hr; subst hr; rfl) rfl (Nat.le_refl _) (by unfold maxLen; omega)
                replace hd := Lib.hid hd
                simp only [putAll, Act.put, List.setIfInBounds_toArray, List.set_cons_succ, List.set_cons_zero, Nat.reduceAdd, hv4, u6] at ha
                subst ha
                simp only [Act.put, List.setIfInBounds_toArray, List.set_cons_succ, List.set_cons_zero] at hK
                refine step_append_any rfl (.tmp 115) (.tmp 117) 27 rfl U 64 i9 _ 5 40 Tryd.underlying27 hi9 hz9 hz91 hz92 rfl (by decide) v4 c.length (c.map Laid.cells).flatten rfl own (some ⟨g6, 0, none⟩) 1 1 [Laid.cells ⟨i, cx, cy, cz, tb⟩] rfl hS (nofun) (fun u hu => ?_) (by unfold maxLen; have := Hlen.out; omega) (by have := Hlen.out; omega) hUx ?_
                · simp only [List.flatten_cons, List.flatten_nil, List.append_nil, Laid.cells, List.mem_cons, List.not_mem_nil, or_false] at hu
                  rcases hu with rfl | rfl | rfl | rfl | rfl <;> rfl
                · intro v2 w2 own2 hg2
                  have hfar : ∀ k, v4.ownBlock = some k → U ≤ k := fun k hk => (own.lt k hk).1
                  obtain ⟨g7, c7, hv7⟩ : ∃ g cp, v2 = .slice (some ⟨g, 0, none⟩) (c.length + 1) cp := by
                    rcases own2.2 with ⟨-, h0⟩ | ⟨g, cap, cur, hv, -⟩
                    · omega
                    · exact ⟨g, cap, hv⟩
                  subst hv7
                  exact hK _ _ ⟨hI.x.grown hg2 (fun k hk => Nat.le_trans HUw.out (hfar k hk)), (fun _ h => absurd (show L 4 = false from h) (by rw [h4]; decide)), (fun _ h => nomatch (show true = false from h)), (fun _ h => nomatch (show true = false from h)), (fun _ _ h => absurd (show L 4 = false from h) (by rw [h4]; decide)), (fun _ _ => own2), (fun h => (hI.g7 h).grown hg2 (fun k hk => by have := hfar k hk; have := HU.out; omega)), (fun h => absurd (show L 11 = true from h) (by rw [h11]; decide)), hI.f0, hI.f1, hI.f3, hI.f5, hI.f6, (fun _ => rfl), hI.f8, hI.f9, (fun h => absurd (show L 10 = true from h) (by rw [h10]; decide))⟩
              · intro L us wx K a ha hp hd hun hI hK
                have HX := hI.x
                have h11 : L 11 = false := Bool.eq_false_iff.2 fun hl => absurd (hd 11 8 hl (by kernel_rfl)) (by rw [hun]; decide)
                have bb := (HBF.out.ext (hI.g7 h11)).cell
                clear hp HX
                replace hd := Lib.hid hd
                simp only [putAll, Act.put, List.setIfInBounds_toArray, List.set_cons_succ, List.set_cons_zero, Nat.reduceAdd] at ha
                subst ha
                simp only [Act.put, List.setIfInBounds_toArray, List.set_cons_succ, List.set_cons_zero] at hK
                go_simp
                refine hK _ _ ?_
                first
                | (refine ⟨hI.x, hI.g1, hI.g2, hI.g3, hI.g4, hI.g6, hI.g7, hI.g8, hI.f0, hI.f1, hI.f3, hI.f5, hI.f6, hI.f7, ?_, hI.f9, hI.f10⟩ <;> (first | exact fun _ => rfl | skip))
                | (refine ⟨?_, ?_, ?_, ?_, ?_, ?_, ?_, ?_, ?_, ?_, ?_, ?_, ?_, ?_, ?_, ?_, ?_⟩ <;> (first | exact hI.x | exact hI.g1 | exact hI.g2 | exact hI.g3 | exact hI.g4 | exact hI.g6 | exact hI.g7 | exact hI.g8 | exact hI.f0 | exact hI.f1 | exact hI.f3 | exact hI.f5 | exact hI.f6 | exact hI.f7 | exact hI.f8 | exact hI.f9 | exact hI.f10 | exact fun _ => rfl | skip))
              · intro L us wx K a ha hp hd hun hI hK
                have HX := hI.x
                clear hp HX
                replace hd := Lib.hid hd
                simp only [putAll, Act.put, List.setIfInBounds_toArray, List.set_cons_succ, List.set_cons_zero, Nat.reduceAdd] at ha
                subst ha
                simp only [Act.put, List.setIfInBounds_toArray, List.set_cons_succ, List.set_cons_zero] at hK
                go_simp
                refine hK _ _ ?_
                first
                | (refine ⟨hI.x, hI.g1, hI.g2, hI.g3, hI.g4, hI.g6, hI.g7, hI.g8, hI.f0, hI.f1, hI.f3, hI.f5, hI.f6, hI.f7, hI.f8, ?_, hI.f10⟩ <;> (first | exact fun _ => rfl | skip))
                | (refine ⟨?_, ?_, ?_, ?_, ?_, ?_, ?_, ?_, ?_, ?_, ?_, ?_, ?_, ?_, ?_, ?_, ?_⟩ <;> (first | exact hI.x | exact hI.g1 | exact hI.g2 | exact hI.g3 | exact hI.g4 | exact hI.g6 | exact hI.g7 | exact hI.g8 | exact hI.f0 | exact hI.f1 | exact hI.f3 | exact hI.f5 | exact hI.f6 | exact hI.f7 | exact hI.f8 | exact hI.f9 | exact hI.f10 | exact fun _ => rfl | skip))
              · intro L us wx K a ha hp hd hun hI hK
                have h7 := hp 7 (by kernel_rfl)
                have u0 := hI.f0 (hp 0 (by kernel_rfl))
                have u1 := hI.f1 (hp 1 (by kernel_rfl))
                have u7 := hI.f7 h7
                have u8 := hI.f8 (hp 8 (by kernel_rfl))
                have u9 := hI.f9 (hp 9 (by kernel_rfl))
                have h11 : L 11 = false := Bool.eq_false_iff.2 fun hl => absurd (hd 11 10 hl (by kernel_rfl)) (by rw [hun]; decide)
                have own := hI.g6 h7 h11
                have hX8 := hI.g7 h11
                obtain ⟨g7, hg7⟩ : ∃ g, bk (us 7) = g := ⟨_, rfl⟩
                obtain ⟨c7, hc7⟩ : ∃ g, cpOf (us 7) = g := ⟨_, rfl⟩
                rw [hg7, hc7] at u7
                rw [u7] at own
                have CC := HC.out wx g7 c7 hI.x hX8 own
                replace hd := Lib.hid hd
                simp only [putAll, Act.put, List.setIfInBounds_toArray, List.set_cons_succ, List.set_cons_zero, Nat.reduceAdd, u0, u1, u7, u8, u9] at ha
                subst ha
                simp only [Act.put, List.setIfInBounds_toArray, List.set_cons_succ, List.set_cons_zero] at hK
                replace hU7 := Lib.hid u7
                clear u0 u1 u7 u8 u9 hg7 hc7
                go_simp
                go_at_call 42
                refine CC.mono ?_
                rintro e wn ⟨wk3, A3, bn3, bc3, rfl, F3, S3, En⟩
                go_simp
                exact hK _ _ ⟨hI.x.trans En, (fun h h2 => own_ext (hI.g1 h h2) En), (fun h h2 => own_ext (hI.g2 h h2) En), (fun h h2 => (hI.g3 h h2).ext En), hI.g4, (fun h h2 => own_ext (hI.g6 h h2) En), (fun h => (hI.g7 h).trans En), (fun h => absurd (show L 11 = true from h) (by rw [h11]; decide)), hI.f0, hI.f1, hI.f3, hI.f5, hI.f6, hI.f7, hI.f8, hI.f9, (fun _ _ => ⟨wk3, A3, bn3, bc3, rfl, F3, fun a ha => (S3 a ha).imp_right fun h => by have := hX8.size; have := HU.out; omega⟩)⟩
              · intro L us wx K a ha hp hd hun hI hK
                have h10 := hp 10 (by kernel_rfl)
                obtain ⟨wk3, A3, bn3, bc3, u10, F3, S3⟩ := hI.f10 h10 hun
                have hX8 := hI.g7 hun
                have hS := HS.out
                have hS5 := HS5.out
                obtain ⟨r, hr⟩ : ∃ r, rGrow s l true m g (c ++ [⟨i, cx, cy, cz, tb⟩]) (all ++ [m']) (cov ||| m') = r := ⟨_, rfl⟩
                rw [hr] at u10 F3
                have DD := done21 (S5 := S5) (S8 := S8) (S10 := S10) (S11 := T) hI.x hX8 HKK.out HBF.out hS hS5 HSU.out F3 S3 HG6.out
                have b8 := (HBF.out.ext hX8).cell
                have f8 := (HBF.out.ext hX8).frozen
                have l8 := (HBF.out.ext hX8).lt
                have h7 := hd 10 7 h10 (by kernel_rfl)
                have h4 := hd 7 4 h7 (by kernel_rfl)
                replace hr := Lib.hid hr
                replace hd := Lib.hid hd
                simp only [putAll, Act.put, List.setIfInBounds_toArray, List.set_cons_succ, List.set_cons_zero, Nat.reduceAdd, u10] at ha
                subst ha
                simp only [Act.put] at hK
                have U10 := Lib.hid u10
                clear u10
                go_simp
                exact hK undef _ ⟨DD.2, (fun _ h => absurd (show L 4 = false from h) (by rw [h4]; decide)), (fun _ h => absurd (show L 7 = false from h) (by rw [h7]; decide)), (fun _ h => absurd (show L 7 = false from h) (by rw [h7]; decide)), (fun _ _ h => absurd (show L 4 = false from h) (by rw [h4]; decide)), (fun _ h => nomatch (show true = false from h)), (fun h => nomatch (show true = false from h)), (fun _ => by rw [hr.out]; show DoneAt _ _ _ _ _ _ _ _ _ _ _ (us 10); rw [U10.out]; exact DD.1), hI.f0, hI.f1, hI.f3, hI.f5, hI.f6, hI.f7, hI.f8, hI.f9, (fun _ h => nomatch (show true = false from h))⟩
              intro L us W9 hall hI
              obtain ⟨wk4, A4, bn4, bc4, u10, E9, Y5, Y8, Y10, Y11, F4, S4⟩ := hI.g8 (hall 11 (by simp))
              have hstep : growTo (rLong true) (rSee s l true) s l m c all cov (n, none) (2 * i + tb.toNat + 1) = rGrow s l true m g (c ++ [⟨i, cx, cy, cz, tb⟩]) (all ++ [m']) (cov ||| m') := by
                rw [Hst.out, Hg.out]
                unfold kidS
                simp only [Hk.out, HX.out]
                rfl
              have hnext : LoopAt s l true m c all cov (n, none) none w S5 S8 S10 T #[.int .i64 s.W, .int .i64 s.D, .int .i64 s.H, .slice A s.cells.length cap] #[.int .i64 cx, .int .i64 cy, .int .i64 cz] (2 * i + (tb.toNat + 1)) W9 := by
                rw [← Nat.add_assoc]
                unfold LoopAt
                rw [hstep]
                refine ⟨wk4, A4, bn4, bc4, E9, Y5, Y8, Y10, Y11, F4, fun a ha => ?_⟩
                rcases S4 a ha with h | h
                · exact HG6'.out a h
                · right
                  have := HSU.out
                  omega
              have Hnext := Lib.hid hnext
              clear hnext hstep Y5 Y8 Y10 Y11 F4 S4 E9 u10 hall hI
              simp only [putAll, Act.put, List.setIfInBounds_toArray, List.set_cons_succ, List.set_cons_zero, Nat.reduceAdd]
              go_wp2_with fail
              go_roundw
              case rel => exact ⟨tb.toNat + 1, by cases tb <;> decide, by cases tb <;> go_num, Hnext.out⟩
              case measure => simp only [intOf]; cases tb <;> simp <;> omega
          · obtain rfl : t = 2 := by omega
            go_wp2_with fail
            go_roundw
            case rel => exact ⟨i + 1, by omega, by go_num, HL.out⟩
            case measure => simp only [intOf]; omega
      · obtain rfl : i = l.length := by omega
        obtain ⟨wk, A', bn, bc, E6, X5, X8, X10, X11, F6, G6⟩ := HL.out
        rw [← Hr.out] at X8 F6
        obtain ⟨g, hg⟩ : ∃ g, rGrow s l true (m + 1) (n, none) c all cov = g := ⟨_, rfl⟩
        rw [hg] at X8 F6
        obtain ⟨g1, g2⟩ := g
        have Hg := Lib.hid hg
        simp only at X8 F6
        have b8 := X8.cell
        have b10 := X10.cell
        have f10 := X10.frozen
        have l10 := X10.lt
        have BX := ((X10.set_ 0 (.int .i64 g1)).set_ 1 (.int .i64 wk)).set_ 2 (.slice A' bn bc)
        have bx0 := Lib.hid (BX.cell 0)
        have bx1 := Lib.hid (BX.cell 1)
        have bx2 := Lib.hid (BX.cell 2)
        have hS := HS.out
        have hS5 := HS5.out
        have hfar : ∀ a, A' = some a → a.block ≠ S10 := fun a ha => by rcases G6 a ha with ⟨-, h⟩ | h <;> omega
        have F9 := ((F6.far (p := ⟨S10, 0, none⟩) hfar (.int .i64 g1)).far (p := ⟨S10, 1, none⟩) hfar (.int .i64 wk)).far (p := ⟨S10, 2, none⟩) hfar (.slice A' bn bc)
        have E9 := ((E6.setCell (p := ⟨S10, 0, none⟩) (by simp only; omega) (.int .i64 g1)).setCell (p := ⟨S10, 1, none⟩) (by simp only; omega) (.int .i64 wk)).setCell (p := ⟨S10, 2, none⟩) (by simp only; omega) (.slice A' bn bc)
        have HF9 := Lib.hid F9
        have HE9 := Lib.hid E9
        have HG6 := Lib.hid G6
        clear BX F9 E9 F6 G6 X5 X8 X10 X11 E6 hg hfar hS hS5
        go_wp2_with fail
        refine bodyPost_ret (by simp [results, Tryd.results42, go_sem, bx0.out, bx1.out, bx2.out]; try rfl) rfl ?_
        rw [Hg.out]
        refine ⟨wk, A', bn, bc, rfl, HF9.out, fun a ha => ?_, HE9.out⟩
        rcases HG6.out a ha with ⟨h, -⟩ | h
        · exact Or.inl h
        · right
          have := HS.out
          have := HS5.out
          omega
end Go.Proofs.YtaaeapjnjjbglaaDoor

namespace Go.Proofs.YtaaeapjnjjbglaaDoor
open Go.RowKit

theorem bit_val {x a : Nat} {p : Bool} (h : x.testBit a = p) (hx : x < 65536) : bits .and .u32 ((x : Int) / 2 ^ a) 1 = if p then 1 else 0 := by
  have e : (x : Int) / 2 ^ a = ((x / 2 ^ a : Nat) : Int) := by rw [Int.natCast_ediv, Int.natCast_pow]; rfl
  have h1 : x / 2 ^ a < 65536 := Nat.lt_of_le_of_lt (Nat.div_le_self _ _) hx
  rw [e, show (1 : Int) = ((1 : Nat) : Int) from rfl, bits_and h1 (by omega), Nat.and_one_is_mod]
  rw [Nat.testBit_eq_decide_div_mod_eq] at h
  cases p
  · rw [decide_eq_false_iff_not] at h
    simp
    omega
  · rw [decide_eq_true_eq] at h
    rw [h]
    rfl
set_option maxRecDepth 100000 in
set_option maxHeartbeats 4000000 in
theorem both_c (x a b : Nat) (hx : x < 65536) (ha : a < 16) (hb : b < 16) (P : Nat) (w : World) (hP : Blk w P 125 #[.int .i64 (a : Int), .int .i64 (b : Int)]) :
    Calls Tryd.prog 72 #[.int .u32 (x : Int), .pointer (some ⟨P, 0, none⟩)] w fun e w' => e = .returned (.bool (x.testBit a && x.testBit b)) ∧ w = w' := by
  have p0 := hP.cell 0
  have p1 := hP.cell 1
  simp at p0 p1
  obtain ⟨p, hp⟩ : ∃ p, x.testBit a = p := ⟨_, rfl⟩
  obtain ⟨q, hq⟩ : ∃ q, x.testBit b = q := ⟨_, rfl⟩
  have vp := bit_val hp hx
  have vq := bit_val hq hx
  rw [hp, hq]
  clear hp hq
  cases p
  · simp only [Bool.false_eq_true, if_false] at vp
    go_enter Tryd.func72, Tryd.ntmps72
    go_wp2_with fail
    go_ret
    exact ⟨rfl, rfl⟩
  · cases q
    · simp only [Bool.false_eq_true, if_false] at vq
      simp only [if_true] at vp
      go_enter Tryd.func72, Tryd.ntmps72
      go_wp2_with fail
      go_ret
      exact ⟨rfl, rfl⟩
    · simp only [if_true] at vp vq
      go_enter Tryd.func72, Tryd.ntmps72
      go_wp2_with fail
      go_ret
      exact ⟨rfl, rfl⟩
def bothB (a b : Nat) (x : Nat) : Bool := x.testBit a && x.testBit b
theorem both_is {x a b : Nat} {r : Bool} (h : bothB a b x = r) (hx : x < 65536) (ha : a < 16) (hb : b < 16) (P : Nat) (w : World) (hP : Blk w P 125 #[.int .i64 (a : Int), .int .i64 (b : Int)]) :
    Calls Tryd.prog 72 #[.int .u32 (x : Int), .pointer (some ⟨P, 0, none⟩)] w fun e w' => e = .returned (.bool r) ∧ w = w' := by
  rw [← h]
  exact both_c x a b hx ha hb P w hP
set_option maxRecDepth 100000 in
set_option maxHeartbeats 4000000 in
theorem indexBoth_c (SA : Option Addr) (sc : Nat) (out : List Nat) (a b P : Nat) (ha : a < 16) (hb : b < 16) (hsm : ∀ i, i < out.length → outAt out i < 65536) (hol : out.length ≤ 1000) (w : World) (hS : SliceIs w SA out.length sc 1 (out.map fun m => [uv m])) (hP : Blk w P 125 #[.int .i64 (a : Int), .int .i64 (b : Int)]) :
    Calls Tryd.prog 101 #[.slice SA out.length sc, .func (.func 72) #[] #[.pointer (some ⟨P, 0, none⟩)]] w fun e w' => (∃ r, e = .returned (.int .i64 r) ∧ decide (0 ≤ r) = out.any (bothB a b)) ∧ w = w' := by
  have Hsm := Lib.hid hsm
  clear hsm
  go_enter Tryd.func101, Tryd.ntmps101
  go_wp2
  go_loop [8] (fun i => ∃ k : Nat, k ≤ out.length ∧ i = .int .i64 k ∧ Hid (∀ j, j < k → bothB a b (outAt out j) = false)) (fun i => out.length - (intOf i).toNat)
  case atStart => exact ⟨0, by omega, rfl, Lib.hid fun j hj => by omega⟩
  case round =>
    obtain ⟨k, hk, rfl, Hj⟩ := hrel
    by_cases hlt : k < out.length
    · obtain ⟨sb, soff, rfl, hsb, sk⟩ := sets_at hS hlt
      have hx := Hsm.out k hlt
      obtain ⟨x, ex⟩ : ∃ x, outAt out k = x := ⟨_, rfl⟩
      rw [ex] at sk hx
      have Hx := Lib.hid ex
      clear ex
      obtain ⟨r, hr⟩ : ∃ r, bothB a b x = r := ⟨_, rfl⟩
      have Hr := Lib.hid hr
      clear hr
      cases r
      · go_wp2_with (go_at_call 72; refine (both_is Hr.out hx ha hb P _ hP).mono ?_; rintro e w' ⟨rfl, rfl⟩)
        go_round
        case rel =>
          refine ⟨k + 1, by omega, by go_num, Lib.hid fun j hj => ?_⟩
          rcases Nat.lt_or_ge j k with h | h
          · exact Hj.out j h
          · obtain rfl : j = k := by omega
            rw [Hx.out]
            exact Hr.out
        case measure => simp only [intOf]; omega
      · go_wp2_with (go_at_call 72; refine (both_is Hr.out hx ha hb P _ hP).mono ?_; rintro e w' ⟨rfl, rfl⟩)
        go_ret
        refine ⟨⟨k, rfl, ?_⟩, rfl⟩
        have : out.any (bothB a b) = true := by
          rw [List.any_eq_true]
          refine ⟨outAt out k, ?_, by rw [Hx.out]; exact Hr.out⟩
          unfold outAt
          rw [List.getD_eq_getElem?_getD, List.getElem?_eq_getElem hlt]
          exact List.getElem_mem hlt
        simp [this]
    · obtain rfl : k = out.length := by omega
      go_wp2
      go_ret
      refine ⟨⟨-1, rfl, ?_⟩, rfl⟩
      have : out.any (bothB a b) = false := by
        rw [List.any_eq_false]
        intro x hx
        obtain ⟨j, hj⟩ := List.getElem?_of_mem hx
        have hjl := (List.getElem?_eq_some_iff.1 hj).1
        have := Hj.out j hjl
        unfold outAt at this
        rw [List.getD_eq_getElem?_getD, hj] at this
        simp at this
        simp [this]
      simp [this]
set_option maxHeartbeats 4000000 in
theorem containsBoth_c (SA : Option Addr) (sc : Nat) (out : List Nat) (a b P : Nat) (ha : a < 16) (hb : b < 16) (hsm : ∀ i, i < out.length → outAt out i < 65536) (hol : out.length ≤ 1000) (w : World) (hS : SliceIs w SA out.length sc 1 (out.map fun m => [uv m])) (hP : Blk w P 125 #[.int .i64 (a : Int), .int .i64 (b : Int)]) :
    Calls Tryd.prog 71 #[.slice SA out.length sc, .func (.func 72) #[] #[.pointer (some ⟨P, 0, none⟩)]] w fun e w' => e = .returned (.bool (out.any (bothB a b))) ∧ w = w' := by
  have Hsm := Lib.hid hsm
  clear hsm
  go_enter Tryd.func71, Tryd.ntmps71
  go_wp2_with (go_at_call 101; refine (indexBoth_c SA sc out a b P ha hb Hsm.out hol _ hS hP).mono ?_; rintro e w' ⟨⟨r, rfl, hr⟩, rfl⟩)
  go_ret
  exact ⟨by rw [← hr]; rfl, rfl⟩

/-! ### seam -/
theorem seamE_any (out : List Nat) (p : Int × Int) : seamE out p = !(out.any (bothB p.1.toNat p.2.toNat)) := rfl
set_option maxRecDepth 100000 in
set_option maxHeartbeats 4000000 in
theorem seam1_c (g : Nat) (s : Shape) (A : Option Addr) (cap : Nat) (l : List Plate) (PA : Option Addr) (pcap : Nat) (NA : Option Addr) (ncap : Nat) (AA : Option Addr) (acap : Nat) (EA : Option Addr) (ec : Nat) (OA : Option Addr) (oc : Nat) (LA : Option Addr) (lc : Nat) (ms : List Nat)
    (out : List Nat) (SA : Option Addr) (sc : Nat) (S : Nat) (i : Nat) (p : Int × Int) (ok : s.Ok) (hp : (eds s)[i]? = some p) (r : Bool) (hr : seamE out p = r) (hsm : ∀ i, i < out.length → outAt out i < 65536) (hol : out.length ≤ 1000) (w : World) (hB : Board w g s A cap l PA pcap NA ncap AA acap EA ec OA oc LA lc ms)
    (hS : SliceIs w SA out.length sc 1 (out.map fun m => [uv m])) (C1 : Blk w S 78 #[.pointer (some ⟨g, 0, none⟩)]) (C2 : Blk w (S + 1) 86 #[.slice SA out.length sc]) :
    Calls Tryd.prog 70 #[.int .i64 (i : Int), .pointer (some ⟨S, 0, none⟩), .pointer (some ⟨S + 1, 0, none⟩)] w fun e w' => e = .returned (.bool r) ∧ Ext w w' := by
  have hil : i < (eds s).length := (List.getElem?_eq_some_iff.1 hp).1
  obtain ⟨b, off, p', rfl, hp', hb, e0, e1⟩ := pair_at hB.edges hil
  rw [hp] at hp'
  cases hp'
  have hbd := edges_bd ok (Nat.le_refl _) p (List.mem_of_getElem? hp)
  have hel : (eds s).length ≤ 1000 := by
    have h1 := edgesS_len s s.cells.length
    have h2 := s.len_le ok
    show (edgesS s s.cells.length).length ≤ 1000
    omega
  obtain ⟨p1, p2⟩ := p
  obtain ⟨a, rfl⟩ := Int.eq_ofNat_of_zero_le hbd.1.1
  obtain ⟨c, rfl⟩ := Int.eq_ofNat_of_zero_le hbd.2.1
  have Hr : Hid (out.any (bothB a c) = !r) := Lib.hid (by rw [← hr, seamE_any]; simp)
  have c7 := hB.c7
  have c1 := C1.cell
  have c2 := C2.cell
  have Hsm := Lib.hid hsm
  have hF := ok.full
  have l1 := C1.lt
  have l2 := C2.lt
  have a16 : a < 16 := by omega
  have c16 : c < 16 := by omega
  clear hr hsm hp hbd
  go_enter Tryd.func70, Tryd.ntmps70
  go_wp2_with fail
  have B1 := Blk.new w #[.int .i64 (a : Int), .int .i64 (c : Int)] 125
  refine (containsBoth_c SA sc out a c w.heap.size (by omega) (by omega) Hsm.out hol _ (hS.ext ((Ext.refl w).alloc _)) B1).mono ?_
  rintro e w2 ⟨rfl, rfl⟩
  rw [Hr.out]
  go_wp2_with fail
  go_ret
  exact ⟨by simp, (Ext.refl w).alloc _⟩
end Go.Proofs.YtaaeapjnjjbglaaDoor

namespace Go.Proofs.YtaaeapjnjjbglaaDoor
open Go.RowKit

set_option maxHeartbeats 1000000 in
theorem lessLen_c (CA : Option Addr) (n cc : Nat) (a : Int) (BA : Option Addr) (m bc : Nat) (b : Int) (_hn : n ≤ 1000) (_hm : m ≤ 1000) (ha : 0 ≤ a ∧ a ≤ 100000) (hb : 0 ≤ b ∧ b ≤ 100000) (w : World) :
    Calls Tryd.prog 38 #[.agg #[.slice CA n cc, .int .i64 a], .agg #[.slice BA m bc, .int .i64 b]] w fun e w' => e = .returned (.int .i64 ((n : Int) - m)) ∧ Ext w w' := by
  obtain ⟨W1, hW1, E1, B1, hz1⟩ := box_ w #[.slice CA n cc, .int .i64 a] 83
  obtain ⟨W2, hW2, E2, B2, hz2⟩ := box_ W1 #[.slice BA m bc, .int .i64 b] 83
  rw [hz1] at B2
  have D1 := B1.ext E2
  have d0 := D1.cell 0
  have d1 := D1.cell 1
  have e0 := B2.cell 0
  have e1 := B2.cell 1
  obtain ⟨ha1, ha2⟩ := ha
  obtain ⟨hb1, hb2⟩ := hb
  go_enter Tryd.func38, Tryd.ntmps38
  go_wp2_with fail
  go_ret
  exact ⟨rfl, E1.trans E2⟩
set_option maxHeartbeats 1000000 in
theorem lessWeak_c (CA : Option Addr) (n cc : Nat) (a : Int) (BA : Option Addr) (m bc : Nat) (b : Int) (_hn : n ≤ 1000) (_hm : m ≤ 1000) (ha : 0 ≤ a ∧ a ≤ 100000) (hb : 0 ≤ b ∧ b ≤ 100000) (w : World) :
    Calls Tryd.prog 39 #[.agg #[.slice CA n cc, .int .i64 a], .agg #[.slice BA m bc, .int .i64 b]] w fun e w' => e = .returned (.int .i64 (a - b)) ∧ Ext w w' := by
  obtain ⟨W1, hW1, E1, B1, hz1⟩ := box_ w #[.slice CA n cc, .int .i64 a] 83
  obtain ⟨W2, hW2, E2, B2, hz2⟩ := box_ W1 #[.slice BA m bc, .int .i64 b] 83
  rw [hz1] at B2
  have D1 := B1.ext E2
  have d0 := D1.cell 0
  have d1 := D1.cell 1
  have e0 := B2.cell 0
  have e1 := B2.cell 1
  obtain ⟨ha1, ha2⟩ := ha
  obtain ⟨hb1, hb2⟩ := hb
  go_enter Tryd.func39, Tryd.ntmps39
  go_wp2_with fail
  go_ret
  exact ⟨rfl, E1.trans E2⟩

def firstB (n : Nat) (a : Int) (m : Nat) (b : Int) : Bool := decide (n < m) || (decide (n = m) && decide (a < b))
theorem firstNil_c (CA : Option Addr) (n cc : Nat) (a : Int) (F : Value) (w : World) :
    Calls Tryd.prog 37 #[.pointer none, .agg #[.slice CA n cc, .int .i64 a], F] w fun e w' => e = .returned (.bool true) ∧ Ext w w' := by
  obtain ⟨W1, hW1, E1, B1, hz1⟩ := box_ w #[.slice CA n cc, .int .i64 a] 83
  go_enter Tryd.func37, Tryd.ntmps37
  go_wp2_with fail
  go_ret
  exact ⟨rfl, E1⟩
set_option maxRecDepth 100000 in
set_option maxHeartbeats 4000000 in
theorem firstOf_c (M Fb : Nat) (CA : Option Addr) (n cc : Nat) (a : Int) (BA : Option Addr) (m bc : Nat) (b : Int) (hn : n ≤ 1000) (hm : m ≤ 1000) (ha : 0 ≤ a ∧ a ≤ 100000) (hb : 0 ≤ b ∧ b ≤ 100000) (w : World) (hM : Blk w M 83 #[.slice BA m bc, .int .i64 b])
    (hF : Blk w Fb 90 #[.func (.func 38) #[] #[], .func (.func 39) #[] #[]]) :
    Calls Tryd.prog 37 #[.pointer (some ⟨M, 0, none⟩), .agg #[.slice CA n cc, .int .i64 a], .slice (some ⟨Fb, 0, none⟩) 2 2] w fun e w' => e = .returned (.bool (firstB n a m b)) ∧ Ext w w' := by
  obtain ⟨W1, hW1, E1, B1, hz1⟩ := box_ w #[.slice CA n cc, .int .i64 a] 83
  have hM1 := hM.ext E1
  have hF1 := hF.ext E1
  obtain ⟨ha1, ha2⟩ := ha
  obtain ⟨hb1, hb2⟩ := hb
  clear hz1
  go_enter Tryd.func37, Tryd.ntmps37
  go_wp2_with fail
  clear hW1
  go_loopw [14] (fun iv wr => ∃ j : Nat, j ≤ 2 ∧ iv = .int .i64 j ∧ Hid ((1 ≤ j → n = m) ∧ (2 ≤ j → a = b)) ∧ Ext W1 wr) (fun iv _ => 2 - (intOf iv).toNat)
  case atStart => exact ⟨0, by omega, rfl, Lib.hid ⟨by omega, by omega⟩, Ext.refl _⟩
  case round =>
    obtain ⟨j, hj, rfl, HJ, E⟩ := hrel
    have b1 := (B1.ext E).cell
    have m1 := (hM1.ext E).cell
    have f1 := (hF1.ext E).cell
    obtain rfl | rfl | rfl : j = 0 ∨ j = 1 ∨ j = 2 := by omega
    · rcases Nat.lt_trichotomy n m with h | h | h
      · have Hr : Hid (firstB n a m b = true) := Lib.hid (by simp [firstB, h])
        have t1 : (((n : Int) - m) != 0) = true := by simp; omega
        have t2 : decide (((n : Int) - m) < 0) = true := by simp; omega
        go_wp2_with fail
        refine wp_region_grow (by kernel_rfl) (by kernel_rfl) ?_
        repeat (go_big_quiet_step (((go_at_call 38; exact quiet_ext (lessLen_c CA n cc a BA m bc b hn hm ⟨ha1, ha2⟩ ⟨hb1, hb2⟩ _)))))
        refine wpQuiet_nil ?_
        intro W3 hW3
        have E3 : Ext wr W3 := by
          obtain ⟨x, rfl⟩ := hW3
          exact (Ext.refl _).grow x
        clear hW3
        obtain ⟨hcW3, hfW3, hzW3⟩ := ext_facts E3
        go_wp2_with fail
        go_ret
        exact ⟨by rw [Hr.out] <;> rfl, (E1.trans E).trans E3⟩
      · have t1 : (((n : Int) - m) != 0) = false := by simp; omega
        have H1 : Hid ((1 ≤ 0 + 1 → n = m) ∧ (2 ≤ 0 + 1 → a = b)) := Lib.hid ⟨fun _ => h, by omega⟩
        clear h
        go_wp2_with fail
        refine wp_region_grow (by kernel_rfl) (by kernel_rfl) ?_
        repeat (go_big_quiet_step (((go_at_call 38; exact quiet_ext (lessLen_c CA n cc a BA m bc b hn hm ⟨ha1, ha2⟩ ⟨hb1, hb2⟩ _)))))
        refine wpQuiet_nil ?_
        intro W3 hW3
        have E3 : Ext wr W3 := by
          obtain ⟨x, rfl⟩ := hW3
          exact (Ext.refl _).grow x
        clear hW3
        obtain ⟨hcW3, hfW3, hzW3⟩ := ext_facts E3
        go_wp2_with fail
        go_roundw
        case rel => exact ⟨0 + 1, by omega, by go_num, H1, E.trans E3⟩
        case measure => simp only [intOf]; omega
      · have Hr : Hid (firstB n a m b = false) := Lib.hid (by simp [firstB]; omega)
        have t1 : (((n : Int) - m) != 0) = true := by simp; omega
        have t2 : decide (((n : Int) - m) < 0) = false := by simp; omega
        go_wp2_with fail
        refine wp_region_grow (by kernel_rfl) (by kernel_rfl) ?_
        repeat (go_big_quiet_step (((go_at_call 38; exact quiet_ext (lessLen_c CA n cc a BA m bc b hn hm ⟨ha1, ha2⟩ ⟨hb1, hb2⟩ _)))))
        refine wpQuiet_nil ?_
        intro W3 hW3
        have E3 : Ext wr W3 := by
          obtain ⟨x, rfl⟩ := hW3
          exact (Ext.refl _).grow x
        clear hW3
        obtain ⟨hcW3, hfW3, hzW3⟩ := ext_facts E3
        go_wp2_with fail
        go_ret
        exact ⟨by rw [Hr.out] <;> rfl, (E1.trans E).trans E3⟩
    · have hnm : n = m := HJ.out.1 (by omega)
      rcases Int.lt_trichotomy a b with h | h | h
      · have Hr : Hid (firstB n a m b = true) := Lib.hid (by simp [firstB, h, hnm])
        have t1 : ((a - b) != 0) = true := by simp; omega
        have t2 : decide ((a - b) < 0) = true := by simp; omega
        clear hnm
        go_wp2_with fail
        refine wp_region_grow (by kernel_rfl) (by kernel_rfl) ?_
        repeat (go_big_quiet_step (((go_at_call 39; exact quiet_ext (lessWeak_c CA n cc a BA m bc b hn hm ⟨ha1, ha2⟩ ⟨hb1, hb2⟩ _)))))
        refine wpQuiet_nil ?_
        intro W3 hW3
        have E3 : Ext wr W3 := by
          obtain ⟨x, rfl⟩ := hW3
          exact (Ext.refl _).grow x
        clear hW3
        obtain ⟨hcW3, hfW3, hzW3⟩ := ext_facts E3
        go_wp2_with fail
        go_ret
        exact ⟨by rw [Hr.out] <;> rfl, (E1.trans E).trans E3⟩
      · have t1 : ((a - b) != 0) = false := by simp; omega
        have H1 : Hid ((1 ≤ 1 + 1 → n = m) ∧ (2 ≤ 1 + 1 → a = b)) := Lib.hid ⟨fun _ => hnm, fun _ => h⟩
        clear h hnm
        go_wp2_with fail
        refine wp_region_grow (by kernel_rfl) (by kernel_rfl) ?_
        repeat (go_big_quiet_step (((go_at_call 39; exact quiet_ext (lessWeak_c CA n cc a BA m bc b hn hm ⟨ha1, ha2⟩ ⟨hb1, hb2⟩ _)))))
        refine wpQuiet_nil ?_
        intro W3 hW3
        have E3 : Ext wr W3 := by
          obtain ⟨x, rfl⟩ := hW3
          exact (Ext.refl _).grow x
        clear hW3
        obtain ⟨hcW3, hfW3, hzW3⟩ := ext_facts E3
        go_wp2_with fail
        go_roundw
        case rel => exact ⟨1 + 1, by omega, by go_num, H1, E.trans E3⟩
        case measure => simp only [intOf]; omega
      · have Hr : Hid (firstB n a m b = false) := Lib.hid (by simp [firstB, hnm]; omega)
        have t1 : ((a - b) != 0) = true := by simp; omega
        have t2 : decide ((a - b) < 0) = false := by simp; omega
        clear hnm
        go_wp2_with fail
        refine wp_region_grow (by kernel_rfl) (by kernel_rfl) ?_
        repeat (go_big_quiet_step (((go_at_call 39; exact quiet_ext (lessWeak_c CA n cc a BA m bc b hn hm ⟨ha1, ha2⟩ ⟨hb1, hb2⟩ _)))))
        refine wpQuiet_nil ?_
        intro W3 hW3
        have E3 : Ext wr W3 := by
          obtain ⟨x, rfl⟩ := hW3
          exact (Ext.refl _).grow x
        clear hW3
        obtain ⟨hcW3, hfW3, hzW3⟩ := ext_facts E3
        go_wp2_with fail
        go_ret
        exact ⟨by rw [Hr.out] <;> rfl, (E1.trans E).trans E3⟩
    · obtain ⟨hnm, hab⟩ := HJ.out
      have Hr : Hid (firstB n a m b = false) := Lib.hid (by simp [firstB, hnm (by omega), hab (by omega)])
      clear hnm hab
      go_wp2_with fail
      go_ret
      exact ⟨by rw [Hr.out] <;> rfl, E1.trans E⟩
end Go.Proofs.YtaaeapjnjjbglaaDoor
