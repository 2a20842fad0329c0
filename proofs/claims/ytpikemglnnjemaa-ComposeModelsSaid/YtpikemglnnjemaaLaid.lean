/- Laid plates in memory; At, size, index, Has of the reference. -/
import Derived.Test.YtpikemglnnjemaaComp
namespace Go.Proofs.Ytpikemglnnjemaa
open Go.RowKit

def Laid.cells (c : Laid) : List Value := [.int .i64 c.plate, .int .i64 c.x, .int .i64 c.y, .int .i64 c.z, .bool c.turned]
def Laids (w : World) (A : Option Addr) (cap : Nat) (c : List Laid) : Prop := SliceIs w A c.length cap 5 (c.map Laid.cells)
theorem Laids.ext {w w' : World} {A : Option Addr} {cap : Nat} {c : List Laid} (h : Laids w A cap c) (e : Ext w w') : Laids w' A cap c := SliceIs.ext h e
theorem Laids.len {w : World} {A : Option Addr} {cap : Nat} {c : List Laid} (h : Laids w A cap c) : c.length ≤ maxLen := Nat.le_trans h.le h.small
theorem Laids.at_ {w : World} {A : Option Addr} {cap : Nat} {c : List Laid} (h : Laids w A cap c) {k : Nat} (hk : k < c.length) :
    ∃ b off x, A = some ⟨b, off, none⟩ ∧ c[k]? = some x ∧ b < w.heap.size ∧ w.cell? ⟨b, off + k * 5, none⟩ = some (.int .i64 x.plate) ∧ w.cell? ⟨b, off + k * 5 + 1, none⟩ = some (.int .i64 x.x) ∧
      w.cell? ⟨b, off + k * 5 + 2, none⟩ = some (.int .i64 x.y) ∧ w.cell? ⟨b, off + k * 5 + 3, none⟩ = some (.int .i64 x.z) ∧ w.cell? ⟨b, off + k * 5 + 4, none⟩ = some (.bool x.turned) := by
  obtain ⟨b, off, hA, hb, hc⟩ := SliceIs.cells h (by omega)
  have hget : c[k]? = some c[k] := List.getElem?_eq_getElem hk
  have hr : (c.map Laid.cells)[k]? = some c[k].cells := by rw [List.getElem?_map, hget]; rfl
  exact ⟨b, off, c[k], hA, hget, hb, hc k _ hr 0 _ rfl, hc k _ hr 1 _ rfl, hc k _ hr 2 _ rfl, hc k _ hr 3 _ rfl, hc k _ hr 4 _ rfl⟩

/-- What is laid within bounds. -/
structure Laid.Ok (l : List Plate) (c : Laid) : Prop where
  p : 0 ≤ c.plate ∧ c.plate < l.length
  x : 0 ≤ c.x ∧ c.x ≤ 8
  y : 0 ≤ c.y ∧ c.y ≤ 8
  z : 0 ≤ c.z ∧ c.z ≤ 4
theorem laid_ok {s : Shape} {l : List Plate} {c : Laid} (ok : s.Ok) (h : liesB s l c = true) : c.Ok l := by
  rw [lies_iff] at h
  obtain ⟨hp, hin, _⟩ := h
  rw [Shape.inside_iff] at hin
  have w1 := ok.w
  have d1 := ok.d
  have h1 := ok.h
  exact ⟨hp, by omega, by omega, by omega⟩
theorem sizes {l : List Plate} {c : Laid} (okl : platesB l = true) (h : 0 ≤ c.plate ∧ c.plate < l.length) : (1 ≤ sizeW l c ∧ sizeW l c ≤ 8) ∧ 1 ≤ sizeD l c ∧ sizeD l c ≤ 8 := by
  have hlt : c.plate.toNat < l.length := by omega
  have hget : l[c.plate.toNat]? = some l[c.plate.toNat] := List.getElem?_eq_getElem hlt
  have okp := plate_ok okl hget
  have h1 := okp.w
  have h2 := okp.d
  unfold sizeW sizeD
  rw [plateAt_eq hget]
  cases c.turned
  · simp only [Bool.false_eq_true, if_false]
    omega
  · simp only [if_true]
    omega

set_option maxHeartbeats 1000000 in
theorem rAt_c (s : Shape) (A : Option Addr) (cap : Nat) (x y z : Int) (ok : s.Ok) (w : World) (hb : Bytes w A cap s.cells) :
    Calls Try.prog 25 #[.agg #[.int .i64 s.W, .int .i64 s.D, .int .i64 s.H, .slice A s.cells.length cap], .int .i64 x, .int .i64 y, .int .i64 z] w fun e w' => e = .returned (.int .u8 (s.colorAt x y z)) ∧ Ext w w' := by
  obtain ⟨W1, hW1, E1, B1, hz1⟩ := box_ w #[.int .i64 s.W, .int .i64 s.D, .int .i64 s.H, .slice A s.cells.length cap] 25
  have b1 := B1.cell
  have hs2 := hb.ext E1
  obtain ⟨w1, w2⟩ := ok.w
  obtain ⟨d1, d2⟩ := ok.d
  obtain ⟨h1, h2⟩ := ok.h
  go_enter Try.func25, Try.ntmps25
  go_wp2_with fail
  refine (within_c _ _ _ _).mono ?_
  rintro e w0 ⟨rfl, rfl⟩
  cases k1 : inB 0 (s.W - 1) x
  · go_wp2_with fail
    go_ret
    exact ⟨by simp [Shape.colorAt, Shape.inside, k1], E1⟩
  go_wp2_with fail
  refine (within_c _ _ _ _).mono ?_
  rintro e w0 ⟨rfl, rfl⟩
  cases k2 : inB 0 (s.D - 1) y
  · go_wp2_with fail
    go_ret
    exact ⟨by simp [Shape.colorAt, Shape.inside, k2], E1⟩
  go_wp2_with fail
  refine (within_c _ _ _ _).mono ?_
  rintro e w0 ⟨rfl, rfl⟩
  cases k3 : inB 0 (s.H - 1) z
  · go_wp2_with fail
    go_ret
    exact ⟨by simp [Shape.colorAt, Shape.inside, k3], E1⟩
  have hin : s.inside x y z = true := by simp [Shape.inside, k1, k2, k3]
  have hres : s.colorAt x y z = s.cells.getD (s.idx x y z).toNat 0 := by rw [Shape.colorAt, if_pos hin]
  have hid := s.idx_in ok hin
  obtain ⟨i1, i2, i3, i4, i5, i6, -⟩ := hid
  rw [inB_iff] at k1 k2 k3
  obtain ⟨b, off, c, rfl, hc, hok, hbl, hcell⟩ := hs2.at_ (k := (s.idx x y z).toNat) (by omega)
  have hres : s.colorAt x y z = c := by rw [hres, List.getD_eq_getElem?_getD, hc]; rfl
  have ei : (z * s.D + y) * s.W + x = s.idx x y z := rfl
  have hi2 : (s.idx x y z) < (s.cells.length : Int) := i2
  have Hres := Lib.hid hres
  clear hres hc
  have hw1 : IntKind.i64.wrap (z * s.D) = z * s.D := IntWalk.i64_in _ (by omega)
  have hw2 : IntKind.i64.wrap ((z * s.D + y) * s.W) = (z * s.D + y) * s.W := IntWalk.i64_in _ (by omega)
  have hw3 : IntKind.i64.wrap (s.idx x y z) = s.idx x y z := IntWalk.i64_in _ (by omega)
  go_wp2_with fail
  go_ret
  exact ⟨by rw [Hres.out]; rfl, E1⟩

set_option maxHeartbeats 1000000 in
theorem size_c (A : Option Addr) (cap : Nat) (l : List Plate) (c : Laid) (hp : 0 ≤ c.plate ∧ c.plate < l.length) (w : World) (hl : Plates w A cap l) :
    Calls Try.prog 57 #[.slice A l.length cap, .agg #[.int .i64 c.plate, .int .i64 c.x, .int .i64 c.y, .int .i64 c.z, .bool c.turned]] w fun e w' =>
      e = .returned (.tuple #[.int .i64 (sizeW l c), .int .i64 (sizeD l c)]) ∧ Ext w w' := by
  obtain ⟨pl, x, y, z, t⟩ := c
  obtain ⟨hp1, hp2⟩ := hp
  obtain ⟨n, hn⟩ := Int.eq_ofNat_of_zero_le (show 0 ≤ pl from hp1)
  subst hn
  have hp2 : n < l.length := by
    have : (n : Int) < l.length := hp2
    omega
  have hlen := hl.len
  unfold maxLen at hlen
  obtain ⟨W1, hW1, E1, B1, hz1⟩ := box_ w #[.int .i64 n, .int .i64 x, .int .i64 y, .int .i64 z, .bool t] 64
  have b1 := B1.cell
  obtain ⟨b, off, p, rfl, hpl, hb, p0, p1, p2, p3⟩ := (hl.ext E1).at_ (k := n) hp2
  have Hw : Hid (sizeW l ⟨n, x, y, z, t⟩ = if t then p.D else p.W) := Lib.hid (by simp [sizeW, plateAt_eq hpl])
  have Hd : Hid (sizeD l ⟨n, x, y, z, t⟩ = if t then p.W else p.D) := Lib.hid (by simp [sizeD, plateAt_eq hpl])
  clear hpl
  cases t
  all_goals
    go_enter Try.func57, Try.ntmps57
    go_wp2_with fail
    refine wp_region_grow (by kernel_rfl) (by kernel_rfl) ?_
    repeat (go_big_quiet_step (fail))
    refine wpQuiet_nil ?_
    intro W3 hW3
    have E3 : Ext W1 W3 := by
      obtain ⟨x, rfl⟩ := hW3
      exact (Ext.refl _).grow x
    clear hW3
    obtain ⟨hcW3, hfW3, hzW3⟩ := ext_facts E3
    go_wp2_with fail
    go_ret2
    exact ⟨by rw [Hw.out, Hd.out]; rfl, E1.trans E3⟩

set_option maxHeartbeats 1000000 in
theorem index_c (s : Shape) (A : Option Addr) (cap : Nat) (x y z : Int) (ok : s.Ok) (hin : s.inside x y z = true) (w : World) :
    Calls Try.prog 44 #[.agg #[.int .i64 s.W, .int .i64 s.D, .int .i64 s.H, .slice A s.cells.length cap], .agg #[.int .i64 x, .int .i64 y, .int .i64 z]] w fun e w' => e = .returned (.int .i64 (s.idx x y z)) ∧ Ext w w' := by
  obtain ⟨W1, hW1, E1, B1, hz1⟩ := box_ w #[.int .i64 s.W, .int .i64 s.D, .int .i64 s.H, .slice A s.cells.length cap] 25
  obtain ⟨W2, hW2, E2, B2, hz2⟩ := box_ W1 #[.int .i64 x, .int .i64 y, .int .i64 z] 62
  have B1 := B1.ext E2
  rw [hz1] at B2
  have b1 := B1.cell
  have b2 := B2.cell
  obtain ⟨w1, w2⟩ := ok.w
  obtain ⟨d1, d2⟩ := ok.d
  obtain ⟨h1, h2⟩ := ok.h
  have hid := s.idx_in ok hin
  obtain ⟨i1, i2, i3, i4, i5, i6, i7⟩ := hid
  rw [Shape.inside_iff] at hin
  obtain ⟨⟨x1, x2⟩, ⟨y1, y2⟩, z1, z2⟩ := hin
  have ei : (z * s.D + y) * s.W + x = s.idx x y z := rfl
  go_enter Try.func44, Try.ntmps44
  go_wp2_with fail
  go_ret
  exact ⟨by first | rfl | simp [ei], E1.trans E2⟩

theorem hasB_eq {l : List Plate} {c : Laid} {x y z : Int} {a b : Bool} (h : z = c.z) (h1 : inB c.x (c.x + sizeW l c - 1) x = a) (h2 : inB c.y (c.y + sizeD l c - 1) y = b) : hasB l c x y z = (a && b) := by
  unfold hasB
  rw [decide_eq_true h, h1, h2]
  rfl
set_option maxHeartbeats 1000000 in
theorem has_c (A : Option Addr) (cap : Nat) (l : List Plate) (c : Laid) (x y z : Int) (okl : platesB l = true) (hc : c.Ok l) (w : World) (hl : Plates w A cap l) :
    Calls Try.prog 58 #[.slice A l.length cap, .agg #[.int .i64 c.plate, .int .i64 c.x, .int .i64 c.y, .int .i64 c.z, .bool c.turned], .int .i64 x, .int .i64 y, .int .i64 z] w fun e w' =>
      e = .returned (.bool (hasB l c x y z)) ∧ Ext w w' := by
  obtain ⟨W1, hW1, E1, B1, hz1⟩ := box_ w #[.int .i64 c.plate, .int .i64 c.x, .int .i64 c.y, .int .i64 c.z, .bool c.turned] 64
  have b1 := B1.cell
  have hl1 := hl.ext E1
  obtain ⟨⟨s1, s2⟩, s3, s4⟩ := sizes okl hc.p
  have hp := hc.p
  obtain ⟨x1, x2⟩ := hc.x
  obtain ⟨y1, y2⟩ := hc.y
  by_cases hz : z = c.z
  · have hzb : (z == c.z) = true := by simpa using hz
    cases k1 : inB c.x (c.x + sizeW l c - 1) x
    · have Hr := Lib.hid (hasB_eq hz k1 (b := inB c.y (c.y + sizeD l c - 1) y) rfl)
      clear hz
      go_enter Try.func58, Try.ntmps58
      go_wp2_with fail
      refine (size_c A cap l c hp _ hl1).mono ?_
      rintro e W2 ⟨rfl, E2⟩
      have B1 := B1.ext E2
      have b2 := B1.cell
      clear b1
      go_wp2_with fail
      refine (within_is k1 _).mono ?_
      rintro e w0 ⟨rfl, rfl⟩
      go_wp2_with fail
      go_ret
      exact ⟨by rw [Hr.out]; rfl, E1.trans E2⟩
    · have Hr := Lib.hid (hasB_eq hz k1 (b := inB c.y (c.y + sizeD l c - 1) y) rfl)
      clear hz
      go_enter Try.func58, Try.ntmps58
      go_wp2_with fail
      refine (size_c A cap l c hp _ hl1).mono ?_
      rintro e W2 ⟨rfl, E2⟩
      have B1 := B1.ext E2
      have b2 := B1.cell
      clear b1
      go_wp2_with fail
      refine (within_is k1 _).mono ?_
      rintro e w0 ⟨rfl, rfl⟩
      go_wp2_with fail
      refine (within_c _ _ _ _).mono ?_
      rintro e w0 ⟨rfl, rfl⟩
      go_wp2_with fail
      go_ret
      exact ⟨by rw [Hr.out]; rfl, E1.trans E2⟩
  · have Hr : Hid (hasB l c x y z = false) := Lib.hid (by unfold hasB; rw [decide_eq_false hz]; rfl)
    have hzb : (z == c.z) = false := by simpa using hz
    clear hz
    go_enter Try.func58, Try.ntmps58
    go_wp2_with fail
    refine (size_c A cap l c hp _ hl1).mono ?_
    rintro e W2 ⟨rfl, E2⟩
    have B1 := B1.ext E2
    have b2 := B1.cell
    clear b1
    go_wp2_with fail
    go_ret
    exact ⟨by rw [Hr.out]; rfl, E1.trans E2⟩
end Go.Proofs.Ytpikemglnnjemaa
