/- The search: what it makes of the caller's word. -/
import Derived.Test.YtaaeapjnjjbglaaGreatDoorCd36
import Derived.Deep.Cut
import Derived.Deep.DeepCutAuto
import Derived.Deep.CutRange

namespace Go.Proofs.YtaaeapjnjjbglaaGreatDoor
open Go.RowKit

set_option maxRecDepth 100000 in
set_option maxHeartbeats 20000000 in
theorem growCount_c {σ : Type} {J : σ → (Nat → Prop) → World → Prop} {longF : σ → Nat → Bool} {seeF : σ → List Laid → List Nat → σ} {wT : World} (B : Nat) (k : Spots) (nb _mb : Nat) (g : Nat) (s : Shape) (A : Option Addr) (cap : Nat) (l : List Plate) (PA : Option Addr) (pcap : Nat) (NA : Option Addr) (ncap : Nat) (AA : Option Addr) (acap : Nat) (EA : Option Addr) (ec : Nat) (OA : Option Addr) (oc : Nat) (LA : Option Addr) (lc : Nat) (ms : List Nat)
    (cl : Client s l J wT 30 #[ ] 31 #[.pointer (some ⟨nb, 0, none⟩)] longF seeF) (ok : s.Ok) (okl : platesB l = true) (hB : Board wT g s A cap l PA pcap NA ncap AA acap EA ec OA oc LA lc ms) (hT : TzTab wT) :
    ∀ (f : Nat) (c : List Laid) (all : List Nat) (cov : Nat) (CA : Option Addr) (nc cc : Nat) (SA : Option Addr) (na sc : Nat) (w : World) (st : σ) (Fp : Nat → Prop), c.length = nc → all.length = na → fullN s.cells + 1 ≤ f + lowZ cov → Part s l c all cov →
      Here J wT B k g (.func (.func 30) #[] #[ ]) (.func (.func 31) #[] #[.pointer (some ⟨nb, 0, none⟩)]) (leftL l c) w c all (.slice CA nc cc) (.slice SA na sc) st Fp →
      Calls Tryz.prog 64 #[.int .u32 (cov : Int), .slice CA nc cc, .slice SA na sc, .pointer (some ⟨k.L, 0, none⟩), .pointer (some ⟨k.Bd, 0, none⟩), .pointer (some ⟨k.Se, 0, none⟩), .pointer (some ⟨k.Lf, 0, none⟩), .pointer (some ⟨k.Gr, 0, none⟩)] w
        (GrowPost J wT B k g (.func (.func 30) #[] #[ ]) (.func (.func 31) #[] #[.pointer (some ⟨nb, 0, none⟩)]) l w c all (.slice CA nc cc) (.slice SA na sc) (growS longF seeF s l f st c all cov) Fp) := by
  intro f
  induction f with
  | zero =>
    intro c all cov CA nc cc SA na sc w st Fp _ _ hf hp _
    have := lowZ_le ok hp.is
    omega
  | succ f ih =>
    intro c all cov CA nc cc SA na sc w st Fp hnc hna hf hp hh
    have IH := Lib.hid ih
    clear ih
    have hcovs := hp.is.small ok
    have hlz := lowZ_le ok hp.is
    have hF := ok.full
    have hlen1 := hp.is.len
    have hc16 : nc ≤ 16 := by have := hp.is.count ok; omega
    have hna16 : na ≤ 16 := by omega
    have HP := Lib.hid hp
    have HH := Lib.hid hh
    have Hnc := Lib.hid hnc
    have Hna := Lib.hid hna
    have Hf := Lib.hid hf
    have a1 := hh.env.long.cell
    have hExt := hh.ext
    have hJ := hh.j
    obtain ⟨z, hz⟩ : ∃ z, lowZ cov = z := ⟨_, rfl⟩
    have Hz := Lib.hid hz
    rw [hz] at hlz
    clear hp hh hnc hna hf hlen1 hz
    go_enter Tryz.func64, Tryz.ntmps64
    go_wp2_with fail
    refine (cl.long st Fp _ nc (by omega) hExt hJ).mono ?_
    rintro e w1 ⟨rfl, E1⟩
    have H1 := Lib.hid (HH.out.mono cl E1)
    obtain ⟨b, hb⟩ : ∃ b, longF st nc = b := ⟨_, rfl⟩
    have Hb := Lib.hid hb
    rw [hb]
    clear hb hExt hJ a1
    cases b
    · have hxor := xor_full hcovs
      have hT1 := hT.ext (HH.out.ext.trans E1)
      go_wp2_with fail
      refine (tz_c (4294967295 - cov) (by omega) (by omega) _ hT1).mono ?_
      rintro e w2 ⟨rfl, hw2⟩
      subst w2
      rw [show Lib.ctz 32 (4294967295 - cov) = z from Hz.out]
      have a2 := H1.out.env.brd.cell
      have hB1 := hB.ext H1.out.ext
      have c6 := hB1.c6
      by_cases hfull : fullN s.cells ≤ z
      · have hd : decide ((fullN s.cells : Int) ≤ (z : Int)) = true := by simp; omega
        have a3 := H1.out.env.see.cell
        have hsee := cl.see st Fp w1 c all CA cc SA sc (by rw [Hnc.out]; omega) HP.out.is.len (by rw [← full_of_low ok HP.out.is (by rw [Hz.out]; exact hfull)]; exact HP.out.run) H1.out.ext H1.out.j (fun r hr => (H1.out.fp r hr).2.1)
          (by have := own_any (sz := 5) (rows := c.map Laid.cells) (by decide) (by intro r hr; obtain ⟨x, _, rfl⟩ := List.mem_map.1 hr; rfl) (by simp) (show w1.ownsRow B 55 5 (.slice CA c.length cc) c.length _ by have := H1.out.rc; rw [← Hnc.out] at this; exact this); exact this)
          (own_any (by decide) (by simp) (by simp) (by rw [flat_uv]; have := H1.out.rs; rw [← Hna.out] at this; exact this))
        rw [Hnc.out, Hna.out] at hsee
        have Hsee := Lib.hid hsee
        clear hsee
        go_wp2_with fail
        refine Hsee.out.mono ?_
        rintro e w3 ⟨⟨v3, rfl⟩, Fp3, hj3, f1, f2, o3⟩
        go_wp2_with fail
        go_end0
        refine ⟨⟨_, rfl⟩, Fp3, ?_, fun r hr => ?_, ?_⟩
        · have e1 : growS longF seeF s l (f + 1) st c all cov = seeF st c all := by
            show (if _ then _ else _) = _
            rw [Hnc.out, Hb.out, if_neg (by simp), if_pos (by rw [Hz.out]; exact hfull)]
          rw [e1]
          exact H1.out.seen cl hj3 f1 f2 o3
        · rcases f1 r hr with h | h
          · exact Or.inl h
          · exact Or.inr (Nat.le_trans E1.size h)
        · exact ((Only.of_ext _ E1).trans o3 fun r _ hr => Or.inl hr)
      · have hd : decide ((fullN s.cells : Int) ≤ (z : Int)) = false := by simp; omega
        go_wp2_with fail
        refine (cell_c g s A cap NA ncap ok z (by omega) _ hB1.brd.base).mono ?_
        rintro e w2 ⟨rfl, E2⟩
        obtain ⟨px, hpx⟩ : ∃ px, s.px (placeN s z) = px := ⟨_, rfl⟩
        obtain ⟨py, hpy⟩ : ∃ py, s.py (placeN s z) = py := ⟨_, rfl⟩
        obtain ⟨pz, hpz⟩ : ∃ pz, s.pz (placeN s z) = pz := ⟨_, rfl⟩
        rw [hpx, hpy, hpz]
        have Hpx := Lib.hid hpx
        have Hpy := Lib.hid hpy
        have Hpz := Lib.hid hpz
        have H2 := Lib.hid (H1.out.mono cl E2)
        clear hpx hpy hpz hxor hT1 a2 hB1 c6 hd
        have a2 := H2.out.env.brd.cell
        have c4 := (hB.ext H2.out.ext).brd.c4
        have l1 := H2.out.env.lt (r := k.Bd) (Or.inr (Or.inl rfl))
        have l2 := World.block_lt_of_cell? w2 _ c4
        obtain ⟨W3, hW3, E3, B3, hz3⟩ := box_ w2 #[.int .i64 px, .int .i64 py, .int .i64 pz] 53
        obtain ⟨AT, hAT⟩ : ∃ AT, w2.heap.size = AT := ⟨_, rfl⟩
        rw [hAT] at B3 l1 l2
        have HAT := Lib.hid hAT
        have HS3 : Hid (Stay J wT B k g (.func (.func 30) #[] #[ ]) (.func (.func 31) #[] #[.pointer (some ⟨nb, 0, none⟩)]) l w AT #[.int .i64 px, .int .i64 py, .int .i64 pz] W3 c all (.slice CA nc cc) (.slice SA na sc) (growTo longF seeF s l f c all cov st (2 * 0)) Fp Fp) :=
          Lib.hid ⟨H2.out.mono cl E3, fun r hr => Or.inl hr, Only.of_ext _ ((E1.trans E2).trans E3), B3, fun e => by have := (H2.out.fp _ e).2.1; rw [HAT.out] at this; omega⟩
        have hl8 := plates_len okl
        have hzF : z < fullN s.cells := by omega
        clear hz3 a2 c4
        have a2 := HS3.out.here.env.brd.cell
        have c4 := (hB.ext HS3.out.here.ext).brd.c4
        go_wp2_with fail
        clear hAT hW3 a2 c4 l1 l2 B3
        go_loopw [44] (fun iv wr => ∃ (i : Nat) (Fp' : Nat → Prop), i ≤ l.length ∧ iv = .int .i64 i ∧ Hid (Stay J wT B k g (.func (.func 30) #[] #[ ]) (.func (.func 31) #[] #[.pointer (some ⟨nb, 0, none⟩)]) l w AT #[.int .i64 px, .int .i64 py, .int .i64 pz] wr c all (.slice CA nc cc) (.slice SA na sc) (growTo longF seeF s l f c all cov st (2 * i)) Fp Fp')) (fun iv _ => l.length - (intOf iv).toNat)
        case atStart => exact ⟨0, Fp, by omega, rfl, HS3⟩
        case round =>
          clear HS3
          obtain ⟨i, Fp1, hi, rfl, HS⟩ := hrel
          by_cases hlt : i < l.length
          · obtain ⟨W4, hW4, E4, B4, hz4⟩ := box_ wr #[.bool false, .bool true] 4
            have HS4 := Lib.hid (HS.out.mono cl E4)
            obtain ⟨TB, hTB⟩ : ∃ TB, wr.heap.size = TB := ⟨_, rfl⟩
            rw [hTB] at B4
            have HTB := Lib.hid hTB
            have hTF : Hid (¬ Fp1 TB) := Lib.hid (fun e => by have := (HS.out.here.fp _ e).2.1; rw [HTB.out] at this; omega)
            clear hz4
            obtain ⟨wo, rfl⟩ : ∃ wo : World, wo = wr := ⟨_, rfl⟩
            go_wp2_with fail
            clear hTB hW4
            go_loopw [49] (fun jv wr => ∃ (j : Nat) (Fp' : Nat → Prop), j ≤ 2 ∧ jv = .int .i64 j ∧ Hid (Stay J wT B k g (.func (.func 30) #[] #[ ]) (.func (.func 31) #[] #[.pointer (some ⟨nb, 0, none⟩)]) l w AT #[.int .i64 px, .int .i64 py, .int .i64 pz] wr c all (.slice CA nc cc) (.slice SA na sc) (growTo longF seeF s l f c all cov st (2 * i + j)) Fp Fp') ∧ Blk wr TB 4 #[.bool false, .bool true] ∧ Hid (¬ Fp' TB)) (fun jv _ => 2 - (intOf jv).toNat)
            case atStart => exact ⟨0, Fp1, by omega, rfl, HS4, B4, hTF⟩
            case round =>
              clear HS HS4 B4 hTF
              obtain ⟨j, Fp2, hj, rfl, HS, BT, hTF⟩ := hrel
              have tb := BT.cell
              obtain rfl | rfl | rfl : j = 0 ∨ j = 1 ∨ j = 2 := by omega
              · have hBr := hB.ext HS.out.here.ext
                have a2 := HS.out.here.env.brd.cell
                have c9 := hBr.c9
                have hzm : z < ms.length := by rw [hB.len]; exact hzF
                obtain ⟨Mz, hMz⟩ : ∃ Mz, ms[z]? = some Mz := ⟨_, List.getElem?_eq_getElem hzm⟩
                obtain ⟨mp, hmap, hget⟩ := hBr.maps z Mz hMz
                obtain ⟨lb, loff, hLA, hlb, hlc⟩ := hBr.lays.cells (by omega)
                have lcell := hlc z [mapV Mz] (by rw [List.getElem?_map, hMz]; rfl) 0 _ rfl
                simp only [Nat.mul_one, Nat.add_zero, mapV] at lcell
                subst hLA
                obtain ⟨r, hr⟩ : ∃ r, coverOf s l (laidN s z i false) = r := ⟨_, rfl⟩
                have hlk : (Instr.lookup 140 (.map (some Mz)) (.agg #[.int .i64 (i : Int), .bool false]) true).run Tryz.prog wr = .ok (sortV r) wr := by
                  rw [look_sort hmap, hget, ← hr, ← cover_laidN ok hzF]
                  rfl
                have Hkid : Hid (kidOk s l c cov i false = kidV (leftN l c i) cov r) := Lib.hid (by rw [kid_eq, Hz.out, hr])
                have Hst : Hid (growTo longF seeF s l f c all cov st (2 * i + (0 + 1)) = kidS longF seeF s l f c all cov (growTo longF seeF s l f c all cov st (2 * i + 0)) (i, false)) := Lib.hid (growTo_succ longF seeF s l hlt false)
                have Hr := Lib.hid hr
                clear hr hget hlc hMz hzm hBr
                cases r with
                | none =>
                  have Hno : Hid (kidOk s l c cov i false = none) := Lib.hid (by rw [Hkid.out]; rfl)
                  dsimp only [sortV] at hlk
                  go_wp2_with fail
                  go_roundw
                  case rel => exact ⟨0 + 1, Fp2, by omega, by go_num, by rw [Hst.out]; unfold kidS; rw [Hno.out]; exact HS, BT, hTF⟩
                  case measure => simp only [intOf]; omega
                | some m =>
                  have hms := cover_small ok Hr.out
                  have hgeti : l[i]? = some (plateAt l i) := by
                    have := List.getElem?_eq_getElem hlt
                    rw [this, plateAt_eq this]
                  have okn := (plate_ok okl hgeti).n
                  have hun := usedN_le_N okl HP.out.is hlt
                  obtain ⟨q, hq⟩ : ∃ q, leftN l c i = q := ⟨_, rfl⟩
                  have hqb : 0 ≤ q ∧ q ≤ 99 := by
                    unfold leftN at hq
                    omega
                  have a6 := HS.out.here.env.lft.cell
                  have a7 : wr.cell? ⟨k.La, i, none⟩ = some (.int .i64 q) := by
                    rw [HS.out.here.env.rest.cell, intsA_get, leftL_get hlt, hq]
                    rfl
                  have f7 := HS.out.here.env.rest.frozen i
                  rw [leftL_len] at a6
                  have Hq := Lib.hid hq
                  rw [hq] at Hkid
                  have hb0 := bits_and hms hcovs
                  dsimp only [sortV] at hlk
                  clear hq hgeti okn hun
                  by_cases h0 : q = 0
                  · have Hno : Hid (kidOk s l c cov i false = none) := Lib.hid (by rw [Hkid.out]; exact if_pos (Or.inl h0))
                    have e0 : (q == 0) = true := by simp [h0]
                    go_wp2_with fail
                    go_roundw
                    case rel => exact ⟨0 + 1, Fp2, by omega, by go_num, by rw [Hst.out]; unfold kidS; rw [Hno.out]; exact HS, BT, hTF⟩
                    case measure => simp only [intOf]; omega
                  · have e0 : (q == 0) = false := by simpa using h0
                    by_cases hand : m &&& cov = 0
                    · have e1 : (bits .and .u32 (m : Int) (cov : Int) != 0) = false := by rw [hb0, hand]; rfl
                      clear hb0
                      have hadd := HP.out.add ok okl (by rw [Hz.out]; exact hzF) (i := i) (t := false) (m := m) (by rw [Hz.out]; exact Hr.out) hand (by have h := Hq.out; unfold leftN at h; omega)
                      rw [Hz.out] at hadd
                      obtain ⟨hp2, hlz2⟩ := hadd
                      obtain ⟨x, hx⟩ : ∃ x, laidN s z i false = x := ⟨_, rfl⟩
                      have hxp : x.plate = i := by rw [← hx]; rfl
                      have hxc : x.cells = [.int .i64 (i : Int), .int .i64 px, .int .i64 py, .int .i64 pz, .bool false] := by
                        rw [← hx]
                        unfold Laid.cells laidN
                        rw [Hpx.out, Hpy.out, Hpz.out]
                      rw [hx] at hp2
                      have Hp2 := Lib.hid hp2
                      have Hlz2 := Lib.hid hlz2
                      have Hx := Lib.hid hx
                      have Hxp := Lib.hid hxp
                      have Hxc := Lib.hid hxc
                      have Hsome : Hid (kidOk s l c cov i false = some m) := Lib.hid (by rw [Hkid.out]; exact if_neg (by rintro (h | h); exact h0 h; exact h hand))
                      obtain ⟨W5, hW5⟩ : ∃ W5, wr.setCell ⟨k.La, i, none⟩ (.int .i64 (q - 1)) = W5 := ⟨_, rfl⟩
                      have hh5 := HS.out.here.write cl i (q - 1)
                      have hl5 : (leftL l c).set i (q - 1) = leftL l (c ++ [x]) := by rw [← Hq.out]; exact leftL_add hxp
                      rw [hl5, hW5] at hh5
                      have hneL : AT ≠ k.La := fun e => HS.out.here.no_turn HS.out.box (Or.inl rfl) HS.out.free (Or.inr (Or.inr (Or.inr e)))
                      have hbx5 := HS.out.box.far (p := ⟨k.La, i, none⟩) hneL (.int .i64 (q - 1))
                      rw [hW5] at hbx5
                      have H5 := Lib.hid hh5
                      have Hbx5 := Lib.hid hbx5
                      have g5 : W5.cell? ⟨k.Gr, 0, none⟩ = some (Value.func (.func 64) #[] #[.pointer (some ⟨k.L, 0, none⟩), .pointer (some ⟨k.Bd, 0, none⟩), .pointer (some ⟨k.Se, 0, none⟩), .pointer (some ⟨k.Lf, 0, none⟩), .pointer (some ⟨k.Gr, 0, none⟩)]) := by rw [hh5.env.grow.cell]; rfl
                      have x50 : W5.cell? ⟨AT, 0, none⟩ = some (.int .i64 px) := hbx5.cell 0
                      have x51 : W5.cell? ⟨AT, 1, none⟩ = some (.int .i64 py) := hbx5.cell 1
                      have x52 : W5.cell? ⟨AT, 2, none⟩ = some (.int .i64 pz) := hbx5.cell 2
                      have HW5 := Lib.hid hW5
                      have hor := bits_or hcovs hms
                      clear hp2 hlz2 hx hxp hxc hh5 hl5 hneL hbx5 hand
                      go_upto_region 14 with (fail)
                      go_cut [88] from 88 to 103 (fun s88 wx => s88 = (Value.func (.func 64) #[] #[.pointer (some ⟨k.L, 0, none⟩), .pointer (some ⟨k.Bd, 0, none⟩), .pointer (some ⟨k.Se, 0, none⟩), .pointer (some ⟨k.Lf, 0, none⟩), .pointer (some ⟨k.Gr, 0, none⟩)]) ∧ Deep J wT B k g (.func (.func 30) #[] #[ ]) (.func (.func 31) #[] #[.pointer (some ⟨nb, 0, none⟩)]) (leftL l (c ++ [x])) W5 c all (.slice CA nc cc) (.slice SA na sc) (growS longF seeF s l f (growTo longF seeF s l f c all cov st (2 * i + 0)) (c ++ [x]) (all ++ [m]) (cov ||| m)) Fp2 wx)
                      case first =>
                        have oc := H5.out.rc
                        have os := H5.out.rs
                        rw [Hnc.out] at oc
                        rw [Hna.out] at os
                        have hlow := H5.out.low.2
                        have hgr : k.has k.Gr := Or.inr (Or.inr (Or.inr (Or.inr (Or.inr rfl))))
                        have hCg := H5.out.env.row_ne hgr oc (Or.inl rfl)
                        have hSg := H5.out.env.row_ne hgr os (Or.inr rfl)
                        have hnt := HS.out.here.no_turn HS.out.box (Or.inl rfl) HS.out.free
                        have hCa : (Value.slice CA nc cc).ownBlock ≠ some AT := fun e => hnt (Or.inr (Or.inl e))
                        have hSa : (Value.slice SA na sc).ownBlock ≠ some AT := fun e => hnt (Or.inr (Or.inr (Or.inl e)))
                        obtain ⟨iL, hiL, zL0, zL1, zL2⟩ := info_parts infoLaid
                        obtain ⟨iU, hiU, zU0, zU1, zU2⟩ := info_parts infoU32
                        have b1 : nc + 1 ≤ maxLen := by unfold maxLen; omega
                        have b2 : (nc + 1) * 40 ≤ 140737488355328 := by omega
                        have b3 : na + 1 ≤ maxLen := by unfold maxLen; omega
                        have b4 : (na + 1) * 4 ≤ 140737488355328 := by omega
                        have HnT := Lib.hid hnt
                        clear hnt
                        have oc0 := oc
                        have os0 := os
                        go_region_held3 (fun w' => w'.cell? ⟨k.Gr, 0, none⟩ = some (Value.func (.func 64) #[] #[.pointer (some ⟨k.L, 0, none⟩), .pointer (some ⟨k.Bd, 0, none⟩), .pointer (some ⟨k.Se, 0, none⟩), .pointer (some ⟨k.Lf, 0, none⟩), .pointer (some ⟨k.Gr, 0, none⟩)]) ∧ w'.cell? ⟨AT, 0, none⟩ = some (.int .i64 px) ∧ w'.cell? ⟨AT, 1, none⟩ = some (.int .i64 py) ∧ w'.cell? ⟨AT, 2, none⟩ = some (.int .i64 pz))
                          (first
                            | (go_split_ands; exact ⟨(ext_alloc _ _).cell (by assumption), (ext_alloc _ _).cell (by assumption), (ext_alloc _ _).cell (by assumption), (ext_alloc _ _).cell (by assumption)⟩)
                            | (go_split_ands; exact ⟨fc.cell (by assumption) hCg, fc.cell (by assumption) hCa, fc.cell (by assumption) hCa, fc.cell (by assumption) hCa⟩)
                            | (go_split_ands; exact ⟨fs.cell (by assumption) hSg, fs.cell (by assumption) hSa, fs.cell (by assumption) hSa, fs.cell (by assumption) hSa⟩)
                            | (go_split_ands; exact ⟨ho7.cell (by assumption) nGr, ho7.cell (by assumption) nAT, ho7.cell (by assumption) nAT, ho7.cell (by assumption) nAT⟩)
                            | go_keep)
                          (first
                            | (refine at_append #[.tmp 92, .tmp 97] #[26, 26] rfl ?_; refine step_append_fate rfl (.tmp 92) (.tmp 97) 26 rfl B 55 iL _ 5 40 Tryz.underlying26 hiL zL0 zL1 zL2 rfl (by decide) (.slice CA nc cc) nc _ rfl (by first | exact oc | exact oc.alloc _ | exact (oc.alloc _).alloc _) _ 1 (#[.int .i64 (i : Int), .int .i64 px, .int .i64 py, .int .i64 pz, .bool false] : Array Value).toList rfl rfl (fun j => by rw [(show Blk _ _ 55 #[.int .i64 (i : Int), .int .i64 px, .int .i64 py, .int .i64 pz, .bool false] from by first | exact blk_new_at (by simp) | exact (blk_new_at (by simp)).alloc _ | exact kpS _ _ _ (blk_new_at (by simp)) (by decide) | exact kpS _ _ _ ((blk_new_at (by simp)).alloc _) (by decide)).cell]; simp) (by simp [Value.oneCell']) b1 b2 (by first | exact hlow | (simp; omega) | (have := fs.only.size; simp at this ⊢; omega)) ?_; intro V4 w4 fc; obtain ⟨g4, cp4, rfl, hd4⟩ := fc.2; have kpC := fun g t cs (h : Blk _ g t cs) (ht : t ≠ 55) => fc.blk (by first | exact oc | exact oc.alloc _ | exact (oc.alloc _).alloc _) h ht; try (have os := own_two (by first | exact os | exact os.alloc _ | exact (os.alloc _).alloc _) (by first | exact oc | exact oc.alloc _ | exact (oc.alloc _).alloc _) (by decide) fc.only))
                            | (refine at_append #[.tmp 99, .tmp 101] #[66, 66] rfl ?_; refine step_append_fate rfl (.tmp 99) (.tmp 101) 66 rfl B 106 iU _ 1 4 Tryz.underlying66 hiU zU0 zU1 zU2 rfl (by decide) (.slice SA na sc) na _ rfl (by first | exact os | exact os.alloc _ | exact (os.alloc _).alloc _) _ 1 (#[uv m] : Array Value).toList rfl rfl (fun j => by rw [(show Blk _ _ 106 #[uv m] from by first | exact blk_new_at (by simp) | exact (blk_new_at (by simp)).alloc _ | exact kpC _ _ _ (blk_new_at (by simp)) (by decide) | exact kpC _ _ _ ((blk_new_at (by simp)).alloc _) (by decide)).cell]; simp) (by simp [Value.oneCell', uv]) b3 b4 (by first | exact hlow | (simp; omega) | (have := fc.only.size; simp at this ⊢; omega)) ?_; intro V4 w6 fs; obtain ⟨g5, cp5, rfl, hd5⟩ := fs.2; have kpS := fun g t cs (h : Blk _ g t cs) (ht : t ≠ 106) => fs.blk (by first | exact os | exact os.alloc _ | exact (os.alloc _).alloc _) h ht; try (have oc := own_two (by first | exact oc | exact oc.alloc _ | exact (oc.alloc _).alloc _) (by first | exact os | exact os.alloc _ | exact (os.alloc _).alloc _) (by decide) fs.only))
                            | (go_simp; go_at_call 64; (first | (obtain ⟨oT, rC, rS⟩ := two_rows (by decide) oc0 os0 (by first | exact Ext.refl _ | exact (Ext.refl _).drew | exact ext_alloc _ _ | exact (ext_alloc _ _).drew | exact (ext_alloc _ _).trans (ext_alloc _ _) | exact ((ext_alloc _ _).trans (ext_alloc _ _)).drew) fc (by first | exact Ext.refl _ | exact (Ext.refl _).drew | exact ext_alloc _ _ | exact (ext_alloc _ _).drew | exact (ext_alloc _ _).trans (ext_alloc _ _) | exact ((ext_alloc _ _).trans (ext_alloc _ _)).drew) fs) | (obtain ⟨oT', rS, rC⟩ := two_rows (by decide) os0 oc0 (by first | exact Ext.refl _ | exact (Ext.refl _).drew | exact ext_alloc _ _ | exact (ext_alloc _ _).drew | exact (ext_alloc _ _).trans (ext_alloc _ _) | exact ((ext_alloc _ _).trans (ext_alloc _ _)).drew) fs (by first | exact Ext.refl _ | exact (Ext.refl _).drew | exact ext_alloc _ _ | exact (ext_alloc _ _).drew | exact (ext_alloc _ _).trans (ext_alloc _ _) | exact ((ext_alloc _ _).trans (ext_alloc _ _)).drew) fc; have oT := oT'.mono fun r _ e => Or.symm e)); have rC' : RowTo W5 _ B 55 5 (.slice CA nc cc) (.slice (some ⟨g4, 0, none⟩) (nc + 1) cp4) c.length ((c.map Laid.cells).flatten ++ x.cells) := (by rw [Hnc.out, Hxc.out]; exact rC); have rS' : RowTo W5 _ B 106 1 (.slice SA na sc) (.slice (some ⟨g5, 0, none⟩) (na + 1) cp5) all.length (all.map uv ++ [uv m]) := (by rw [Hna.out]; exact rS); have hh2 := H5.out.deeper cl oT rC' rS'; have nGr := hh2.spot_turn; have nAT := hh2.no_turn (Hbx5.out.only oT (fun e => e.elim hCa hSa)) (Or.inl rfl) HS.out.free; refine (IH.out (c ++ [x]) (all ++ [m]) (cov ||| m) _ (nc + 1) _ _ (na + 1) _ _ _ Fp2 (by rw [List.length_append, Hnc.out]; rfl) (by rw [List.length_append, Hna.out]; rfl) (by have h1 := Hlz2.out; have h2 := Hf.out; rw [Hz.out] at h2; omega) Hp2.out hh2).mono ?_; rintro e w7 hpost; have hD := H5.out.dug oT rC' rS' hpost; obtain ⟨⟨v7, rfl⟩, Fp7, hh7, hs7, ho7⟩ := hpost))
                        all_goals (go_wp2_with fail; go_meet; exact ⟨rfl, hD⟩)
                      case rest =>
                        obtain ⟨rfl, hD⟩ := hcut
                        have HD := Lib.hid hD
                        obtain ⟨Fp7, hh7, -, -⟩ := hD
                        clear a2 c9 lcell hlk a6 a7 f7 tb hlb g5 x50 x51 x52
                        have a6 := hh7.env.lft.cell
                        rw [leftL_len] at a6
                        have a7 := hh7.env.rest.cell i
                        rw [intsA_get, leftL_get hlt, leftN_snoc, if_pos Hxp.out, Hq.out] at a7
                        simp only [Option.map_some, iv] at a7
                        have f7 := hh7.env.rest.frozen i
                        clear hh7
                        go_wp2_with fail
                        go_roundw
                        case rel =>
                          obtain ⟨Fp8, hs8, hb8, hf8⟩ := HS.out.after cl Hxp.out BT hTF.out (by rw [Hq.out, HW5.out]; exact HD.out)
                          rw [leftN_snoc, if_pos Hxp.out, Hq.out, show q - 1 + 1 = q by omega] at hs8 hb8
                          refine ⟨0 + 1, Fp8, by omega, by go_num, Lib.hid ?_, hb8, Lib.hid hf8⟩
                          rw [Hst.out]
                          unfold kidS
                          simp only [Hsome.out, Hz.out, Hx.out]
                          exact hs8
                        case measure => simp only [intOf]; omega
                    · have Hno : Hid (kidOk s l c cov i false = none) := Lib.hid (by rw [Hkid.out]; exact if_pos (Or.inr hand))
                      have e1 : (bits .and .u32 (m : Int) (cov : Int) != 0) = true := by rw [hb0]; simp; omega
                      clear hb0
                      go_wp2_with fail
                      go_roundw
                      case rel => exact ⟨0 + 1, Fp2, by omega, by go_num, by rw [Hst.out]; unfold kidS; rw [Hno.out]; exact HS, BT, hTF⟩
                      case measure => simp only [intOf]; omega
              · have hBr := hB.ext HS.out.here.ext
                have a2 := HS.out.here.env.brd.cell
                have c9 := hBr.c9
                have hzm : z < ms.length := by rw [hB.len]; exact hzF
                obtain ⟨Mz, hMz⟩ : ∃ Mz, ms[z]? = some Mz := ⟨_, List.getElem?_eq_getElem hzm⟩
                obtain ⟨mp, hmap, hget⟩ := hBr.maps z Mz hMz
                obtain ⟨lb, loff, hLA, hlb, hlc⟩ := hBr.lays.cells (by omega)
                have lcell := hlc z [mapV Mz] (by rw [List.getElem?_map, hMz]; rfl) 0 _ rfl
                simp only [Nat.mul_one, Nat.add_zero, mapV] at lcell
                subst hLA
                obtain ⟨r, hr⟩ : ∃ r, coverOf s l (laidN s z i true) = r := ⟨_, rfl⟩
                have hlk : (Instr.lookup 140 (.map (some Mz)) (.agg #[.int .i64 (i : Int), .bool true]) true).run Tryz.prog wr = .ok (sortV r) wr := by
                  rw [look_sort hmap, hget, ← hr, ← cover_laidN ok hzF]
                  rfl
                have Hkid : Hid (kidOk s l c cov i true = kidV (leftN l c i) cov r) := Lib.hid (by rw [kid_eq, Hz.out, hr])
                have Hst : Hid (growTo longF seeF s l f c all cov st (2 * i + (1 + 1)) = kidS longF seeF s l f c all cov (growTo longF seeF s l f c all cov st (2 * i + 1)) (i, true)) := Lib.hid (growTo_succ longF seeF s l hlt true)
                have Hr := Lib.hid hr
                clear hr hget hlc hMz hzm hBr
                cases r with
                | none =>
                  have Hno : Hid (kidOk s l c cov i true = none) := Lib.hid (by rw [Hkid.out]; rfl)
                  dsimp only [sortV] at hlk
                  go_wp2_with fail
                  go_roundw
                  case rel => exact ⟨1 + 1, Fp2, by omega, by go_num, by rw [Hst.out]; unfold kidS; rw [Hno.out]; exact HS, BT, hTF⟩
                  case measure => simp only [intOf]; omega
                | some m =>
                  have hms := cover_small ok Hr.out
                  have hgeti : l[i]? = some (plateAt l i) := by
                    have := List.getElem?_eq_getElem hlt
                    rw [this, plateAt_eq this]
                  have okn := (plate_ok okl hgeti).n
                  have hun := usedN_le_N okl HP.out.is hlt
                  obtain ⟨q, hq⟩ : ∃ q, leftN l c i = q := ⟨_, rfl⟩
                  have hqb : 0 ≤ q ∧ q ≤ 99 := by
                    unfold leftN at hq
                    omega
                  have a6 := HS.out.here.env.lft.cell
                  have a7 : wr.cell? ⟨k.La, i, none⟩ = some (.int .i64 q) := by
                    rw [HS.out.here.env.rest.cell, intsA_get, leftL_get hlt, hq]
                    rfl
                  have f7 := HS.out.here.env.rest.frozen i
                  rw [leftL_len] at a6
                  have Hq := Lib.hid hq
                  rw [hq] at Hkid
                  have hb0 := bits_and hms hcovs
                  dsimp only [sortV] at hlk
                  clear hq hgeti okn hun
                  by_cases h0 : q = 0
                  · have Hno : Hid (kidOk s l c cov i true = none) := Lib.hid (by rw [Hkid.out]; exact if_pos (Or.inl h0))
                    have e0 : (q == 0) = true := by simp [h0]
                    go_wp2_with fail
                    go_roundw
                    case rel => exact ⟨1 + 1, Fp2, by omega, by go_num, by rw [Hst.out]; unfold kidS; rw [Hno.out]; exact HS, BT, hTF⟩
                    case measure => simp only [intOf]; omega
                  · have e0 : (q == 0) = false := by simpa using h0
                    by_cases hand : m &&& cov = 0
                    · have e1 : (bits .and .u32 (m : Int) (cov : Int) != 0) = false := by rw [hb0, hand]; rfl
                      clear hb0
                      have hadd := HP.out.add ok okl (by rw [Hz.out]; exact hzF) (i := i) (t := true) (m := m) (by rw [Hz.out]; exact Hr.out) hand (by have h := Hq.out; unfold leftN at h; omega)
                      rw [Hz.out] at hadd
                      obtain ⟨hp2, hlz2⟩ := hadd
                      obtain ⟨x, hx⟩ : ∃ x, laidN s z i true = x := ⟨_, rfl⟩
                      have hxp : x.plate = i := by rw [← hx]; rfl
                      have hxc : x.cells = [.int .i64 (i : Int), .int .i64 px, .int .i64 py, .int .i64 pz, .bool true] := by
                        rw [← hx]
                        unfold Laid.cells laidN
                        rw [Hpx.out, Hpy.out, Hpz.out]
                      rw [hx] at hp2
                      have Hp2 := Lib.hid hp2
                      have Hlz2 := Lib.hid hlz2
                      have Hx := Lib.hid hx
                      have Hxp := Lib.hid hxp
                      have Hxc := Lib.hid hxc
                      have Hsome : Hid (kidOk s l c cov i true = some m) := Lib.hid (by rw [Hkid.out]; exact if_neg (by rintro (h | h); exact h0 h; exact h hand))
                      obtain ⟨W5, hW5⟩ : ∃ W5, wr.setCell ⟨k.La, i, none⟩ (.int .i64 (q - 1)) = W5 := ⟨_, rfl⟩
                      have hh5 := HS.out.here.write cl i (q - 1)
                      have hl5 : (leftL l c).set i (q - 1) = leftL l (c ++ [x]) := by rw [← Hq.out]; exact leftL_add hxp
                      rw [hl5, hW5] at hh5
                      have hneL : AT ≠ k.La := fun e => HS.out.here.no_turn HS.out.box (Or.inl rfl) HS.out.free (Or.inr (Or.inr (Or.inr e)))
                      have hbx5 := HS.out.box.far (p := ⟨k.La, i, none⟩) hneL (.int .i64 (q - 1))
                      rw [hW5] at hbx5
                      have H5 := Lib.hid hh5
                      have Hbx5 := Lib.hid hbx5
                      have g5 : W5.cell? ⟨k.Gr, 0, none⟩ = some (Value.func (.func 64) #[] #[.pointer (some ⟨k.L, 0, none⟩), .pointer (some ⟨k.Bd, 0, none⟩), .pointer (some ⟨k.Se, 0, none⟩), .pointer (some ⟨k.Lf, 0, none⟩), .pointer (some ⟨k.Gr, 0, none⟩)]) := by rw [hh5.env.grow.cell]; rfl
                      have x50 : W5.cell? ⟨AT, 0, none⟩ = some (.int .i64 px) := hbx5.cell 0
                      have x51 : W5.cell? ⟨AT, 1, none⟩ = some (.int .i64 py) := hbx5.cell 1
                      have x52 : W5.cell? ⟨AT, 2, none⟩ = some (.int .i64 pz) := hbx5.cell 2
                      have HW5 := Lib.hid hW5
                      have hor := bits_or hcovs hms
                      clear hp2 hlz2 hx hxp hxc hh5 hl5 hneL hbx5 hand
                      go_upto_region 14 with (fail)
                      go_cut [88] from 88 to 103 (fun s88 wx => s88 = (Value.func (.func 64) #[] #[.pointer (some ⟨k.L, 0, none⟩), .pointer (some ⟨k.Bd, 0, none⟩), .pointer (some ⟨k.Se, 0, none⟩), .pointer (some ⟨k.Lf, 0, none⟩), .pointer (some ⟨k.Gr, 0, none⟩)]) ∧ Deep J wT B k g (.func (.func 30) #[] #[ ]) (.func (.func 31) #[] #[.pointer (some ⟨nb, 0, none⟩)]) (leftL l (c ++ [x])) W5 c all (.slice CA nc cc) (.slice SA na sc) (growS longF seeF s l f (growTo longF seeF s l f c all cov st (2 * i + 1)) (c ++ [x]) (all ++ [m]) (cov ||| m)) Fp2 wx)
                      case first =>
                        have oc := H5.out.rc
                        have os := H5.out.rs
                        rw [Hnc.out] at oc
                        rw [Hna.out] at os
                        have hlow := H5.out.low.2
                        have hgr : k.has k.Gr := Or.inr (Or.inr (Or.inr (Or.inr (Or.inr rfl))))
                        have hCg := H5.out.env.row_ne hgr oc (Or.inl rfl)
                        have hSg := H5.out.env.row_ne hgr os (Or.inr rfl)
                        have hnt := HS.out.here.no_turn HS.out.box (Or.inl rfl) HS.out.free
                        have hCa : (Value.slice CA nc cc).ownBlock ≠ some AT := fun e => hnt (Or.inr (Or.inl e))
                        have hSa : (Value.slice SA na sc).ownBlock ≠ some AT := fun e => hnt (Or.inr (Or.inr (Or.inl e)))
                        obtain ⟨iL, hiL, zL0, zL1, zL2⟩ := info_parts infoLaid
                        obtain ⟨iU, hiU, zU0, zU1, zU2⟩ := info_parts infoU32
                        have b1 : nc + 1 ≤ maxLen := by unfold maxLen; omega
                        have b2 : (nc + 1) * 40 ≤ 140737488355328 := by omega
                        have b3 : na + 1 ≤ maxLen := by unfold maxLen; omega
                        have b4 : (na + 1) * 4 ≤ 140737488355328 := by omega
                        have HnT := Lib.hid hnt
                        clear hnt
                        have oc0 := oc
                        have os0 := os
                        go_region_held3 (fun w' => w'.cell? ⟨k.Gr, 0, none⟩ = some (Value.func (.func 64) #[] #[.pointer (some ⟨k.L, 0, none⟩), .pointer (some ⟨k.Bd, 0, none⟩), .pointer (some ⟨k.Se, 0, none⟩), .pointer (some ⟨k.Lf, 0, none⟩), .pointer (some ⟨k.Gr, 0, none⟩)]) ∧ w'.cell? ⟨AT, 0, none⟩ = some (.int .i64 px) ∧ w'.cell? ⟨AT, 1, none⟩ = some (.int .i64 py) ∧ w'.cell? ⟨AT, 2, none⟩ = some (.int .i64 pz))
                          (first
                            | (go_split_ands; exact ⟨(ext_alloc _ _).cell (by assumption), (ext_alloc _ _).cell (by assumption), (ext_alloc _ _).cell (by assumption), (ext_alloc _ _).cell (by assumption)⟩)
                            | (go_split_ands; exact ⟨fc.cell (by assumption) hCg, fc.cell (by assumption) hCa, fc.cell (by assumption) hCa, fc.cell (by assumption) hCa⟩)
                            | (go_split_ands; exact ⟨fs.cell (by assumption) hSg, fs.cell (by assumption) hSa, fs.cell (by assumption) hSa, fs.cell (by assumption) hSa⟩)
                            | (go_split_ands; exact ⟨ho7.cell (by assumption) nGr, ho7.cell (by assumption) nAT, ho7.cell (by assumption) nAT, ho7.cell (by assumption) nAT⟩)
                            | go_keep)
                          (first
                            | (refine at_append #[.tmp 92, .tmp 97] #[26, 26] rfl ?_; refine step_append_fate rfl (.tmp 92) (.tmp 97) 26 rfl B 55 iL _ 5 40 Tryz.underlying26 hiL zL0 zL1 zL2 rfl (by decide) (.slice CA nc cc) nc _ rfl (by first | exact oc | exact oc.alloc _ | exact (oc.alloc _).alloc _) _ 1 (#[.int .i64 (i : Int), .int .i64 px, .int .i64 py, .int .i64 pz, .bool true] : Array Value).toList rfl rfl (fun j => by rw [(show Blk _ _ 55 #[.int .i64 (i : Int), .int .i64 px, .int .i64 py, .int .i64 pz, .bool true] from by first | exact blk_new_at (by simp) | exact (blk_new_at (by simp)).alloc _ | exact kpS _ _ _ (blk_new_at (by simp)) (by decide) | exact kpS _ _ _ ((blk_new_at (by simp)).alloc _) (by decide)).cell]; simp) (by simp [Value.oneCell']) b1 b2 (by first | exact hlow | (simp; omega) | (have := fs.only.size; simp at this ⊢; omega)) ?_; intro V4 w4 fc; obtain ⟨g4, cp4, rfl, hd4⟩ := fc.2; have kpC := fun g t cs (h : Blk _ g t cs) (ht : t ≠ 55) => fc.blk (by first | exact oc | exact oc.alloc _ | exact (oc.alloc _).alloc _) h ht; try (have os := own_two (by first | exact os | exact os.alloc _ | exact (os.alloc _).alloc _) (by first | exact oc | exact oc.alloc _ | exact (oc.alloc _).alloc _) (by decide) fc.only))
                            | (refine at_append #[.tmp 99, .tmp 101] #[66, 66] rfl ?_; refine step_append_fate rfl (.tmp 99) (.tmp 101) 66 rfl B 106 iU _ 1 4 Tryz.underlying66 hiU zU0 zU1 zU2 rfl (by decide) (.slice SA na sc) na _ rfl (by first | exact os | exact os.alloc _ | exact (os.alloc _).alloc _) _ 1 (#[uv m] : Array Value).toList rfl rfl (fun j => by rw [(show Blk _ _ 106 #[uv m] from by first | exact blk_new_at (by simp) | exact (blk_new_at (by simp)).alloc _ | exact kpC _ _ _ (blk_new_at (by simp)) (by decide) | exact kpC _ _ _ ((blk_new_at (by simp)).alloc _) (by decide)).cell]; simp) (by simp [Value.oneCell', uv]) b3 b4 (by first | exact hlow | (simp; omega) | (have := fc.only.size; simp at this ⊢; omega)) ?_; intro V4 w6 fs; obtain ⟨g5, cp5, rfl, hd5⟩ := fs.2; have kpS := fun g t cs (h : Blk _ g t cs) (ht : t ≠ 106) => fs.blk (by first | exact os | exact os.alloc _ | exact (os.alloc _).alloc _) h ht; try (have oc := own_two (by first | exact oc | exact oc.alloc _ | exact (oc.alloc _).alloc _) (by first | exact os | exact os.alloc _ | exact (os.alloc _).alloc _) (by decide) fs.only))
                            | (go_simp; go_at_call 64; (first | (obtain ⟨oT, rC, rS⟩ := two_rows (by decide) oc0 os0 (by first | exact Ext.refl _ | exact (Ext.refl _).drew | exact ext_alloc _ _ | exact (ext_alloc _ _).drew | exact (ext_alloc _ _).trans (ext_alloc _ _) | exact ((ext_alloc _ _).trans (ext_alloc _ _)).drew) fc (by first | exact Ext.refl _ | exact (Ext.refl _).drew | exact ext_alloc _ _ | exact (ext_alloc _ _).drew | exact (ext_alloc _ _).trans (ext_alloc _ _) | exact ((ext_alloc _ _).trans (ext_alloc _ _)).drew) fs) | (obtain ⟨oT', rS, rC⟩ := two_rows (by decide) os0 oc0 (by first | exact Ext.refl _ | exact (Ext.refl _).drew | exact ext_alloc _ _ | exact (ext_alloc _ _).drew | exact (ext_alloc _ _).trans (ext_alloc _ _) | exact ((ext_alloc _ _).trans (ext_alloc _ _)).drew) fs (by first | exact Ext.refl _ | exact (Ext.refl _).drew | exact ext_alloc _ _ | exact (ext_alloc _ _).drew | exact (ext_alloc _ _).trans (ext_alloc _ _) | exact ((ext_alloc _ _).trans (ext_alloc _ _)).drew) fc; have oT := oT'.mono fun r _ e => Or.symm e)); have rC' : RowTo W5 _ B 55 5 (.slice CA nc cc) (.slice (some ⟨g4, 0, none⟩) (nc + 1) cp4) c.length ((c.map Laid.cells).flatten ++ x.cells) := (by rw [Hnc.out, Hxc.out]; exact rC); have rS' : RowTo W5 _ B 106 1 (.slice SA na sc) (.slice (some ⟨g5, 0, none⟩) (na + 1) cp5) all.length (all.map uv ++ [uv m]) := (by rw [Hna.out]; exact rS); have hh2 := H5.out.deeper cl oT rC' rS'; have nGr := hh2.spot_turn; have nAT := hh2.no_turn (Hbx5.out.only oT (fun e => e.elim hCa hSa)) (Or.inl rfl) HS.out.free; refine (IH.out (c ++ [x]) (all ++ [m]) (cov ||| m) _ (nc + 1) _ _ (na + 1) _ _ _ Fp2 (by rw [List.length_append, Hnc.out]; rfl) (by rw [List.length_append, Hna.out]; rfl) (by have h1 := Hlz2.out; have h2 := Hf.out; rw [Hz.out] at h2; omega) Hp2.out hh2).mono ?_; rintro e w7 hpost; have hD := H5.out.dug oT rC' rS' hpost; obtain ⟨⟨v7, rfl⟩, Fp7, hh7, hs7, ho7⟩ := hpost))
                        all_goals (go_wp2_with fail; go_meet; exact ⟨rfl, hD⟩)
                      case rest =>
                        obtain ⟨rfl, hD⟩ := hcut
                        have HD := Lib.hid hD
                        obtain ⟨Fp7, hh7, -, -⟩ := hD
                        clear a2 c9 lcell hlk a6 a7 f7 tb hlb g5 x50 x51 x52
                        have a6 := hh7.env.lft.cell
                        rw [leftL_len] at a6
                        have a7 := hh7.env.rest.cell i
                        rw [intsA_get, leftL_get hlt, leftN_snoc, if_pos Hxp.out, Hq.out] at a7
                        simp only [Option.map_some, iv] at a7
                        have f7 := hh7.env.rest.frozen i
                        clear hh7
                        go_wp2_with fail
                        go_roundw
                        case rel =>
                          obtain ⟨Fp8, hs8, hb8, hf8⟩ := HS.out.after cl Hxp.out BT hTF.out (by rw [Hq.out, HW5.out]; exact HD.out)
                          rw [leftN_snoc, if_pos Hxp.out, Hq.out, show q - 1 + 1 = q by omega] at hs8 hb8
                          refine ⟨1 + 1, Fp8, by omega, by go_num, Lib.hid ?_, hb8, Lib.hid hf8⟩
                          rw [Hst.out]
                          unfold kidS
                          simp only [Hsome.out, Hz.out, Hx.out]
                          exact hs8
                        case measure => simp only [intOf]; omega
                    · have Hno : Hid (kidOk s l c cov i true = none) := Lib.hid (by rw [Hkid.out]; exact if_pos (Or.inr hand))
                      have e1 : (bits .and .u32 (m : Int) (cov : Int) != 0) = true := by rw [hb0]; simp; omega
                      clear hb0
                      go_wp2_with fail
                      go_roundw
                      case rel => exact ⟨1 + 1, Fp2, by omega, by go_num, by rw [Hst.out]; unfold kidS; rw [Hno.out]; exact HS, BT, hTF⟩
                      case measure => simp only [intOf]; omega
              · go_wp2_with fail
                go_roundw
                case rel => exact ⟨i + 1, Fp2, by omega, by go_num, by rw [show 2 * (i + 1) = 2 * i + 2 by omega]; exact HS⟩
                case measure => simp only [intOf]; omega
          · obtain rfl : i = l.length := by omega
            go_wp2_with fail
            go_end0
            refine ⟨⟨_, rfl⟩, Fp1, ?_, HS.out.sub, HS.out.only⟩
            rw [growS_go longF seeF s l (by rw [Hnc.out]; exact Hb.out) (by rw [Hz.out]; exact hzF)]
            exact HS.out.here
    · go_wp2_with fail
      go_end0
      refine ⟨⟨_, rfl⟩, Fp, ?_, fun r hr => Or.inl hr, Only.of_ext _ E1⟩
      have e1 : growS longF seeF s l (f + 1) st c all cov = st := by
        show (if _ then _ else _) = _
        rw [Hnc.out, Hb.out, if_pos rfl]
      rw [e1]
      exact H1.out
end Go.Proofs.YtaaeapjnjjbglaaGreatDoor
