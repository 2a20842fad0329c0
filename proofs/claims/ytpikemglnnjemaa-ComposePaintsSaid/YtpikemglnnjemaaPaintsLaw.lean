/- The law ComposePaints, walked. -/
import Derived.Test.YtpikemglnnjemaaRPaint
import Derived.Test.YtpikemglnnjemaaShape
namespace Go.Proofs.Ytpikemglnnjemaa
open Go.RowKit

set_option maxHeartbeats 1600000 in
theorem paints_walk (A B : Option Addr) (ca cb : Nat) (px pal : List Hue) (wd : Int) (w : World) (hx : Hues w A ca px) (hp : Hues w B cb pal) (hwd : -9223372036854775808 ≤ wd ∧ wd ≤ 9223372036854775807) :
    Calls Try.prog 3 #[.slice A px.length ca, .slice B pal.length cb, .int .i64 wd] w fun e w' => e = .returned (.bool true) ∧ Ext w w' := by
  by_cases h1 : 100 < px.length
  · go_enter Try.func3, Try.ntmps3
    go_wp2_with fail
    go_ret
    exact ⟨rfl, Ext.refl _⟩
  by_cases h2 : 30 < pal.length
  · go_enter Try.func3, Try.ntmps3
    go_wp2_with fail
    go_ret
    exact ⟨rfl, Ext.refl _⟩
  by_cases ok : paintOk px.length pal.length wd
  · have hs := fun (w' : World) (E : Ext w w') => rpaint_ok A B ca cb px pal wd w' (hx.ext E) (hp.ext E) ok
    go_enter Try.func3, Try.ntmps3
    go_wp2_with fail
    have hn : 0 < px.length := by have := ok.2.2.1; omega
    refine (paint_ok A B ca cb px pal wd w hx hp ok).mono ?_
    rintro e w1 ⟨v, rfl, own1, E1⟩
    obtain ⟨g1, cp1, rfl⟩ := own_form own1 hn
    go_wp2_with fail
    refine (hs _ (E1.alloc _)).mono ?_
    rintro e w2 ⟨v, rfl, own2, E2⟩
    obtain ⟨g2, cp2, rfl⟩ := own_form own2 hn
    have B1 := (Blk.new w1 #[.int .i64 wd, .int .i64 ((px.length : Int) / wd), .int .i64 1, .slice (some ⟨g1, 0, none⟩) px.length cp1] 25).ext E2
    have c1 := B1.cell
    have hlt := B1.lt
    have E12 := ((Ext.refl w1).alloc (.cells #[.int .i64 wd, .int .i64 ((px.length : Int) / wd), .int .i64 1, .slice (some ⟨g1, 0, none⟩) px.length cp1] 25)).trans E2
    go_wp2_with fail
    have hpal : ∃ xs : List Int, px.map (pcell pal) = xs.map (Value.int .u8) := ⟨px.map fun p => (bestTo p pal pal.length : Int) + 1, by simp [pcell, Function.comp_def]⟩
    obtain ⟨xs, hxs⟩ := hpal
    rw [hxs] at own1 own2
    refine (same_c _ _ _ _ _ _ _ _ _ _ xs _ (own_ext own1 (E12.alloc _)) (own_ext own2 ((Ext.refl w2).alloc _))).mono ?_
    rintro e w3 ⟨rfl, E3⟩
    go_wp2_with fail
    go_ret
    exact ⟨rfl, ((E1.trans E12).alloc _).trans E3⟩
  · have hs := fun (w' : World) => rpaint_bad A B ca cb px.length pal.length wd w' (by omega) (by omega) hwd ok
    go_enter Try.func3, Try.ntmps3
    go_wp2_with fail
    refine (paint_bad A B ca cb px.length pal.length wd w (by omega) (by omega) hwd ok).mono ?_
    rintro e w1 ⟨rfl, E1⟩
    go_wp2_with fail
    refine (hs _).mono ?_
    rintro e w2 ⟨rfl, E2⟩
    have B1 := (Blk.new w1 #[.int .i64 0, .int .i64 0, .int .i64 0, .slice none 0 0] 25).ext E2
    have c1 := B1.cell
    have hlt := B1.lt
    have E12 := ((Ext.refl w1).alloc (.cells #[.int .i64 0, .int .i64 0, .int .i64 0, .slice none 0 0] 25)).trans E2
    go_wp2_with fail
    refine (same_c 0 0 0 none none 0 0 0 0 0 [] _ (World.ownsRow_nil _ _ _ _) (World.ownsRow_nil _ _ _ _)).mono ?_
    rintro e w3 ⟨rfl, E3⟩
    go_wp2_with fail
    go_ret
    exact ⟨rfl, ((E1.trans E12).alloc _).trans E3⟩
end Go.Proofs.Ytpikemglnnjemaa
