/- RatioOfMatchesSpec, walked. -/
import Derived.Test.YtcjdmffflepplaaDoorLsu
import Derived.Test.YtcjdmffflepplaaDoorLrp
import Derived.Test.YtcjdmffflepplaaDoorRk
import Derived.Test.YtcjdmffflepplaaDoorCro
set_option linter.unusedSimpArgs false
set_option linter.unusedVariables false
namespace Go.Proofs.YtcjdmffflepplaaDoor
open Go.RowKit Go.Dw
set_option maxRecDepth 100000 in
set_option maxHeartbeats 4000000 in
theorem lawRo_walk (a b : Int) (h1 : -9223372036854775808 ≤ a) (h2 : a ≤ 9223372036854775807) (h3 : -9223372036854775808 ≤ b) (h4 : b ≤ 9223372036854775807) (w : World) (ht : Hid (TabAt w)) :
    Calls Tryd.prog 6 #[.int .i64 a, .int .i64 b] w fun e w' => e = .returned (.bool true) ∧ Below w.heap.size w w' := by
    have HB : Hid (Below w.heap.size w w) := Below.refl _ _
    obtain ⟨⟨S, T, f⟩, hp⟩ : ∃ p, ratioS a b = p := ⟨_, rfl⟩
    have hq : (if b = 0 then (noB, noB, 13) else (txN ((a : Rat) / b), txD ((a : Rat) / b), 0)) = (S, T, f) := by
      rw [← hp]
      by_cases hb : b = 0
      · unfold ratioS; rw [if_pos hb, if_pos hb]
      · rw [if_neg hb, ratioS_frac hb, resP_few (frac_few a b h1 h2 h3 h4 hb)]
    have E1 := Lib.hid hp
    have E2 := Lib.hid hq
    clear hp hq
    go_enter Tryd.func6, Tryd.ntmps6
    go_wp2_with fail
    refine (RATIOOF_any a b h1 h2 h3 h4 _).mono ?_
    rintro e w1 ⟨rfl, hb1⟩
    rw [E1.out]
    unfold tup3
    dsimp only
    replace HB := Lib.hid (HB.out.trans (hb1.mono HB.out.size))
    clear hb1
    go_upto_region 2 with (fail)
    obtain ⟨X1, g1, hX, hg, B1, HBX, _⟩ := cell_new w1 28 #[.string S, .string T]
    rw [← hX, ← hg]
    replace HB := Lib.hid (HB.out.trans (HBX.out.mono HB.out.size))
    replace B1 : Hid (RBox X1 g1 S T) := B1
    clear hX hg HBX
    go_wp2_with fail
    refine (RRATIOOF_any a b h1 h2 h3 h4 _ (Lib.hid (ht.out.below HB.out))).mono ?_
    rintro e w2 ⟨rfl, hb2⟩
    rw [E2.out]
    unfold tup3
    dsimp only
    replace B1 := Lib.hid (B1.out.below hb2)
    replace HB := Lib.hid (HB.out.trans (hb2.mono HB.out.size))
    clear hb2
    go_upto_region 3 with (fail)
    obtain ⟨X2, g2, hX, hg, B2, HBX, _⟩ := cell_new w2 28 #[.string S, .string T]
    rw [← hX, ← hg]
    replace B1 := Lib.hid (B1.out.below (HBX.out.mono (Nat.le_refl _)))
    replace HB := Lib.hid (HB.out.trans (HBX.out.mono HB.out.size))
    replace B2 : Hid (RBox X2 g2 S T) := B2
    clear hX hg HBX
    obtain ⟨B1c0, B1c1, _, _⟩ := two_cells B1.out
    obtain ⟨B2c0, B2c1, _, _⟩ := two_cells B2.out
    go_wp2_with fail
    refine (AWAKE_any _).mono ?_
    rintro e w3 ⟨rfl, hb3⟩
    replace HB := Lib.hid (HB.out.trans (hb3.mono HB.out.size))
    clear hb3
    go_wp2_with fail
    go_ret
    exact ⟨rfl, HB.out⟩
end Go.Proofs.YtcjdmffflepplaaDoor
