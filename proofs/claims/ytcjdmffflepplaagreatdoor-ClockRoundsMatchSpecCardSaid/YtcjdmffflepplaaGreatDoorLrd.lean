/- RoundsMatchSpec, walked. -/
import Derived.Test.YtcjdmffflepplaaGreatDoorLsb
import Derived.Test.YtcjdmffflepplaaGreatDoorRy
import Derived.Test.YtcjdmffflepplaaGreatDoorRz
import Derived.Test.YtcjdmffflepplaaGreatDoorAwk
set_option linter.unusedSimpArgs false
set_option linter.unusedVariables false
namespace Go.Proofs.YtcjdmffflepplaaGreatDoor
open Go.RowKit Go.Dw Go.Joins
set_option maxRecDepth 100000 in
set_option maxHeartbeats 4000000 in
theorem lawRd_walk (s t : ByteArray) (hs : s.size ≤ maxLen) (ht : t.size ≤ maxLen) (places way : Int) (w : World) (ht9 : Hid (TabAt w)) :
    Calls Tryz.prog 4 #[.agg #[.string s, .string t], .int .i64 places, .int .i64 way] w fun e w' => e = .returned (.bool true) ∧ Below w.heap.size w w' := by
    obtain ⟨W, gx, hW, hgx, HHW, HB, HSW⟩ := cell_new w 28 #[.string s, .string t]
    have BA : Hid (RBox W gx s t) := HHW.out
    obtain ⟨⟨D, f⟩, he1⟩ : ∃ p, decS s t places = p := ⟨_, rfl⟩
    have E1 := Lib.hid he1
    obtain ⟨⟨z, g⟩, he2⟩ : ∃ p, rndS s t way = p := ⟨_, rfl⟩
    have E2 := Lib.hid he2
    clear he1 he2 HSW
    go_enter Tryz.func4, Tryz.ntmps4
    go_upto_region 1 with (fail)
    rw [← hW, ← hgx]
    clear hW hgx HHW
    obtain ⟨BAc0, BAc1, _, _⟩ := two_cells BA.out
    go_wp2_with fail
    refine (DECIMAL_any s t places hs ht _).mono ?_
    rintro e w1 ⟨rfl, hb1⟩
    rw [E1.out]
    clear BAc0 BAc1
    replace BA := Lib.hid (BA.out.below hb1)
    replace HB := Lib.hid (HB.out.trans (hb1.mono HB.out.size))
    clear hb1
    dsimp only
    obtain ⟨BAc0, BAc1, _, _⟩ := two_cells BA.out
    go_wp2_with fail
    refine (RDECIMAL_any s t places hs ht _ (Lib.hid (ht9.out.below HB.out))).mono ?_
    rintro e w2 ⟨rfl, hb2⟩
    rw [E1.out]
    clear BAc0 BAc1
    replace BA := Lib.hid (BA.out.below hb2)
    replace HB := Lib.hid (HB.out.trans (hb2.mono HB.out.size))
    clear hb2
    dsimp only
    obtain ⟨BAc0, BAc1, _, _⟩ := two_cells BA.out
    go_wp2_with fail
    refine (ROUNDED_any s t way hs ht _).mono ?_
    rintro e w3 ⟨rfl, hb3⟩
    rw [E2.out]
    clear BAc0 BAc1
    replace BA := Lib.hid (BA.out.below hb3)
    replace HB := Lib.hid (HB.out.trans (hb3.mono HB.out.size))
    clear hb3
    dsimp only
    obtain ⟨BAc0, BAc1, _, _⟩ := two_cells BA.out
    go_wp2_with fail
    refine (RROUNDED_any s t way hs ht _ (Lib.hid (ht9.out.below HB.out))).mono ?_
    rintro e w4 ⟨rfl, hb4⟩
    rw [E2.out]
    clear BAc0 BAc1
    replace BA := Lib.hid (BA.out.below hb4)
    replace HB := Lib.hid (HB.out.trans (hb4.mono HB.out.size))
    clear hb4
    dsimp only
    go_wp2_with fail
    refine (AWAKE_any _).mono ?_
    rintro e w5 ⟨rfl, hb5⟩
    replace HB := Lib.hid (HB.out.trans (hb5.mono HB.out.size))
    clear hb5
    go_wp2_with fail
    go_ret
    exact ⟨rfl, HB.out⟩
end Go.Proofs.YtcjdmffflepplaaGreatDoor
