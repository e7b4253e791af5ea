/- The law FadesMatchSpec, walked. -/
import Derived.Test.YtpnbkkpbgpcgiaaFade3
import Derived.Test.YtpnbkkpbgpcgiaaSame
import Derived.Test.YtpnbkkpbgpcgiaaPeak
set_option linter.unusedSimpArgs false
set_option linter.unusedVariables false
namespace Go.Proofs.Ytpnbkkpbgpcgiaa
open Go.RowKit Go.Dw

set_option maxHeartbeats 800000 in
theorem lawFade_walk (r : Int) (A : Option Addr) (n c : Nat) (p q sh : Int) (up : Bool) (xss : List (List Int)) (w : World) (hh : Hid (RowsAt w w.heap.size A n xss)) :
    Calls Try.prog 11 #[.agg #[.int .i64 r, .slice A n c], .agg #[.int .i64 p, .int .i64 q], .int .i64 sh, .bool up] w fun e w' => e = .returned (.bool true) ∧ Below w.heap.size w w' := by
  go_enter Try.func11, Try.ntmps11
  go_wp2_with fail
  refine calls_later (w.heap.size + 2) ?_
  intro W hW hsW
  obtain ⟨hcW, hfW⟩ := bcell hW
  simp only [World.size_alloc] at hsW
  have hbW : Below w.heap.size w W := (((Below.refl _ w).alloc (Nat.le_refl _) _).alloc (by simp) _).trans (hW.mono (by omega))
  refine (FADE_any r A n c p q sh up xss _ w.heap.size (by omega) (hh.out.below hbW (Nat.le_refl _))).mono ?_
  obtain ⟨Z, hZ⟩ : ∃ Z, fdS r xss p q sh up = Z := ⟨_, rfl⟩
  obtain ⟨z0, z1, z2⟩ := Z
  rw [hZ]
  have HZ := Lib.hid hZ
  clear hZ
  rintro e w1 ⟨v1, rfl, ho1, hb1⟩
  obtain ⟨A1, c1, rfl, _, _⟩ := ho1.form
  have hz1 := pcell (hb1.mono hsW)
  have hs1 := hb1.size
  have hbw1 := hbW.trans (hb1.mono (show w.heap.size ≤ W.heap.size by omega))
  have hlt0 : w.heap.size < w1.heap.size := by omega
  have hlt1 : w.heap.size + 1 < w1.heap.size := by omega
  dsimp only at ho1
  go_wp2_with fail
  refine (RFADE_any r A n c p q sh up xss _ w.heap.size (by simp; omega) ((hh.out.below hbw1 (Nat.le_refl _)).below ((Below.refl _ _).alloc (by omega) _) (Nat.le_refl _))).mono ?_
  rw [HZ.out]
  rintro e w2 ⟨v2, rfl, ho2, hb2⟩
  obtain ⟨A2, c2, rfl, _, _⟩ := ho2.form
  have hs2 := hb2.size
  simp only [World.size_alloc] at hs2
  have hz2 := pcell hb2
  have hlt2 : w1.heap.size < w2.heap.size := by omega
  have hst : sameS z0 z1 z0 z1 = true := by simp [sameS]
  have hx1 := (ho1.rows.below ((Below.refl _ w1).alloc (Nat.le_refl _) (.cells #[.int .i64 z0, .slice A1 z1.length c1] 24)) (Nat.le_refl _)).below hb2 (by simp)
  have HX := Lib.hid (hx1.mono (show w1.heap.size ≤ w2.heap.size by omega))
  dsimp only at ho2
  have HY := Lib.hid ho2.rows
  clear hx1
  go_wp2_with fail
  refine (SAME_any _ _ _ _ _ _ _ _ z1 z1 _ w2.heap.size (by simp) (HX.out.below ((Below.refl _ _).alloc (Nat.le_refl _) _) (Nat.le_refl _)) (HY.out.below ((Below.refl _ _).alloc (Nat.le_refl _) _) (Nat.le_refl _))).mono ?_
  rintro e w3 ⟨rfl, hb3⟩
  rw [hst]
  go_wp2_with fail
  refine (AWAKE_any _).mono ?_
  rintro e w4 ⟨rfl, hb4⟩
  go_wp2_with fail
  go_ret
  have hs3 := hb3.size
  simp only [World.size_alloc] at hs3
  have hb12 : Below w.heap.size w1 w2 := ((Below.refl _ _).alloc (by omega) _).trans (hb2.mono (by simp; omega))
  have hb23 : Below w.heap.size w2 w3 := ((Below.refl _ _).alloc (by omega) _).trans (hb3.mono (by simp; omega))
  exact ⟨rfl, (hbw1.trans hb12).trans (hb23.trans (hb4.mono (by omega)))⟩
end Go.Proofs.Ytpnbkkpbgpcgiaa
