/- The law QuantisesOnce, walked. -/
import Derived.Test.YtpnbkkpbgpcgiaaQuant2
import Derived.Test.YtpnbkkpbgpcgiaaSpecD
import Derived.Test.YtpnbkkpbgpcgiaaSame
import Derived.Test.YtpnbkkpbgpcgiaaPeak
set_option linter.unusedSimpArgs false
set_option linter.unusedVariables false
namespace Go.Proofs.Ytpnbkkpbgpcgiaa
open Go.RowKit Go.Dw

set_option maxHeartbeats 800000 in
theorem once_err (r : Int) (A : Option Addr) (n c : Nat) (b m : Int) (xss : List (List Int)) (w : World) (hh : Hid (RowsAt w w.heap.size A n xss)) (hc : chkS r xss ≠ 0 ∨ b < 1 ∨ 24 < b) :
    Calls Try.prog 7 #[.agg #[.int .i64 r, .slice A n c], .int .i64 b, .int .i64 m] w fun e w' => e = .returned (.bool true) ∧ Below w.heap.size w w' := by
  obtain ⟨F, hF, hZ⟩ := quS_no (inc := wInc) hc
  have HZ := Lib.hid hZ
  have d3 : (F != 0) = true := by simpa using hF
  clear hZ hc
  go_enter Try.func7, Try.ntmps7
  go_wp2_with fail
  refine calls_later (w.heap.size + 1) ?_
  intro W hW hsW
  obtain ⟨hcW, hfW⟩ := bcell hW
  simp only [World.size_alloc] at hsW
  have hbW : Below w.heap.size w W := ((Below.refl _ w).alloc (Nat.le_refl _) _).trans (hW.mono (by omega))
  refine (QUANT_any r A n c b xss _ w.heap.size (by omega) (hh.out.below hbW (Nat.le_refl _))).mono ?_
  rw [HZ.out]
  rintro e w1 ⟨v1, rfl, ho1, hb1⟩
  obtain ⟨A1, c1, rfl, _, _⟩ := ho1.form
  have hbw1 := hbW.trans (hb1.mono (show w.heap.size ≤ W.heap.size by omega))
  have hlt0 : w.heap.size < w1.heap.size := by have := hb1.size; omega
  have hl0 : ([] : List (List Int)).length = 0 := rfl
  go_wp2_with fail
  refine (AWAKE_any _).mono ?_
  rintro e w4 ⟨rfl, hb4⟩
  go_wp2_with fail
  go_ret
  exact ⟨rfl, (hbw1.trans ((Below.refl _ _).alloc (by omega) _)).trans (hb4.mono (by simp; omega))⟩

set_option maxHeartbeats 1600000 in
theorem once_ok (r : Int) (A : Option Addr) (n c : Nat) (b m : Int) (xss : List (List Int)) (w : World) (hh : Hid (RowsAt w w.heap.size A n xss)) (hok : Hid (OkS r xss)) (h1 : 1 ≤ b) (h2 : b ≤ 24) :
    Calls Try.prog 7 #[.agg #[.int .i64 r, .slice A n c], .int .i64 b, .int .i64 m] w fun e w' => e = .returned (.bool true) ∧ Below w.heap.size w w' := by
  obtain ⟨yss, hy⟩ : ∃ yss, xss.map (List.map (qV (qStep b))) = yss := ⟨_, rfl⟩
  have hZ1 := quS_ok (inc := wInc) hok.out h1 h2
  have hZ2 := fun M (a : b ≤ M) (c : M ≤ 24) => quS_once (inc := wInc) hok.out h1 a c
  rw [hy] at hZ1
  simp only [hy] at hZ2
  obtain ⟨cnt, hcnt⟩ : ∃ cnt, stS (qC wInc (qStep b)) 0 xss = cnt := ⟨_, rfl⟩
  rw [hcnt] at hZ1
  have HZ1 := Lib.hid hZ1
  have HZ2 := Lib.hid hZ2
  clear hZ1 hZ2 hy hcnt
  go_enter Try.func7, Try.ntmps7
  go_wp2_with fail
  refine calls_later (w.heap.size + 1) ?_
  intro W hW hsW
  obtain ⟨hcW, hfW⟩ := bcell hW
  simp only [World.size_alloc] at hsW
  have hbW : Below w.heap.size w W := ((Below.refl _ w).alloc (Nat.le_refl _) _).trans (hW.mono (by omega))
  refine (QUANT_any r A n c b xss _ w.heap.size (by omega) (hh.out.below hbW (Nat.le_refl _))).mono ?_
  rw [HZ1.out]
  rintro e w1 ⟨v1, rfl, ho1, hb1⟩
  obtain ⟨A1, c1, rfl, _, _⟩ := ho1.form
  have hbw1 := hbW.trans (hb1.mono (show w.heap.size ≤ W.heap.size by omega))
  have hlt0 : w.heap.size < w1.heap.size := by have := hb1.size; omega
  dsimp only at ho1
  have hx1 := ho1.rows
  have HX1 := Lib.hid hx1
  clear hx1
  go_wp2_with fail
  all_goals
    refine (QUANT_any r A1 yss.length c1 _ yss _ w1.heap.size (by simp) (HX1.out.below ((Below.refl _ _).alloc (Nat.le_refl _) _) (Nat.le_refl _))).mono ?_
    rw [HZ2.out _ (by first | omega | (have hx := ‹b < if m < 24 then m else 24›; rw [if_pos ‹m < 24›] at hx; omega)) (by omega)]
    rintro e w2 ⟨v2, rfl, ho2, hb2⟩
    obtain ⟨A2, c2, rfl, _, _⟩ := ho2.form
    have hs2 := hb2.size
    simp only [World.size_alloc] at hs2
    have hz2 := pcell hb2
    have hlt2 : w1.heap.size < w2.heap.size := by omega
    have hst : sameS r yss r yss = true := by simp [sameS]
    have hx1 := (HX1.out.below ((Below.refl _ w1).alloc (Nat.le_refl _) (.cells #[.int .i64 r, .slice A1 yss.length c1] 24)) (Nat.le_refl _)).below hb2 (by simp)
    have HX := Lib.hid (hx1.mono (show w1.heap.size ≤ w2.heap.size by omega))
    dsimp only at ho2
    have HY := Lib.hid ho2.rows
    clear hx1
    go_wp2_with fail
    refine (SAME_any _ _ _ _ _ _ _ _ yss yss _ w2.heap.size (by simp) (HX.out.below ((Below.refl _ _).alloc (Nat.le_refl _) _) (Nat.le_refl _)) (HY.out.below ((Below.refl _ _).alloc (Nat.le_refl _) _) (Nat.le_refl _))).mono ?_
    rintro e w3 ⟨rfl, hb3⟩
    rw [hst]
    go_wp2_with fail
    refine (AWAKE_any _).mono ?_
    rintro e w4 ⟨rfl, hb4⟩
    go_wp2_with fail
    go_ret
    have hs3 := hb3.size
    simp only [World.size_alloc] at hs3
    have hb12 : Below w.heap.size w1 w2 := ((Below.refl _ _).alloc (by omega) _).trans (hb2.mono (by simp; omega))
    have hb23 : Below w.heap.size w2 w3 := ((Below.refl _ _).alloc (by omega) _).trans (hb3.mono (by simp; omega))
    exact ⟨rfl, (hbw1.trans hb12).trans (hb23.trans (hb4.mono (by omega)))⟩
theorem lawOnce_walk (r : Int) (A : Option Addr) (n c : Nat) (b m : Int) (xss : List (List Int)) (w : World) (hh : Hid (RowsAt w w.heap.size A n xss)) :
    Calls Try.prog 7 #[.agg #[.int .i64 r, .slice A n c], .int .i64 b, .int .i64 m] w fun e w' => e = .returned (.bool true) ∧ Below w.heap.size w w' := by
  by_cases h : chkS r xss ≠ 0 ∨ b < 1 ∨ 24 < b
  · exact once_err r A n c b m xss w hh h
  · exact once_ok r A n c b m xss w hh (chkS_ok (by omega)) (by omega) (by omega)
end Go.Proofs.Ytpnbkkpbgpcgiaa
