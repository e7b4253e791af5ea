/- Silence on both sides. -/
import Derived.Test.YtkmcohnhanphdaaGreatDoorWc
import Derived.Test.YtkmcohnhanphdaaGreatDoorWb
set_option linter.unusedSimpArgs false
set_option linter.unusedVariables false
namespace Go.Proofs.YtkmcohnhanphdaaGreatDoor
open Go.RowKit Go.Dw

set_option maxHeartbeats 400000 in
theorem SILENCE_rate (r T n : Int) (hr : Hid (rateB r = false)) (w : World) : Calls Tryz.prog 12 #[.int .i64 r, .int .i64 T, .int .i64 n] w (OutS w 0 [] 1) := by
  go_enter Tryz.func12, Tryz.ntmps12
  go_wp2_with (go_at_call 39; refine (ISRATE_eq _ _ hr _).mono ?_; rintro e w' ⟨rfl, rfl⟩)
  exact bodyPost_ret (v := .tuple #[.agg #[.int .i64 0, .slice none 0 0], .int .i64 1]) (by simp [results, Tryz.results12, go_sem]) rfl (OutS.err rfl ((Below.refl _ _).alloc (Nat.le_refl _) _))
set_option maxHeartbeats 1000000 in
theorem SILENCE_bad (r T n : Int) (hr : Hid (rateB r = true)) (hb : T < 1 ∨ 16 < T ∨ n < 0 ∨ 100000 < n) (w : World) : Calls Tryz.prog 12 #[.int .i64 r, .int .i64 T, .int .i64 n] w (OutS w 0 [] 1) := by
  by_cases h1 : T < 1
  · have d1 : decide (T < 1) = true := by simpa using h1
    clear hb
    go_enter Tryz.func12, Tryz.ntmps12
    go_wp2_with (go_at_call 39; refine (ISRATE_eq _ _ hr _).mono ?_; rintro e w' ⟨rfl, rfl⟩)
    exact bodyPost_ret (v := .tuple #[.agg #[.int .i64 0, .slice none 0 0], .int .i64 1]) (by simp [results, Tryz.results12, go_sem]) rfl (OutS.err rfl ((Below.refl _ _).alloc (Nat.le_refl _) _))
  · have d1 : decide (T < 1) = false := by simpa using h1
    by_cases h2 : 16 < T
    · have d2 : decide (16 < T) = true := by simpa using h2
      clear hb
      go_enter Tryz.func12, Tryz.ntmps12
      go_wp2_with (go_at_call 39; refine (ISRATE_eq _ _ hr _).mono ?_; rintro e w' ⟨rfl, rfl⟩)
      exact bodyPost_ret (v := .tuple #[.agg #[.int .i64 0, .slice none 0 0], .int .i64 1]) (by simp [results, Tryz.results12, go_sem]) rfl (OutS.err rfl ((Below.refl _ _).alloc (Nat.le_refl _) _))
    · have d2 : decide (16 < T) = false := by simpa using h2
      by_cases h3 : n < 0
      · have d3 : decide (n < 0) = true := by simpa using h3
        clear hb
        go_enter Tryz.func12, Tryz.ntmps12
        go_wp2_with (go_at_call 39; refine (ISRATE_eq _ _ hr _).mono ?_; rintro e w' ⟨rfl, rfl⟩)
        exact bodyPost_ret (v := .tuple #[.agg #[.int .i64 0, .slice none 0 0], .int .i64 1]) (by simp [results, Tryz.results12, go_sem]) rfl (OutS.err rfl ((Below.refl _ _).alloc (Nat.le_refl _) _))
      · have d3 : decide (n < 0) = false := by simpa using h3
        have d4 : decide (100000 < n) = true := by simp; omega
        clear hb
        go_enter Tryz.func12, Tryz.ntmps12
        go_wp2_with (go_at_call 39; refine (ISRATE_eq _ _ hr _).mono ?_; rintro e w' ⟨rfl, rfl⟩)
        exact bodyPost_ret (v := .tuple #[.agg #[.int .i64 0, .slice none 0 0], .int .i64 1]) (by simp [results, Tryz.results12, go_sem]) rfl (OutS.err rfl ((Below.refl _ _).alloc (Nat.le_refl _) _))
set_option maxHeartbeats 1000000 in
theorem SILENCE_ok (r : Int) (T n : Nat) (hr : Hid (rateB r = true)) (h1 : 1 ≤ T) (h2 : T ≤ 16) (h3 : n ≤ 100000) (w : World) : Calls Tryz.prog 12 #[.int .i64 r, .int .i64 T, .int .i64 n] w (OutS w r (zeroS T n) 0) := by
  have d1 : decide ((T : Int) < 1) = false := by simp; omega
  have d2 : decide (16 < (T : Int)) = false := by simp; omega
  have d3 : decide ((n : Int) < 0) = false := by simp
  have d4 : decide (100000 < (n : Int)) = false := by simp; omega
  go_enter Tryz.func12, Tryz.ntmps12
  go_wp2_with fail
  refine calls_later (w.heap.size + 1) ?_
  intro W hW hsW
  obtain ⟨hcW, hfW⟩ := bcell hW
  simp only [World.size_alloc] at hsW
  have hbW : Below w.heap.size w W := ((Below.refl _ w).alloc (Nat.le_refl _) _).trans (hW.mono (by omega))
  go_wp2_with (go_at_call 39; refine (ISRATE_eq _ _ hr _).mono ?_; rintro e w' ⟨rfl, rfl⟩)
  refine (BLANK_any r T n (by omega) (by omega) _).mono ?_
  rintro e w1 ⟨v, rfl, ho, hb1⟩
  obtain ⟨A, c, rfl, _, _⟩ := ho.form
  have hz1 := pcell (hb1.mono hsW)
  have hy1 := fun b o => (bcell (hb1.mono hsW)).2 b o
  go_wp2_with fail
  refine end_snd2 (o0 := .int .i64 0) (o1 := .slice none 0 0) rfl rfl rfl ?_ ?_ ?_
  · rw [hz1 _ (by simp), hcW _ _ (by simp)]; simp [go_sem]
  · rw [hz1 _ (by simp), hcW _ _ (by simp)]; simp [go_sem]
  · obtain ⟨rows, hL⟩ := ho
    exact ⟨_, rfl, ⟨rows, ((hL.set_below (p := ⟨w.heap.size, 0, none⟩) (by simp; omega) _).set_below (p := ⟨w.heap.size, 1, none⟩) (by simp; omega) _).base (by omega)⟩, set2_below (hbW.trans (hb1.mono (by omega))) (Nat.le_refl _)⟩
theorem SILENCE_any (r T n : Int) (w : World) : Calls Tryz.prog 12 #[.int .i64 r, .int .i64 T, .int .i64 n] w (OutS w (silS r T n).1 (silS r T n).2.1 (silS r T n).2.2) := by
  unfold silS
  cases hr : rateB r with
  | false => rw [if_neg (by simp [silB, hr])]; exact SILENCE_rate r T n hr w
  | true =>
    by_cases hb : T < 1 ∨ 16 < T ∨ n < 0 ∨ 100000 < n
    · rw [if_neg (by simp [silB, hr]; omega)]; exact SILENCE_bad r T n hr hb w
    · rw [if_pos (by simp [silB, hr]; omega)]
      obtain ⟨Tn, rfl⟩ := Int.eq_ofNat_of_zero_le (show 0 ≤ T by omega)
      obtain ⟨nn, rfl⟩ := Int.eq_ofNat_of_zero_le (show 0 ≤ n by omega)
      exact SILENCE_ok r Tn nn hr (by omega) (by omega) (by omega) w
end Go.Proofs.YtkmcohnhanphdaaGreatDoor
