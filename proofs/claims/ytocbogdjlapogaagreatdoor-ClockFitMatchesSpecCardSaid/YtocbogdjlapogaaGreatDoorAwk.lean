/- awake: Show at one place. -/
import Derived.Test.YtocbogdjlapogaaGreatDoorRegion2
import Derived.Test.YtocbogdjlapogaaGreatDoorShelf
import Derived.Laws.BytesArg
import Derived.Deep.RegionHeld3
set_option linter.unusedSimpArgs false
set_option linter.unusedVariables false
namespace Go.Proofs.YtocbogdjlapogaaGreatDoor
open Go.RowKit Go.Dw
set_option maxRecDepth 100000 in
set_option maxHeartbeats 1000000 in
theorem TWO_0 (w : World) : Calls Tryz.prog 48 #[.int .i64 0] w fun e w' => e = .returned (.string ⟨#[48, 48]⟩) ∧ Below w.heap.size w w' := by
  have hcv := run_convert_bytes_arg (P := Tryz.prog) (w := w.alloc (.cells #[.int .u8 48, .int .u8 48] 5)) 94 5 Tryz.underlying94 Tryz.underlying5 w.heap.size 0 2 2 [48, 48] rfl (fun i hi => by
    rcases i with _ | _ | i
    · simp [go_sem]
    · simp [go_sem]
    · omega) 9 Tryz.underlying9
  rw [show strOfNums [48, 48] = (⟨#[48, 48]⟩ : ByteArray) from rfl] at hcv
  go_enter Tryz.func48, Tryz.ntmps48
  go_wp2_with fail
  go_ret
  exact ⟨rfl, (Below.refl _ w).alloc (Nat.le_refl _) _⟩
set_option maxRecDepth 100000 in
set_option maxHeartbeats 1000000 in
theorem TWO_4 (w : World) : Calls Tryz.prog 48 #[.int .i64 4] w fun e w' => e = .returned (.string ⟨#[48, 52]⟩) ∧ Below w.heap.size w w' := by
  have hcv := run_convert_bytes_arg (P := Tryz.prog) (w := w.alloc (.cells #[.int .u8 48, .int .u8 52] 5)) 94 5 Tryz.underlying94 Tryz.underlying5 w.heap.size 0 2 2 [48, 52] rfl (fun i hi => by
    rcases i with _ | _ | i
    · simp [go_sem]
    · simp [go_sem]
    · omega) 9 Tryz.underlying9
  rw [show strOfNums [48, 52] = (⟨#[48, 52]⟩ : ByteArray) from rfl] at hcv
  go_enter Tryz.func48, Tryz.ntmps48
  go_wp2_with fail
  go_ret
  exact ⟨rfl, (Below.refl _ w).alloc (Nat.le_refl _) _⟩
theorem ITOA_0 (w : World) : Calls Tryz.prog 47 #[.int .i64 0] w fun e w' => e = .returned (.string ⟨#[48]⟩) ∧ w = w' :=
  (Tryz.strconv_Itoa_small 0 (by omega) w).mono fun e w' ⟨h1, h2⟩ => ⟨by rw [h1]; unfold Lib.decDigits; rfl, h2.symm⟩
theorem ITOA_1 (w : World) : Calls Tryz.prog 47 #[.int .i64 1] w fun e w' => e = .returned (.string ⟨#[49]⟩) ∧ w = w' :=
  (Tryz.strconv_Itoa_small 1 (by omega) w).mono fun e w' ⟨h1, h2⟩ => ⟨by rw [h1]; unfold Lib.decDigits; rfl, h2.symm⟩
theorem ITOA_eq0 (x : Int) (hx : x = 0) (w : World) : Calls Tryz.prog 47 #[.int .i64 x] w fun e w' => e = .returned (.string ⟨#[48]⟩) ∧ w = w' := by subst hx; exact ITOA_0 w
theorem ITOA_eq1 (x : Int) (hx : x = 1) (w : World) : Calls Tryz.prog 47 #[.int .i64 x] w fun e w' => e = .returned (.string ⟨#[49]⟩) ∧ w = w' := by subst hx; exact ITOA_1 w
theorem TWO_eq0 (x : Int) (hx : x = 0) (w : World) : Calls Tryz.prog 48 #[.int .i64 x] w fun e w' => e = .returned (.string ⟨#[48, 48]⟩) ∧ Below w.heap.size w w' := by subst hx; exact TWO_0 w
theorem TWO_eq4 (x : Int) (hx : x = 4) (w : World) : Calls Tryz.prog 48 #[.int .i64 x] w fun e w' => e = .returned (.string ⟨#[48, 52]⟩) ∧ Below w.heap.size w w' := by subst hx; exact TWO_4 w
theorem ISPOS_awake (w : World) : Calls Tryz.prog 26 #[.int .i64 176401] w fun e w' => e = .returned (.bool true) ∧ w = w' := by
  go_enter Tryz.func26, Tryz.ntmps26
  go_wp2_with fail
  go_ret
  exact ⟨rfl, rfl⟩
theorem ISRATE_awake (w : World) : Calls Tryz.prog 46 #[.int .i64 44100] w fun e w' => e = .returned (.bool true) ∧ w = w' := by
  go_enter Tryz.func46, Tryz.ntmps46
  go_wp2_with fail
  go_ret
  exact ⟨rfl, rfl⟩
set_option maxRecDepth 100000 in
set_option maxHeartbeats 4000000 in
theorem SHOW_awake (w : World) : Calls Tryz.prog 25 #[.int .i64 176401, .int .i64 44100] w fun e w' => e = .returned (.tuple #[.string ⟨#[48, 58, 48, 48, 58, 48, 52, 43, 49]⟩, .int .i64 0]) ∧ Below w.heap.size w w' := by
  go_enter Tryz.func25, Tryz.ntmps25
  go_upto_region 7 with (first
    | (go_at_call 26; refine (ISPOS_awake _).mono ?_; rintro e w1 ⟨rfl, rfl⟩)
    | (go_at_call 46; refine (ISRATE_awake _).mono ?_; rintro e w1 ⟨rfl, rfl⟩))
  go_region_held3 (fun w' => Below w.heap.size w w' ∧ True)
    (exact ⟨(by first | assumption | exact Below.refl _ _ | exact (Below.refl _ _).drew), trivial⟩)
    (first
      | (go_at_call 47; (with_reducible refine (ITOA_eq0 _ ?_ _).mono ?_); (exact (by decide)); rintro e w1 ⟨rfl, rfl⟩)
      | (go_at_call 47; (with_reducible refine (ITOA_eq1 _ ?_ _).mono ?_); (exact (by decide)); rintro e w1 ⟨rfl, rfl⟩)
      | (go_at_call 48; (with_reducible refine (TWO_eq0 _ ?_ _).mono ?_); (exact (by decide)); rintro e w1 ⟨rfl, hb1⟩; have hbS := (‹Below w.heap.size w _ ∧ True›).1.trans (hb1.mono (‹Below w.heap.size w _ ∧ True›).1.size))
      | (go_at_call 48; (with_reducible refine (TWO_eq4 _ ?_ _).mono ?_); (exact (by decide)); rintro e w1 ⟨rfl, hb1⟩; have hbS := (‹Below w.heap.size w _ ∧ True›).1.trans (hb1.mono (‹Below w.heap.size w _ ∧ True›).1.size)))
  all_goals
    have hbF := (‹Below w.heap.size w _ ∧ True›).1
    go_wp2_with fail
    go_ret2
    exact ⟨rfl, hbF⟩
set_option maxHeartbeats 1000000 in
theorem AWAKE_any (w : World) : Calls Tryz.prog 6 #[] w fun e w' => e = .returned (.bool true) ∧ Below w.heap.size w w' := by
  go_enter Tryz.func6, Tryz.ntmps6
  go_wp2_with (go_at_call 25; refine (SHOW_awake _).mono ?_; rintro e w1 ⟨rfl, hb1⟩; have HB1 := Lib.hid hb1; clear hb1)
  go_ret
  exact ⟨rfl, HB1.out⟩
end Go.Proofs.YtocbogdjlapogaaGreatDoor
