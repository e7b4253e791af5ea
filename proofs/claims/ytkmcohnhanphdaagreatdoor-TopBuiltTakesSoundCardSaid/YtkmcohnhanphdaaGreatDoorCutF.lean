/- checkCut | within: the error of a span of a sound. -/
import Derived.Test.YtkmcohnhanphdaaGreatDoorWb
import Derived.Deep.RegionHeld3
import Derived.Deep.QuietTactic
import Derived.BigQuiet
import Derived.Deep.DrawnRows
set_option linter.unusedSimpArgs false
set_option linter.unusedVariables false
namespace Go.Proofs.YtkmcohnhanphdaaGreatDoor
open Go.RowKit Go.Dw
attribute [local go_sem ↓] Go.wp_at_zero Go.wp_at_succ

set_option maxHeartbeats 400000 in
theorem CHECKCUT_neg (r : Int) (A : Option Addr) (n c : Nat) (p q : Int) (h1 : p < 0) (w : World) :
    Calls Tryz.prog 42 #[.agg #[.int .i64 r, .slice A n c], .agg #[.int .i64 p, .int .i64 q]] w fun e w' => e = .returned (.int .i64 1) ∧ Below w.heap.size w w' := by
  go_enter Tryz.func42, Tryz.ntmps42
  go_wp2_with fail
  go_quiet (fail)
  go_wp2
  go_ret
  exact ⟨rfl, belowN (((Below.refl _ _).alloc (Nat.le_refl _) _).alloc (by simp) _) _⟩
set_option maxHeartbeats 400000 in
theorem CHECKCUT_turned (r : Int) (A : Option Addr) (n c : Nat) (p q : Int) (h1 : ¬ p < 0) (h2 : q < p) (w : World) :
    Calls Tryz.prog 42 #[.agg #[.int .i64 r, .slice A n c], .agg #[.int .i64 p, .int .i64 q]] w fun e w' => e = .returned (.int .i64 1) ∧ Below w.heap.size w w' := by
  go_enter Tryz.func42, Tryz.ntmps42
  go_wp2_with fail
  go_quiet (fail)
  go_wp2
  go_ret
  exact ⟨rfl, belowN (((Below.refl _ _).alloc (Nat.le_refl _) _).alloc (by simp) _) _⟩
set_option maxHeartbeats 400000 in
theorem CHECKCUT_far (r : Int) (A : Option Addr) (n c : Nat) (p q : Int) (xss : List (List Int)) (h1 : decide (p < 0) = false) (h2 : decide (q < p) = false) (h3 : (len0 xss : Int) < q) (hn : 0 < n) (w : World) (B : Nat) (hB : B ≤ w.heap.size) (hh : Hid (RowsAt w B A n xss)) :
    Calls Tryz.prog 42 #[.agg #[.int .i64 r, .slice A n c], .agg #[.int .i64 p, .int .i64 q]] w fun e w' => e = .returned (.int .i64 1) ∧ Below w.heap.size w w' := by
  go_enter Tryz.func42, Tryz.ntmps42
  go_wp2_with fail
  refine wp_later (w.heap.size + 2) ?_
  intro W hW hsW
  obtain ⟨hcW, hfW⟩ := bcell hW
  simp only [World.size_alloc] at hsW
  have hbW : Below w.heap.size w W := (((Below.refl _ w).alloc (Nat.le_refl _) _).alloc (by simp) _).trans (hW.mono (by omega))
  go_region_held3 (fun w' => Below (w.heap.size + 2) W w' ∧ ∀ z : Addr, z.block < w.heap.size + 2 → w'.cell? z = W.cell? z)
    ((first | exact ⟨(Below.refl _ _).drew, pcell (Below.refl _ _).drew⟩ | exact ⟨by assumption, pcell (by assumption)⟩))
    (first | (go_at_call 45; refine (LENGTH_any r A n c xss _ B (Below.ge ‹Below (w.heap.size + 2) W _ ∧ _› hsW (by omega)) (hh.out.below (Below.via hbW ‹Below (w.heap.size + 2) W _ ∧ _› (by omega)) hB) hn).mono ?_; rintro e w1 ⟨rfl, hb1⟩; have hbS := Below.next (‹Below (w.heap.size + 2) W _ ∧ _›).1 hsW hb1))
  go_wp2
  go_ret
  exact ⟨rfl, hbW.trans (hbS.mono (by omega))⟩
set_option maxHeartbeats 400000 in
theorem CHECKCUT_in (r : Int) (A : Option Addr) (n c : Nat) (p q : Int) (xss : List (List Int)) (h1 : decide (p < 0) = false) (h2 : decide (q < p) = false) (h3 : ¬ (len0 xss : Int) < q) (hn : 0 < n) (w : World) (B : Nat) (hB : B ≤ w.heap.size) (hh : Hid (RowsAt w B A n xss)) :
    Calls Tryz.prog 42 #[.agg #[.int .i64 r, .slice A n c], .agg #[.int .i64 p, .int .i64 q]] w fun e w' => e = .returned (.int .i64 0) ∧ Below w.heap.size w w' := by
  go_enter Tryz.func42, Tryz.ntmps42
  go_wp2_with fail
  refine wp_later (w.heap.size + 2) ?_
  intro W hW hsW
  obtain ⟨hcW, hfW⟩ := bcell hW
  simp only [World.size_alloc] at hsW
  have hbW : Below w.heap.size w W := (((Below.refl _ w).alloc (Nat.le_refl _) _).alloc (by simp) _).trans (hW.mono (by omega))
  go_region_held3 (fun w' => Below (w.heap.size + 2) W w' ∧ ∀ z : Addr, z.block < w.heap.size + 2 → w'.cell? z = W.cell? z)
    ((first | exact ⟨(Below.refl _ _).drew, pcell (Below.refl _ _).drew⟩ | exact ⟨by assumption, pcell (by assumption)⟩))
    (first | (go_at_call 45; refine (LENGTH_any r A n c xss _ B (Below.ge ‹Below (w.heap.size + 2) W _ ∧ _› hsW (by omega)) (hh.out.below (Below.via hbW ‹Below (w.heap.size + 2) W _ ∧ _› (by omega)) hB) hn).mono ?_; rintro e w1 ⟨rfl, hb1⟩; have hbS := Below.next (‹Below (w.heap.size + 2) W _ ∧ _›).1 hsW hb1))
  go_wp2
  go_ret
  exact ⟨rfl, hbW.trans (hbS.mono (by omega))⟩
theorem CHECKCUT_any (r : Int) (A : Option Addr) (n c : Nat) (p q : Int) (xss : List (List Int)) (hn : 0 < n) (w : World) (B : Nat) (hB : B ≤ w.heap.size) (hh : RowsAt w B A n xss) :
    Calls Tryz.prog 42 #[.agg #[.int .i64 r, .slice A n c], .agg #[.int .i64 p, .int .i64 q]] w fun e w' => e = .returned (.int .i64 (cutF p q (len0 xss))) ∧ Below w.heap.size w w' := by
  by_cases h1 : p < 0
  · exact (CHECKCUT_neg r A n c p q h1 w).mono fun e w' h => ⟨h.1.trans (ret_int (cutF_bad (.inl h1)).symm), h.2⟩
  · by_cases h2 : q < p
    · exact (CHECKCUT_turned r A n c p q h1 h2 w).mono fun e w' h => ⟨h.1.trans (ret_int (cutF_bad (.inr (.inl h2))).symm), h.2⟩
    · by_cases h3 : (len0 xss : Int) < q
      · exact (CHECKCUT_far r A n c p q xss (by simpa using h1) (by simpa using h2) h3 hn w B hB hh).mono fun e w' h => ⟨h.1.trans (ret_int (cutF_bad (.inr (.inr h3))).symm), h.2⟩
      · exact (CHECKCUT_in r A n c p q xss (by simpa using h1) (by simpa using h2) h3 hn w B hB hh).mono fun e w' h => ⟨h.1.trans (ret_int (cutF_ok h1 h2 h3).symm), h.2⟩
end Go.Proofs.YtkmcohnhanphdaaGreatDoor
