/- checkBoth | both, alike: the error of two sounds that go together. -/
import Derived.Test.YtkmcohnhanphdaaGreatDoorWb
import Derived.Test.YtkmcohnhanphdaaGreatDoorWa
set_option linter.unusedSimpArgs false
set_option linter.unusedVariables false
namespace Go.Proofs.YtkmcohnhanphdaaGreatDoor
open Go.RowKit Go.Dw

def both1 (r r' : Int) (xss yss : List (List Int)) : Int := if chkS r xss ≠ 0 then chkS r xss else chkS r' yss
def alikeB (r r' : Int) (n m : Nat) : Int := if r ≠ r' ∨ n ≠ m then 6 else 0
def both2 (r r' : Int) (xss yss : List (List Int)) : Int := if both1 r r' xss yss ≠ 0 then both1 r r' xss yss else alikeB r r' xss.length yss.length

set_option maxHeartbeats 800000 in
theorem CHECKBOTH_one (r r' : Int) (A A' : Option Addr) (n n' c c' : Nat) (xss yss : List (List Int)) (hc : chkS r xss ≠ 0) (w : World) (B : Nat) (hB : B ≤ w.heap.size) (hh : Hid (RowsAt w B A n xss)) (hh' : Hid (RowsAt w B A' n' yss)) : Calls Tryz.prog 44 #[.agg #[.int .i64 r, .slice A n c], .agg #[.int .i64 r', .slice A' n' c']] w fun e w' => e = .returned (.int .i64 (chkS r xss)) ∧ Below w.heap.size w w' := by
  have hq : (chkS r xss != 0) = true := by simpa using hc
  clear hc
  go_enter Tryz.func44, Tryz.ntmps44
  go_wp2_with fail
  refine calls_later (w.heap.size + 2) ?_
  intro W hW hsW
  obtain ⟨hcW, hfW⟩ := bcell hW
  simp only [World.size_alloc] at hsW
  have hbW : Below w.heap.size w W := (((Below.refl _ w).alloc (Nat.le_refl _) _).alloc (by simp) _).trans (hW.mono (by omega))
  refine (CHECK_any r A n c xss _ B (by omega) (hh.out.below hbW hB)).mono ?_
  rintro e w1 ⟨rfl, hb1⟩
  have hS1 : Below (w.heap.size + 2) W w1 := hb1.mono hsW
  have hz1 := pcell hS1
  clear hb1
  go_wp2_with fail
  go_ret
  exact ⟨rfl, hbW.trans (hS1.mono (by omega))⟩
set_option maxHeartbeats 800000 in
theorem CHECKBOTH_two (r r' : Int) (A A' : Option Addr) (n n' c c' : Nat) (xss yss : List (List Int)) (hc : chkS r xss = 0) (hc2 : chkS r' yss ≠ 0) (w : World) (B : Nat) (hB : B ≤ w.heap.size) (hh : Hid (RowsAt w B A n xss)) (hh' : Hid (RowsAt w B A' n' yss)) : Calls Tryz.prog 44 #[.agg #[.int .i64 r, .slice A n c], .agg #[.int .i64 r', .slice A' n' c']] w fun e w' => e = .returned (.int .i64 (chkS r' yss)) ∧ Below w.heap.size w w' := by
  have hq : (chkS r xss != 0) = false := by rw [hc]; rfl
  have hq2 : (chkS r' yss != 0) = true := by simpa using hc2
  clear hc hc2
  go_enter Tryz.func44, Tryz.ntmps44
  go_wp2_with fail
  refine calls_later (w.heap.size + 2) ?_
  intro W hW hsW
  obtain ⟨hcW, hfW⟩ := bcell hW
  simp only [World.size_alloc] at hsW
  have hbW : Below w.heap.size w W := (((Below.refl _ w).alloc (Nat.le_refl _) _).alloc (by simp) _).trans (hW.mono (by omega))
  refine (CHECK_any r A n c xss _ B (by omega) (hh.out.below hbW hB)).mono ?_
  rintro e w1 ⟨rfl, hb1⟩
  have hS1 : Below (w.heap.size + 2) W w1 := hb1.mono hsW
  have hz1 := pcell hS1
  clear hb1
  go_wp2_with fail
  refine (CHECK_any _ A' _ c' yss _ B (by have := hS1.size; omega) ((hh'.out.below hbW hB).below (hS1.mono (by omega)) (Nat.le_refl _))).mono ?_
  rintro e w2 ⟨rfl, hb2⟩
  have hS2 := Below.next hS1 hsW hb2
  clear hz1 hb2
  have hz2 := pcell hS2
  go_wp2_with fail
  go_ret
  exact ⟨rfl, hbW.trans (hS2.mono (by omega))⟩
set_option maxHeartbeats 800000 in
theorem CHECKBOTH_like (r r' : Int) (A A' : Option Addr) (n n' c c' : Nat) (xss yss : List (List Int)) (hc : chkS r xss = 0) (hc2 : chkS r' yss = 0) (w : World) (B : Nat) (hB : B ≤ w.heap.size) (hh : Hid (RowsAt w B A n xss)) (hh' : Hid (RowsAt w B A' n' yss)) : Calls Tryz.prog 44 #[.agg #[.int .i64 r, .slice A n c], .agg #[.int .i64 r', .slice A' n' c']] w fun e w' => e = .returned (.int .i64 (alikeB r r' n n')) ∧ Below w.heap.size w w' := by
  have hq : (chkS r xss != 0) = false := by rw [hc]; rfl
  have hq2 : (chkS r' yss != 0) = false := by rw [hc2]; rfl
  clear hc hc2
  by_cases hr : r = r'
  · subst hr
    have hr0 : (r != r) = false := by simp
    by_cases hn : n = n'
    · subst hn
      have hn0 : ((n : Int) != (n : Int)) = false := by simp
      have HV : Hid (alikeB r r n n = 0) := if_neg (by simp)
      go_enter Tryz.func44, Tryz.ntmps44
      go_wp2_with fail
      refine calls_later (w.heap.size + 2) ?_
      intro W hW hsW
      obtain ⟨hcW, hfW⟩ := bcell hW
      simp only [World.size_alloc] at hsW
      have hbW : Below w.heap.size w W := (((Below.refl _ w).alloc (Nat.le_refl _) _).alloc (by simp) _).trans (hW.mono (by omega))
      refine (CHECK_any r A n c xss _ B (by omega) (hh.out.below hbW hB)).mono ?_
      rintro e w1 ⟨rfl, hb1⟩
      have hS1 : Below (w.heap.size + 2) W w1 := hb1.mono hsW
      have hz1 := pcell hS1
      clear hb1
      go_wp2_with fail
      refine (CHECK_any _ A' _ c' yss _ B (by have := hS1.size; omega) ((hh'.out.below hbW hB).below (hS1.mono (by omega)) (Nat.le_refl _))).mono ?_
      rintro e w2 ⟨rfl, hb2⟩
      have hS2 := Below.next hS1 hsW hb2
      clear hz1 hb2
      have hz2 := pcell hS2
      go_wp2_with fail
      go_ret
      exact ⟨ret_int HV.out.symm, hbW.trans (hS2.mono (by omega))⟩
    · have hn0 : ((n : Int) != (n' : Int)) = true := by simp; omega
      have HV : Hid (alikeB r r n n' = 6) := if_pos (.inr hn)
      clear hn
      go_enter Tryz.func44, Tryz.ntmps44
      go_wp2_with fail
      refine calls_later (w.heap.size + 2) ?_
      intro W hW hsW
      obtain ⟨hcW, hfW⟩ := bcell hW
      simp only [World.size_alloc] at hsW
      have hbW : Below w.heap.size w W := (((Below.refl _ w).alloc (Nat.le_refl _) _).alloc (by simp) _).trans (hW.mono (by omega))
      refine (CHECK_any r A n c xss _ B (by omega) (hh.out.below hbW hB)).mono ?_
      rintro e w1 ⟨rfl, hb1⟩
      have hS1 : Below (w.heap.size + 2) W w1 := hb1.mono hsW
      have hz1 := pcell hS1
      clear hb1
      go_wp2_with fail
      refine (CHECK_any _ A' _ c' yss _ B (by have := hS1.size; omega) ((hh'.out.below hbW hB).below (hS1.mono (by omega)) (Nat.le_refl _))).mono ?_
      rintro e w2 ⟨rfl, hb2⟩
      have hS2 := Below.next hS1 hsW hb2
      clear hz1 hb2
      have hz2 := pcell hS2
      go_wp2_with fail
      go_ret
      exact ⟨ret_int HV.out.symm, hbW.trans (hS2.mono (by omega))⟩
  · have hr0 : (r != r') = true := by simpa using hr
    have HV : Hid (alikeB r r' n n' = 6) := if_pos (.inl hr)
    clear hr
    go_enter Tryz.func44, Tryz.ntmps44
    go_wp2_with fail
    refine calls_later (w.heap.size + 2) ?_
    intro W hW hsW
    obtain ⟨hcW, hfW⟩ := bcell hW
    simp only [World.size_alloc] at hsW
    have hbW : Below w.heap.size w W := (((Below.refl _ w).alloc (Nat.le_refl _) _).alloc (by simp) _).trans (hW.mono (by omega))
    refine (CHECK_any r A n c xss _ B (by omega) (hh.out.below hbW hB)).mono ?_
    rintro e w1 ⟨rfl, hb1⟩
    have hS1 : Below (w.heap.size + 2) W w1 := hb1.mono hsW
    have hz1 := pcell hS1
    clear hb1
    go_wp2_with fail
    refine (CHECK_any _ A' _ c' yss _ B (by have := hS1.size; omega) ((hh'.out.below hbW hB).below (hS1.mono (by omega)) (Nat.le_refl _))).mono ?_
    rintro e w2 ⟨rfl, hb2⟩
    have hS2 := Below.next hS1 hsW hb2
    clear hz1 hb2
    have hz2 := pcell hS2
    go_wp2_with fail
    go_ret
    exact ⟨ret_int HV.out.symm, hbW.trans (hS2.mono (by omega))⟩
theorem CHECKBOTH_any (r r' : Int) (A A' : Option Addr) (n n' c c' : Nat) (xss yss : List (List Int)) (w : World) (B : Nat) (hB : B ≤ w.heap.size) (hh : Hid (RowsAt w B A n xss)) (hh' : Hid (RowsAt w B A' n' yss)) : Calls Tryz.prog 44 #[.agg #[.int .i64 r, .slice A n c], .agg #[.int .i64 r', .slice A' n' c']] w fun e w' => e = .returned (.int .i64 (both2 r r' xss yss)) ∧ Below w.heap.size w w' := by
  unfold both2 both1
  by_cases hc : chkS r xss = 0
  · rw [if_neg (show ¬ chkS r xss ≠ 0 by simp [hc])]
    by_cases hc2 : chkS r' yss = 0
    · rw [if_neg (by simp [hc2])]
      have := CHECKBOTH_like r r' A A' n n' c c' xss yss hc hc2 w B hB hh hh'
      rw [← hh.out.1, ← hh'.out.1] at this
      rw [← hh.out.1, ← hh'.out.1]
      exact this
    · rw [if_pos hc2]; exact CHECKBOTH_two r r' A A' n n' c c' xss yss hc hc2 w B hB hh hh'
  · rw [if_pos hc, if_pos hc]; exact CHECKBOTH_one r r' A A' n n' c c' xss yss hc w B hB hh hh'
end Go.Proofs.YtkmcohnhanphdaaGreatDoor
