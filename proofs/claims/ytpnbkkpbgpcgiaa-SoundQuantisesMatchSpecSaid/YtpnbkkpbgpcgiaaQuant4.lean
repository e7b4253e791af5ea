/- Quantise, the document's: the ways out, all put together; the law. -/
import Derived.Test.YtpnbkkpbgpcgiaaQuant2
import Derived.Test.YtpnbkkpbgpcgiaaQuant3
import Derived.Test.YtpnbkkpbgpcgiaaSame
import Derived.Test.YtpnbkkpbgpcgiaaPeak
set_option linter.unusedSimpArgs false
set_option linter.unusedVariables false
namespace Go.Proofs.Ytpnbkkpbgpcgiaa
open Go.RowKit Go.Dw
attribute [local go_sem ↓] Go.wp_at_zero Go.wp_at_succ

set_option maxHeartbeats 800000 in
theorem RQUANT_chk (r : Int) (A : Option Addr) (n c : Nat) (b : Int) (xss : List (List Int)) (hc : chkS r xss ≠ 0) (w : World) (B : Nat) (hB : B ≤ w.heap.size) (hh : Hid (RowsAt w B A n xss)) :
    Calls Try.prog 27 #[.agg #[.int .i64 r, .slice A n c], .int .i64 b] w (OutS3 w 0 [] 0 (chkS r xss)) := by
  have hq : (chkS r xss != 0) = true := by simpa using hc
  clear hc
  go_enter Try.func27, Try.ntmps27
  go_wp2_with fail
  refine calls_later (w.heap.size + 2) ?_
  intro W hW hsW
  obtain ⟨hcW, hfW⟩ := bcell hW
  simp only [World.size_alloc] at hsW
  have hbW : Below w.heap.size w W := (((Below.refl _ w).alloc (Nat.le_refl _) _).alloc (by simp) _).trans (hW.mono (by omega))
  go_wp2_with (go_at_call 38; refine (RCHECK_any r A n c xss _ B (by omega) (hh.out.below hbW hB)).mono ?_; rintro e w1 ⟨rfl, hb1⟩; have hz1 := pcell (hb1.mono hsW); have hz2 := fun b o => (bcell (hb1.mono hsW)).2 b o)
  refine end_snd3 (o0 := .int .i64 0) (o1 := .slice none 0 0) rfl rfl rfl ?_ ?_ ?_
  · rw [hz1 _ (by simp), hcW _ _ (by simp)]; simp [go_sem]
  · rw [hz1 _ (by simp), hcW _ _ (by simp)]; simp [go_sem]
  · exact OutS3.err rfl (set2_below (hbW.trans (hb1.mono (by omega))) (by omega))
set_option maxHeartbeats 800000 in
theorem RQUANT_bad (r : Int) (A : Option Addr) (n c : Nat) (b : Int) (xss : List (List Int)) (hc : Hid (chkS r xss = 0)) (hb : b < 1 ∨ 24 < b) (w : World) (B : Nat) (hB : B ≤ w.heap.size) (hh : Hid (RowsAt w B A n xss)) :
    Calls Try.prog 27 #[.agg #[.int .i64 r, .slice A n c], .int .i64 b] w (OutS3 w 0 [] 0 1) := by
  have hq : (chkS r xss != 0) = false := by rw [hc.out]; rfl
  by_cases h1 : b < 1
  · have d1 : decide (b < 1) = true := by simpa using h1
    clear hb
    go_enter Try.func27, Try.ntmps27
    go_wp2_with fail
    refine calls_later (w.heap.size + 2) ?_
    intro W hW hsW
    obtain ⟨hcW, hfW⟩ := bcell hW
    simp only [World.size_alloc] at hsW
    have hbW : Below w.heap.size w W := (((Below.refl _ w).alloc (Nat.le_refl _) _).alloc (by simp) _).trans (hW.mono (by omega))
    go_wp2_with (go_at_call 38; refine (RCHECK_any r A n c xss _ B (by omega) (hh.out.below hbW hB)).mono ?_; rintro e w1 ⟨rfl, hb1⟩; have hz1 := pcell (hb1.mono hsW); have hz2 := fun b o => (bcell (hb1.mono hsW)).2 b o)
    refine end_snd3 (o0 := .int .i64 0) (o1 := .slice none 0 0) rfl rfl rfl ?_ ?_ ?_
    · rw [hz1 _ (by simp), hcW _ _ (by simp)]; simp [go_sem]
    · rw [hz1 _ (by simp), hcW _ _ (by simp)]; simp [go_sem]
    · exact OutS3.err rfl (set2_below (hbW.trans (hb1.mono (by omega))) (by omega))
  · have d1 : decide (b < 1) = false := by simpa using h1
    have d2 : decide (24 < b) = true := by simp; omega
    clear hb
    go_enter Try.func27, Try.ntmps27
    go_wp2_with fail
    refine calls_later (w.heap.size + 2) ?_
    intro W hW hsW
    obtain ⟨hcW, hfW⟩ := bcell hW
    simp only [World.size_alloc] at hsW
    have hbW : Below w.heap.size w W := (((Below.refl _ w).alloc (Nat.le_refl _) _).alloc (by simp) _).trans (hW.mono (by omega))
    go_wp2_with (go_at_call 38; refine (RCHECK_any r A n c xss _ B (by omega) (hh.out.below hbW hB)).mono ?_; rintro e w1 ⟨rfl, hb1⟩; have hz1 := pcell (hb1.mono hsW); have hz2 := fun b o => (bcell (hb1.mono hsW)).2 b o)
    refine end_snd3 (o0 := .int .i64 0) (o1 := .slice none 0 0) rfl rfl rfl ?_ ?_ ?_
    · rw [hz1 _ (by simp), hcW _ _ (by simp)]; simp [go_sem]
    · rw [hz1 _ (by simp), hcW _ _ (by simp)]; simp [go_sem]
    · exact OutS3.err rfl (set2_below (hbW.trans (hb1.mono (by omega))) (by omega))

theorem RQUANT_any (r : Int) (A : Option Addr) (n c : Nat) (b : Int) (xss : List (List Int)) (w : World) (B : Nat) (hB : B ≤ w.heap.size) (hh : RowsAt w B A n xss) :
    Calls Try.prog 27 #[.agg #[.int .i64 r, .slice A n c], .int .i64 b] w (OutS3 w (quS wInc r xss b).1 (quS wInc r xss b).2.1 (quS wInc r xss b).2.2.1 (quS wInc r xss b).2.2.2) := by
  unfold quS
  by_cases hc : chkS r xss = 0
  · have hok := chkS_ok hc
    have hn : 0 < n := by have := hok.some; have := hh.1; omega
    obtain ⟨ad, rfl⟩ := hh.addr hn
    rw [if_neg (by simp [hc])]
    by_cases hb : b < 1 ∨ 24 < b
    · rw [if_pos hb]; exact RQUANT_bad r _ n c b xss hc hb w B hB hh
    · rw [if_neg hb]; exact RQUANT_ok r ad n c b xss hok hc (by omega) (by omega) w B hB hh
  · rw [if_pos hc]
    exact RQUANT_chk r A n c b xss hc w B hB hh

set_option maxHeartbeats 800000 in
theorem lawQuant_walk (r : Int) (A : Option Addr) (n c : Nat) (q : Int) (xss : List (List Int)) (w : World) (hh : Hid (RowsAt w w.heap.size A n xss)) :
    Calls Try.prog 6 #[.agg #[.int .i64 r, .slice A n c], .int .i64 q] w fun e w' => e = .returned (.bool true) ∧ Below w.heap.size w w' := by
  go_enter Try.func6, Try.ntmps6
  go_wp2_with fail
  refine calls_later (w.heap.size + 1) ?_
  intro W hW hsW
  obtain ⟨hcW, hfW⟩ := bcell hW
  simp only [World.size_alloc] at hsW
  have hbW : Below w.heap.size w W := ((Below.refl _ w).alloc (Nat.le_refl _) _).trans (hW.mono (by omega))
  refine (QUANT_any r A n c q xss _ w.heap.size (by omega) (hh.out.below hbW (Nat.le_refl _))).mono ?_
  obtain ⟨Z, hZ⟩ : ∃ Z, quS wInc r xss q = Z := ⟨_, rfl⟩
  obtain ⟨z0, z1, z2, z3⟩ := Z
  rw [hZ]
  have HZ := Lib.hid hZ
  clear hZ
  rintro e w1 ⟨v1, rfl, ho1, hb1⟩
  obtain ⟨A1, c1, rfl, _, _⟩ := ho1.form
  have hz1 := pcell (hb1.mono hsW)
  have hs1 := hb1.size
  have hbw1 := hbW.trans (hb1.mono (show w.heap.size ≤ W.heap.size by omega))
  have hlt0 : w.heap.size < w1.heap.size := by omega
  dsimp only at ho1
  go_wp2_with fail
  refine (RQUANT_any r A n c q xss _ w.heap.size (by simp; omega) ((hh.out.below hbw1 (Nat.le_refl _)).below ((Below.refl _ _).alloc (by omega) _) (Nat.le_refl _))).mono ?_
  rw [HZ.out]
  rintro e w2 ⟨v2, rfl, ho2, hb2⟩
  obtain ⟨A2, c2, rfl, _, _⟩ := ho2.form
  have hs2 := hb2.size
  simp only [World.size_alloc] at hs2
  have hz2 := pcell hb2
  have hlt2 : w1.heap.size < w2.heap.size := by omega
  have hst : sameS z0 z1 z0 z1 = true := by simp [sameS]
  have hx1 := (ho1.rows.below ((Below.refl _ w1).alloc (Nat.le_refl _) (.cells #[.int .i64 z0, .slice A1 z1.length c1] 24)) (Nat.le_refl _)).below hb2 (by simp)
  have HX := Lib.hid (hx1.mono (show w1.heap.size ≤ w2.heap.size by omega))
  dsimp only at ho2
  have HY := Lib.hid ho2.rows
  clear hx1
  go_wp2_with fail
  refine (SAME_any _ _ _ _ _ _ _ _ z1 z1 _ w2.heap.size (by simp) (HX.out.below ((Below.refl _ _).alloc (Nat.le_refl _) _) (Nat.le_refl _)) (HY.out.below ((Below.refl _ _).alloc (Nat.le_refl _) _) (Nat.le_refl _))).mono ?_
  rintro e w3 ⟨rfl, hb3⟩
  rw [hst]
  go_wp2_with fail
  refine (AWAKE_any _).mono ?_
  rintro e w4 ⟨rfl, hb4⟩
  go_wp2_with fail
  go_ret
  have hs3 := hb3.size
  simp only [World.size_alloc] at hs3
  have hb12 : Below w.heap.size w1 w2 := ((Below.refl _ _).alloc (by omega) _).trans (hb2.mono (by simp; omega))
  have hb23 : Below w.heap.size w2 w3 := ((Below.refl _ _).alloc (by omega) _).trans (hb3.mono (by simp; omega))
  exact ⟨rfl, (hbw1.trans hb12).trans (hb23.trans (hb4.mono (by omega)))⟩
end Go.Proofs.Ytpnbkkpbgpcgiaa
