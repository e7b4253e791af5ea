/- ClockTicksComeBack, walked. -/
import Derived.Test.YtdoffngamppkkaaDoorTickL
import Derived.Test.YtdoffngamppkkaaDoorAwk
set_option linter.unusedSimpArgs false
set_option linter.unusedVariables false
namespace Go.Proofs.YtdoffngamppkkaaDoor
open Go.RowKit Go.Dw
theorem SAMPLEAT_at {l ms : List Pr} {rate t n1 f1 : Int} (HS : Hid (sampS l ms rate t = (n1, f1))) (A A' : Option Addr) (n c n' c' : Nat) (hn : n ≤ 8796093022207) (hn' : n' ≤ 8796093022207) (w : World) (B : Nat) (hB : B ≤ w.heap.size) (hh : Hid (PrsAt w B A n l)) (hh' : Hid (PrsAt w B A' n' ms)) :
    Calls Tryd.prog 8 #[.agg #[.slice A n c, .slice A' n' c'], .int .i64 rate, .int .i64 t] w fun e w' => e = .returned (.tuple #[.int .i64 n1, .int .i64 f1]) ∧ Below w.heap.size w w' :=
  (SAMPLEAT_any A A' n c n' c' l ms rate t hn hn' w B hB hh hh').mono fun e w' ⟨h1, h2⟩ => ⟨by rw [h1, HS.out]; rfl, h2⟩
theorem TICKAT_at {l ms : List Pr} {rate tick n1 : Int} (HS : Hid (sampS l ms rate tick = (n1, 0))) (A A' : Option Addr) (n c n' c' : Nat) (hn : n ≤ 8796093022207) (hn' : n' ≤ 8796093022207) (w : World) (B : Nat) (hB : B ≤ w.heap.size) (hh : Hid (PrsAt w B A n l)) (hh' : Hid (PrsAt w B A' n' ms)) :
    Calls Tryd.prog 10 #[.agg #[.slice A n c, .slice A' n' c'], .int .i64 rate, .int .i64 n1] w fun e w' => ∃ t : Int, e = .returned (.tuple #[.int .i64 t, .int .i64 0]) ∧ (tick ≤ t ∧ 0 ≤ t ∧ t ≤ 1000000000 ∧ sampS l ms rate t = (n1, 0) ∧
      (t ≠ 1000000000 → sampS l ms rate (t + 1) = (0, 1) ∨ ∃ n2, sampS l ms rate (t + 1) = (n2, 0) ∧ n1 < n2)) ∧ Below w.heap.size w w' := by
  refine (TICKAT_any A A' n c n' c' l ms rate n1 hn hn' w B hB hh hh').mono fun e w' ⟨p, h1, h2, h3⟩ => ?_
  have hs2 : (sampS l ms rate tick).2 = 0 := by rw [HS.out]
  have hs1 : (sampS l ms rate tick).1 = n1 := by rw [HS.out]
  rw [← hs1] at h2
  obtain ⟨k1, k2, k3, k4, k5, k6⟩ := tick_law hs2 h2
  rw [hs1] at k5 k6
  refine ⟨p.1, by rw [h1]; unfold retS; rw [k1], ⟨k2, k3, k4, k5, fun hne => ?_⟩, h3⟩
  rcases k6 hne with h | ⟨h, h'⟩
  · exact .inl h
  · exact .inr ⟨_, Prod.ext rfl h, h'⟩
set_option maxRecDepth 100000 in
set_option maxHeartbeats 8000000 in
theorem lawTicks_walk (A A' : Option Addr) (n c n' c' : Nat) (l ms : List Pr) (rate tick : Int) (hn : n ≤ 8796093022207) (hn' : n' ≤ 8796093022207) (w : World) (hh : Hid (PrsAt w w.heap.size A n l)) (hh' : Hid (PrsAt w w.heap.size A' n' ms)) :
    Calls Tryd.prog 3 #[.agg #[.slice A n c, .slice A' n' c'], .int .i64 rate, .int .i64 tick] w fun e w' => e = .returned (.bool true) ∧ Below w.heap.size w w' := by
  obtain ⟨W, hW⟩ : ∃ W, W = w.alloc (.cells #[.slice A n c, .slice A' n' c'] 25) := ⟨_, rfl⟩
  have HBW : Hid (Below w.heap.size w W) := by show Below _ _ _; rw [hW]; exact (Below.refl _ w).alloc (Nat.le_refl _) _
  have HSW : Hid (w.heap.size + 1 = W.heap.size) := by show _ = _; rw [hW]; simp
  have hW0 : W.cell? ⟨w.heap.size, 0, none⟩ = some (.slice A n c) := by rw [hW]; simp [go_sem]
  have hW1 : W.cell? ⟨w.heap.size, 1, none⟩ = some (.slice A' n' c') := by rw [hW]; simp [go_sem]
  have HPW : Hid (PrsAt W W.heap.size A n l) := (hh.out.below HBW.out (Nat.le_refl _)).mono (by have := HSW.out; omega)
  have HPW' : Hid (PrsAt W W.heap.size A' n' ms) := (hh'.out.below HBW.out (Nat.le_refl _)).mono (by have := HSW.out; omega)
  go_enter Tryd.func3, Tryd.ntmps3
  go_upto_region 1 with (fail)
  rw [← hW]
  clear hW
  obtain ⟨gx, hgx⟩ : ∃ gx, gx = w.heap.size := ⟨_, rfl⟩
  rw [← hgx] at HSW hW0 hW1 ⊢
  have hgW : gx < W.heap.size := by have := HSW.out; omega
  have HGX := Lib.hid hgx
  clear hgx
  obtain ⟨n1, f1, hs⟩ : ∃ n1 f1, sampS l ms rate tick = (n1, f1) := ⟨_, _, rfl⟩
  have HS := Lib.hid hs
  by_cases hf : f1 = 0
  · subst hf
    clear hs
    go_upto_region 7 with (first
      | (go_at_call 8; refine (SAMPLEAT_at HS _ _ _ _ _ _ hn hn' _ _ (Nat.le_refl _) HPW HPW').mono ?_; rintro e w1 ⟨rfl, hb1⟩; have HB1 := Lib.hid hb1; have hz1 := pcell hb1; have hs1 := hb1.size; have hg1 : gx < w1.heap.size := (by omega); clear hb1)
      | (go_at_call 10; refine (TICKAT_at HS _ _ _ _ _ _ hn hn' _ _ (Nat.le_refl _) ((HPW.out.below HB1.out (Nat.le_refl _)).mono hs1) ((HPW'.out.below HB1.out (Nat.le_refl _)).mono hs1)).mono ?_; rintro e w2 ⟨t, rfl, ⟨k1, k2, k3, k4, k5⟩, hb2⟩; have HB2 := Lib.hid (HB1.out.trans (hb2.mono hs1)); have hz2 := pcell HB2.out; have hs2 := HB2.out.size; have hg2 : gx < w2.heap.size := (by omega); have K4 := Lib.hid k4; have K5 := Lib.hid k5; have ht : decide (t < tick) = false := (by simpa using k1); clear hb2 k4 k5 hz1))
    have hnn : (n1 != n1) = false := by simp
    have hy0 := (hz2 ⟨gx, 0, none⟩ hgW).trans hW0
    have hy1 := (hz2 ⟨gx, 1, none⟩ hgW).trans hW1
    clear hz2 hW0 hW1
    have HQ2 : Hid (PrsAt w2 w2.heap.size A n l) := (HPW.out.below HB2.out (Nat.le_refl _)).mono hs2
    have HQ2' : Hid (PrsAt w2 w2.heap.size A' n' ms) := (HPW'.out.below HB2.out (Nat.le_refl _)).mono hs2
    by_cases ht9 : t = 1000000000
    · subst ht9
      go_wp2_with (first
        | (go_at_call 8; refine (SAMPLEAT_at K4 _ _ _ _ _ _ hn hn' _ _ (Nat.le_refl _) HQ2 HQ2').mono ?_; rintro e w3 ⟨rfl, hb3⟩; have HB3 := Lib.hid (HB2.out.trans (hb3.mono hs2)); clear hb3)
        | (go_at_call 9; refine (AWAKE_any _).mono ?_; rintro e w5 ⟨rfl, hb5⟩; have HB5 := Lib.hid (HB3.out.trans (hb5.mono HB3.out.size)); clear hb5))
      go_ret
      exact ⟨rfl, HBW.out.trans (HB5.out.mono (by have := HSW.out; have := HGX.out; omega))⟩
    · have h9 : (t == 1000000000) = false := by simpa using ht9
      have hwr : t + 1 ≤ 1000000000 := by omega
      have hdisj := K5.out ht9
      clear ht9 K5
      rcases hdisj with hq | ⟨n2, hq, hlt⟩
      · have HQ := Lib.hid hq
        clear hq
        go_upto_region 12 with (go_at_call 8; refine (SAMPLEAT_at K4 _ _ _ _ _ _ hn hn' _ _ (Nat.le_refl _) HQ2 HQ2').mono ?_; rintro e w3 ⟨rfl, hb3⟩; have HB3 := Lib.hid (HB2.out.trans (hb3.mono hs2)); have hz3 := pcell hb3; clear hb3)
        have hs3 := HB3.out.size
        have hg3 : gx < w3.heap.size := Nat.lt_of_lt_of_le hgW hs3
        have hx0 := (hz3 ⟨gx, 0, none⟩ hg2).trans hy0
        have hx1 := (hz3 ⟨gx, 1, none⟩ hg2).trans hy1
        clear hz3
        go_wp2_with (first
          | (go_at_call 8; refine (SAMPLEAT_at HQ _ _ _ _ _ _ hn hn' _ _ (Nat.le_refl _) ((HPW.out.below HB3.out (Nat.le_refl _)).mono hs3) ((HPW'.out.below HB3.out (Nat.le_refl _)).mono hs3)).mono ?_; rintro e w4 ⟨rfl, hb4⟩; have HB4 := Lib.hid (HB3.out.trans (hb4.mono hs3)); clear hb4)
          | (go_at_call 9; refine (AWAKE_any _).mono ?_; rintro e w5 ⟨rfl, hb5⟩; have HB5 := Lib.hid (HB4.out.trans (hb5.mono HB4.out.size)); clear hb5))
        go_ret
        exact ⟨rfl, HBW.out.trans (HB4.out.mono (by have := HSW.out; have := HGX.out; omega))⟩
      · have HQ := Lib.hid hq
        have hgt : decide (n2 > n1) = true := by simpa using hlt
        clear hq
        go_upto_region 12 with (go_at_call 8; refine (SAMPLEAT_at K4 _ _ _ _ _ _ hn hn' _ _ (Nat.le_refl _) HQ2 HQ2').mono ?_; rintro e w3 ⟨rfl, hb3⟩; have HB3 := Lib.hid (HB2.out.trans (hb3.mono hs2)); have hz3 := pcell hb3; clear hb3)
        have hs3 := HB3.out.size
        have hg3 : gx < w3.heap.size := Nat.lt_of_lt_of_le hgW hs3
        have hx0 := (hz3 ⟨gx, 0, none⟩ hg2).trans hy0
        have hx1 := (hz3 ⟨gx, 1, none⟩ hg2).trans hy1
        clear hz3
        go_wp2_with (first
          | (go_at_call 8; refine (SAMPLEAT_at HQ _ _ _ _ _ _ hn hn' _ _ (Nat.le_refl _) ((HPW.out.below HB3.out (Nat.le_refl _)).mono hs3) ((HPW'.out.below HB3.out (Nat.le_refl _)).mono hs3)).mono ?_; rintro e w4 ⟨rfl, hb4⟩; have HB4 := Lib.hid (HB3.out.trans (hb4.mono hs3)); clear hb4)
          | (go_at_call 9; refine (AWAKE_any _).mono ?_; rintro e w5 ⟨rfl, hb5⟩; have HB5 := Lib.hid (HB4.out.trans (hb5.mono HB4.out.size)); clear hb5))
        go_ret
        exact ⟨rfl, HBW.out.trans (HB5.out.mono (by have := HSW.out; have := HGX.out; omega))⟩
  · have hf0 : (f1 != 0) = true := by simpa using hf
    have hn0 : n1 = 0 := by have := samp_err (l := l) (ms := ms) (rate := rate) (t := tick) (by rw [hs]; exact hf); rw [hs] at this; exact this
    subst hn0
    clear hs
    go_wp2_with (first
      | (go_at_call 8; refine (SAMPLEAT_at HS _ _ _ _ _ _ hn hn' _ _ (Nat.le_refl _) HPW HPW').mono ?_; rintro e w1 ⟨rfl, hb1⟩; have HB1 := Lib.hid hb1; clear hb1)
      | (go_at_call 9; refine (AWAKE_any _).mono ?_; rintro e w2 ⟨rfl, hb2⟩; have HB2 := Lib.hid hb2; clear hb2))
    go_ret
    exact ⟨rfl, HBW.out.trans ((HB1.out.trans (HB2.out.mono HB1.out.size)).mono (by have := HSW.out; have := HGX.out; omega))⟩
end Go.Proofs.YtdoffngamppkkaaDoor
