/- SampleAt, walked. -/
import Derived.Test.YtdoffngamppkkaaDoorSmp
set_option linter.unusedSimpArgs false
set_option linter.unusedVariables false
namespace Go.Proofs.YtdoffngamppkkaaDoor
open Go.RowKit Go.Dw
def retS (p : Int × Int) : Ending := .returned (.tuple #[.int .i64 p.1, .int .i64 p.2])
theorem u64_wrap (n : Nat) (h : n < 18446744073709551616) : IntKind.u64.wrap (n : Int) = (n : Int) := IntWalk.u64_in _ (by omega)
set_option maxRecDepth 100000 in
set_option maxHeartbeats 8000000 in
theorem SAMPLEAT_any (A A' : Option Addr) (n c n' c' : Nat) (l ms : List Pr) (rate t : Int) (hn : n ≤ 8796093022207) (hn' : n' ≤ 8796093022207) (w : World) (B : Nat) (hB : B ≤ w.heap.size) (hh : Hid (PrsAt w B A n l)) (hh' : Hid (PrsAt w B A' n' ms)) :
    Calls Tryd.prog 8 #[.agg #[.slice A n c, .slice A' n' c'], .int .i64 rate, .int .i64 t] w fun e w' => e = retS (sampS l ms rate t) ∧ Below w.heap.size w w' := by
  obtain ⟨W, hW⟩ : ∃ W, W = w.alloc (.cells #[.slice A n c, .slice A' n' c'] 25) := ⟨_, rfl⟩
  have HBW : Hid (Below w.heap.size w W) := by show Below _ _ _; rw [hW]; exact (Below.refl _ w).alloc (Nat.le_refl _) _
  have HSW : Hid (w.heap.size + 1 = W.heap.size) := by show _ = _; rw [hW]; simp
  have hW0 : W.cell? ⟨w.heap.size, 0, none⟩ = some (.slice A n c) := by rw [hW]; simp [go_sem]
  have hW1 : W.cell? ⟨w.heap.size, 1, none⟩ = some (.slice A' n' c') := by rw [hW]; simp [go_sem]
  have HPW : Hid (PrsAt W W.heap.size A n l) := (hh.out.below HBW.out hB).mono (by have := HSW.out; omega)
  have HPW' : Hid (PrsAt W W.heap.size A' n' ms) := (hh'.out.below HBW.out hB).mono (by have := HSW.out; omega)
  go_enter Tryd.func8, Tryd.ntmps8
  go_upto_region 1 with (fail)
  rw [← hW]
  clear hW
  obtain ⟨gx, hgx⟩ : ∃ gx, gx = w.heap.size := ⟨_, rfl⟩
  rw [← hgx] at HSW hW0 hW1 ⊢
  have hgW : gx < W.heap.size := by have := HSW.out; omega
  have HGX := Lib.hid hgx
  clear hgx
  obtain ⟨x, hx⟩ : ∃ x, chkT l ms = x := ⟨_, rfl⟩
  have HX := Lib.hid hx
  clear hx
  by_cases hx0 : x = 0
  · subst hx0
    obtain ⟨b, hb⟩ : ∃ b, (decide (1 ≤ rate) && decide (rate ≤ 1000000)) = b := ⟨_, rfl⟩
    have HB := Lib.hid hb
    obtain ⟨hoks, _⟩ := okP_chkT HX.out
    have HOK := Lib.hid hoks
    clear hoks hb
    cases b with
    | false =>
      have hbad : badS rate t 1000000000 := .inl fun h => by have := HB.out; simp [h.1, h.2] at this
      go_wp2_with (first | (go_at_call 26; refine (CHECKTEMPO_any _ _ _ _ _ _ l ms hn hn' _ _ (Nat.le_refl _) HPW HPW').mono ?_; rintro e w1 ⟨rfl, hb1⟩; rw [HX.out]; have HB1 := Lib.hid hb1; have hz1 := pcell hb1; have hs1 := hb1.size; have hg1 : gx < w1.heap.size := (by omega); clear hb1) | (go_at_call 27; refine (ISRATE_any _ _).mono ?_; rintro e w2 ⟨rfl, rfl⟩; rw [HB.out]))
      go_ret2
      exact ⟨by unfold retS sampS; rw [HX.out, if_neg (by simp), if_pos hbad]; rfl, HBW.out.trans (HB1.out.mono (by rw [← HGX.out]; omega))⟩
    | true =>
      have hr : 1 ≤ rate ∧ rate ≤ 1000000 := by have := HB.out; simpa using this
      by_cases ht0 : t < 0
      · have hbad : badS rate t 1000000000 := .inr (.inl ht0)
        have ht : decide (t < 0) = true := by simpa using ht0
        go_wp2_with (first | (go_at_call 26; refine (CHECKTEMPO_any _ _ _ _ _ _ l ms hn hn' _ _ (Nat.le_refl _) HPW HPW').mono ?_; rintro e w1 ⟨rfl, hb1⟩; rw [HX.out]; have HB1 := Lib.hid hb1; have hz1 := pcell hb1; have hs1 := hb1.size; have hg1 : gx < w1.heap.size := (by omega); clear hb1) | (go_at_call 27; refine (ISRATE_any _ _).mono ?_; rintro e w2 ⟨rfl, rfl⟩; rw [HB.out]))
        go_ret2
        exact ⟨by unfold retS sampS; rw [HX.out, if_neg (by simp), if_pos hbad]; rfl, HBW.out.trans (HB1.out.mono (by rw [← HGX.out]; omega))⟩
      by_cases ht1 : 1000000000 < t
      · have hbad : badS rate t 1000000000 := .inr (.inr ht1)
        have ht : decide (t < 0) = false := by simpa using ht0
        have ht2 : decide (t > 1000000000) = true := by simpa using ht1
        go_wp2_with (first | (go_at_call 26; refine (CHECKTEMPO_any _ _ _ _ _ _ l ms hn hn' _ _ (Nat.le_refl _) HPW HPW').mono ?_; rintro e w1 ⟨rfl, hb1⟩; rw [HX.out]; have HB1 := Lib.hid hb1; have hz1 := pcell hb1; have hs1 := hb1.size; have hg1 : gx < w1.heap.size := (by omega); clear hb1) | (go_at_call 27; refine (ISRATE_any _ _).mono ?_; rintro e w2 ⟨rfl, rfl⟩; rw [HB.out]))
        go_ret2
        exact ⟨by unfold retS sampS; rw [HX.out, if_neg (by simp), if_pos hbad]; rfl, HBW.out.trans (HB1.out.mono (by rw [← HGX.out]; omega))⟩
      have ht : decide (t < 0) = false := by simpa using ht0
      have ht2 : decide (t > 1000000000) = false := by simpa using ht1
      have hgood : ¬ badS rate t 1000000000 := by unfold badS; omega
      have HGOOD := Lib.hid hgood
      obtain ⟨hm0, hm1⟩ := mom_top HOK.out (t := t) (by omega) (by omega)
      obtain ⟨M, hM⟩ : ∃ M : Nat, mom t l = (M : Int) := ⟨(mom t l).toNat, by omega⟩
      obtain ⟨R, rfl⟩ : ∃ R : Nat, rate = (R : Int) := ⟨rate.toNat, by omega⟩
      have HM := Lib.hid hM
      rw [hM] at hm0 hm1
      clear hgood hM
      obtain ⟨hr1, hr2⟩ := hr
      have hM64 : M < 18446744073709551616 := by omega
      have hR64 : R < 18446744073709551616 := by omega
      obtain ⟨N, hN⟩ : ∃ N, M * R = N := ⟨_, rfl⟩
      have hNtop : N ≤ 60000000000000000 * 1000000 := by rw [← hN]; exact Nat.mul_le_mul (by omega) (by omega)
      obtain ⟨Q, hQ⟩ : ∃ Q, N / 960000000 = Q := ⟨_, rfl⟩
      obtain ⟨r, hr⟩ : ∃ r, N % 960000000 = r := ⟨_, rfl⟩
      have hQtop : Q ≤ 62500000000000 := by omega
      have hNhi : N / 18446744073709551616 < 960000000 := by omega
      have HC : Hid (ceilB N = Q + (if r = 0 then 0 else 1)) := by show _ = _; unfold ceilB; rw [hQ, hr]
      have HN := Lib.hid hN
      have HQ := Lib.hid hQ
      have HR := Lib.hid hr
      have HD := Lib.hid hNhi
      have HM64 := Lib.hid hM64
      have HR64 := Lib.hid hR64
      have hts : (0 : Int) ≤ t ∧ t ≤ 1000000000 := by omega
      have HT := Lib.hid hts
      have HRN : Hid (sampS l ms (R : Int) t = if 10000000000000 < ceilB N then (0, 1) else (((ceilB N : Nat) : Int), 0)) := by
        show _ = _
        unfold sampS
        rw [HX.out, if_neg (by simp), if_neg HGOOD.out, HM.out]
        simp only [Int.toNat_natCast, hN]
      have hR0 : (0 : Int) ≤ (R : Int) := by omega
      have hRt : (R : Int) ≤ 1000000 := hr2
      clear hNtop hNhi hM64 hR64 hN hQ hr hts ht0 ht1 hr1 hr2
      go_upto_region 6 with (first
        | (go_at_call 26; refine (CHECKTEMPO_any _ _ _ _ _ _ l ms hn hn' _ _ (Nat.le_refl _) HPW HPW').mono ?_; rintro e w1 ⟨rfl, hb1⟩; rw [HX.out]; have HB1 := Lib.hid hb1; have hz1 := pcell hb1; have hs1 := hb1.size; have hg1 : gx < w1.heap.size := (by omega); clear hb1)
        | (go_at_call 27; refine (ISRATE_any _ _).mono ?_; rintro e w2 ⟨rfl, rfl⟩; rw [HB.out]))
      have hy0 := (hz1 ⟨gx, 0, none⟩ hgW).trans hW0
      have hy1 := (hz1 ⟨gx, 1, none⟩ hgW).trans hW1
      clear hz1 hW0 hW1
      obtain ⟨mi, hmi⟩ : ∃ mi : Int, mi = (M : Int) := ⟨_, rfl⟩
      obtain ⟨ri, hri⟩ : ∃ ri : Int, ri = (R : Int) := ⟨_, rfl⟩
      have HMI := Lib.hid hmi
      have HRI := Lib.hid hri
      have hcm : IntKind.u64.wrap mi = mi := by rw [hmi]; exact u64_wrap M HM64.out
      have hcr : IntKind.u64.wrap ri = ri := by rw [hri]; exact u64_wrap R HR64.out
      obtain ⟨hi, hhi⟩ : ∃ hi : Int, hi = ((N / 18446744073709551616 : Nat) : Int) := ⟨_, rfl⟩
      obtain ⟨lo, hlo⟩ : ∃ lo : Int, lo = ((N % 18446744073709551616 : Nat) : Int) := ⟨_, rfl⟩
      obtain ⟨qi, hqi⟩ : ∃ qi : Int, qi = ((Q : Nat) : Int) := ⟨_, rfl⟩
      obtain ⟨ui, hui⟩ : ∃ ui : Int, ui = ((r : Nat) : Int) := ⟨_, rfl⟩
      have HMUL : Hid (∀ V : World, Calls Tryd.prog 28 #[.int .u64 mi, .int .u64 ri] V fun e w' => e = .returned (.tuple #[.int .u64 hi, .int .u64 lo]) ∧ V = w') := fun V => by
        rw [hmi, hri, hhi, hlo, ← HN.out]
        exact (Tryd.bits_Mul64 M R HM64.out HR64.out V).mono fun e w' ⟨h1, h2⟩ => ⟨h1, h2.symm⟩
      have HDIV : Hid (∀ V : World, Calls Tryd.prog 30 #[.int .u64 hi, .int .u64 lo, .int .u64 960000000] V fun e w' => e = .returned (.tuple #[.int .u64 qi, .int .u64 ui]) ∧ ∃ q, w' = V.drewN q) := fun V => by
        rw [hhi, hlo, hqi, hui, ← HQ.out, ← HR.out]
        exact DIV64_any N HD.out V
      have HCI : Hid ((ceilB N : Int) = qi + (if ui = 0 then 0 else 1) ∧ 0 ≤ qi ∧ qi ≤ 62500000000000 ∧ 0 ≤ ui) := by
        refine ⟨?_, by omega, by omega, by omega⟩
        rw [HC.out, hqi, hui]
        by_cases h : r = 0
        · rw [if_pos h, if_pos (by omega)]; omega
        · rw [if_neg h, if_neg (by omega)]; omega
      clear hhi hlo hqi hui HN HQ HR HD HM64 HR64 HC hQtop
      clear hmi hm0 hm1 hR0 hRt
      rw [← hri]
      clear hri
      go_wp2_with (first
        | (go_at_call 29; refine (MOMENT_any _ _ _ _ _ _ l t HT.out.1 HT.out.2 HOK _ _ (Nat.le_refl _) (HPW.out.below HB1.out (Nat.le_refl _) |>.mono hs1)).mono ?_; rintro e w3 ⟨rfl, hb3⟩; rw [HM.out, ← HMI.out]; have HB3 := Lib.hid hb3; clear hb3)
        | (go_at_call 28; refine (HMUL.out _).mono ?_; rintro e w4 ⟨rfl, rfl⟩)
        | (go_at_call 30; refine (HDIV.out _).mono ?_; rintro e w5 ⟨rfl, q5, rfl⟩))
      all_goals (go_ret2; refine ⟨?_, HBW.out.trans ((HB1.out.trans ((belowN HB3.out q5).mono hs1)).mono (by have := HSW.out; have := HGX.out; omega))⟩; rw [HRN.out]; obtain ⟨h1, h2, h3, h4⟩ := HCI.out)
      all_goals have e5 : IntKind.u64.wrap (qi + 1) = qi + 1 := IntWalk.u64_in _ (by omega)
      · have g1 : 0 < ui := by assumption
        have g2 : 10000000000000 < IntKind.u64.wrap (qi + 1) := by assumption
        rw [if_neg (by omega)] at h1
        rw [e5] at g2
        rw [if_pos (by omega)]; rfl
      · have g1 : 0 < ui := by assumption
        have g2 : IntKind.u64.wrap (qi + 1) ≤ 10000000000000 := by assumption
        rw [if_neg (by omega)] at h1
        rw [e5] at g2
        rw [if_neg (by omega)]
        exact congrArg (fun z => retS (z, 0)) (show wrap64 (IntKind.u64.wrap (qi + 1)) = (ceilB N : Int) by rw [e5, h1]; exact IntWalk.wrap64_in _ (by omega))
      · have g1 : ui ≤ 0 := by assumption
        have g2 : 10000000000000 < qi := by assumption
        rw [if_pos (by omega)] at h1
        rw [if_pos (by omega)]; rfl
      · have g1 : ui ≤ 0 := by assumption
        have g2 : qi ≤ 10000000000000 := by assumption
        rw [if_pos (by omega)] at h1
        rw [if_neg (by omega)]
        exact congrArg (fun z => retS (z, 0)) (show wrap64 qi = (ceilB N : Int) by rw [h1, Int.add_zero]; exact IntWalk.wrap64_in _ (by omega))
  · have hxb : (x != 0) = true := by simpa using hx0
    go_wp2_with (first | (go_at_call 26; refine (CHECKTEMPO_any _ _ _ _ _ _ l ms hn hn' _ _ (Nat.le_refl _) HPW HPW').mono ?_; rintro e w1 ⟨rfl, hb1⟩; rw [HX.out]; have HB1 := Lib.hid hb1; have hz1 := pcell hb1; have hs1 := hb1.size; have hg1 : gx < w1.heap.size := (by omega); clear hb1) | (go_at_call 27; refine (ISRATE_any _ _).mono ?_; rintro e w2 ⟨rfl, rfl⟩; rw [HB.out]))
    go_ret2
    exact ⟨by unfold retS sampS; rw [HX.out, if_pos hx0]; rfl, HBW.out.trans (HB1.out.mono (by rw [← HGX.out]; omega))⟩
end Go.Proofs.YtdoffngamppkkaaDoor
