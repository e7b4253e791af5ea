/- SampleAt, walked. -/
import Derived.Test.YthjmhdnamhifjaaDoorYq
import Derived.Test.YthjmhdnamhifjaaDoorDiv
set_option linter.unusedSimpArgs false
set_option linter.unusedVariables false
namespace Go.Proofs.YthjmhdnamhifjaaDoor
open Go.RowKit Go.Dw
def retS (p : Int × Int) : Ending := .returned (.tuple #[.int .i64 p.1, .int .i64 p.2])
theorem u64_wrap (n : Nat) (h : n < 18446744073709551616) : IntKind.u64.wrap (n : Int) = (n : Int) := IntWalk.u64_in _ (by omega)
set_option maxRecDepth 100000 in
set_option maxHeartbeats 8000000 in
theorem SAMPLEAT_any (A A' : Option Addr) (n c n' c' : Nat) (l ms : List Pr) (rate t : Int) (hn : n ≤ 8796093022207) (hn' : n' ≤ 8796093022207) (w : World) (B : Nat) (hB : B ≤ w.heap.size) (hh : Hid (PrsAt w B A n l)) (hh' : Hid (PrsAt w B A' n' ms)) :
    Calls Tryd.prog 10 #[.agg #[.slice A n c, .slice A' n' c'], .int .i64 rate, .int .i64 t] w fun e w' => e = retS (sampS l ms rate t) ∧ Below w.heap.size w w' := by
  obtain ⟨W, hW⟩ : ∃ W, W = w.alloc (.cells #[.slice A n c, .slice A' n' c'] 36) := ⟨_, rfl⟩
  have HBW : Hid (Below w.heap.size w W) := by show Below _ _ _; rw [hW]; exact (Below.refl _ w).alloc (Nat.le_refl _) _
  have HSW : Hid (w.heap.size + 1 = W.heap.size) := by show _ = _; rw [hW]; simp
  have hW0 : W.cell? ⟨w.heap.size, 0, none⟩ = some (.slice A n c) := by rw [hW]; simp [go_sem]
  have hW1 : W.cell? ⟨w.heap.size, 1, none⟩ = some (.slice A' n' c') := by rw [hW]; simp [go_sem]
  have HPW : Hid (PrsAt W W.heap.size A n l) := (hh.out.below HBW.out hB).mono (by have := HSW.out; omega)
  have HPW' : Hid (PrsAt W W.heap.size A' n' ms) := (hh'.out.below HBW.out hB).mono (by have := HSW.out; omega)
  go_enter Tryd.func10, Tryd.ntmps10
  go_upto_region 1 with (fail)
  rw [← hW]
  clear hW
  obtain ⟨gx, hgx⟩ : ∃ gx, gx = w.heap.size := ⟨_, rfl⟩
  rw [← hgx] at HSW hW0 hW1 ⊢
  have hgW : gx < W.heap.size := by have := HSW.out; omega
  have HGX := Lib.hid hgx
  clear hgx
  obtain ⟨x, hx⟩ : ∃ x, chkT l ms = x := ⟨_, rfl⟩
  have HX := Lib.hid hx
  clear hx
  by_cases hx0 : x = 0
  · subst hx0
    obtain ⟨b, hb⟩ : ∃ b, (decide (1 ≤ rate) && decide (rate ≤ 1000000)) = b := ⟨_, rfl⟩
    have HB := Lib.hid hb
    obtain ⟨hoks, _⟩ := okP_chkT HX.out
    have HOK := Lib.hid hoks
    clear hoks hb
    cases b with
    | false =>
      have hbad : badS rate t 1000000000 := .inl fun h => by have := HB.out; simp [h.1, h.2] at this
      go_wp2_with (first | (go_at_call 14; refine (CHECKTEMPO_any _ _ _ _ _ _ l ms hn hn' _ _ (Nat.le_refl _) HPW HPW').mono ?_; rintro e w1 ⟨rfl, hb1⟩; rw [HX.out]; have HB1 := Lib.hid hb1; have hz1 := pcell hb1; have hs1 := hb1.size; have hg1 : gx < w1.heap.size := (by omega); clear hb1) | (go_at_call 33; refine (ISRATET_any _ _).mono ?_; rintro e w2 ⟨rfl, rfl⟩; rw [HB.out]))
      go_ret2
      exact ⟨by unfold retS sampS; rw [HX.out, if_neg (by simp), if_pos hbad]; rfl, HBW.out.trans (HB1.out.mono (by rw [← HGX.out]; omega))⟩
    | true =>
      have hr : 1 ≤ rate ∧ rate ≤ 1000000 := by have := HB.out; simpa using this
      by_cases ht0 : t < 0
      · have hbad : badS rate t 1000000000 := .inr (.inl ht0)
        have ht : decide (t < 0) = true := by simpa using ht0
        go_wp2_with (first | (go_at_call 14; refine (CHECKTEMPO_any _ _ _ _ _ _ l ms hn hn' _ _ (Nat.le_refl _) HPW HPW').mono ?_; rintro e w1 ⟨rfl, hb1⟩; rw [HX.out]; have HB1 := Lib.hid hb1; have hz1 := pcell hb1; have hs1 := hb1.size; have hg1 : gx < w1.heap.size := (by omega); clear hb1) | (go_at_call 33; refine (ISRATET_any _ _).mono ?_; rintro e w2 ⟨rfl, rfl⟩; rw [HB.out]))
        go_ret2
        exact ⟨by unfold retS sampS; rw [HX.out, if_neg (by simp), if_pos hbad]; rfl, HBW.out.trans (HB1.out.mono (by rw [← HGX.out]; omega))⟩
      by_cases ht1 : 1000000000 < t
      · have hbad : badS rate t 1000000000 := .inr (.inr ht1)
        have ht : decide (t < 0) = false := by simpa using ht0
        have ht2 : decide (t > 1000000000) = true := by simpa using ht1
        go_wp2_with (first | (go_at_call 14; refine (CHECKTEMPO_any _ _ _ _ _ _ l ms hn hn' _ _ (Nat.le_refl _) HPW HPW').mono ?_; rintro e w1 ⟨rfl, hb1⟩; rw [HX.out]; have HB1 := Lib.hid hb1; have hz1 := pcell hb1; have hs1 := hb1.size; have hg1 : gx < w1.heap.size := (by omega); clear hb1) | (go_at_call 33; refine (ISRATET_any _ _).mono ?_; rintro e w2 ⟨rfl, rfl⟩; rw [HB.out]))
        go_ret2
        exact ⟨by unfold retS sampS; rw [HX.out, if_neg (by simp), if_pos hbad]; rfl, HBW.out.trans (HB1.out.mono (by rw [← HGX.out]; omega))⟩
      have ht : decide (t < 0) = false := by simpa using ht0
      have ht2 : decide (t > 1000000000) = false := by simpa using ht1
      have hgood : ¬ badS rate t 1000000000 := by unfold badS; omega
      have HGOOD := Lib.hid hgood
      obtain ⟨hm0, hm1⟩ := mom_top HOK.out (t := t) (by omega) (by omega)
      obtain ⟨M, hM⟩ : ∃ M : Nat, mom t l = (M : Int) := ⟨(mom t l).toNat, by omega⟩
      obtain ⟨R, rfl⟩ : ∃ R : Nat, rate = (R : Int) := ⟨rate.toNat, by omega⟩
      have HM := Lib.hid hM
      rw [hM] at hm0 hm1
      clear hgood hM
      obtain ⟨hr1, hr2⟩ := hr
      have hM64 : M < 18446744073709551616 := by omega
      have hR64 : R < 18446744073709551616 := by omega
      obtain ⟨N, hN⟩ : ∃ N, M * R = N := ⟨_, rfl⟩
      have hNtop : N ≤ 60000000000000000 * 1000000 := by rw [← hN]; exact Nat.mul_le_mul (by omega) (by omega)
      obtain ⟨Q, hQ⟩ : ∃ Q, N / 960000000 = Q := ⟨_, rfl⟩
      obtain ⟨r, hr⟩ : ∃ r, N % 960000000 = r := ⟨_, rfl⟩
      have hQtop : Q ≤ 62500000000000 := by omega
      have hNhi : N / 18446744073709551616 < 960000000 := by omega
      have HC : Hid (ceilB N = Q + (if r = 0 then 0 else 1)) := by show _ = _; unfold ceilB; rw [hQ, hr]
      have HN := Lib.hid hN
      have HQ := Lib.hid hQ
      have HR := Lib.hid hr
      have HD := Lib.hid hNhi
      have HM64 := Lib.hid hM64
      have HR64 := Lib.hid hR64
      have hts : (0 : Int) ≤ t ∧ t ≤ 1000000000 := by omega
      have HT := Lib.hid hts
      have HRN : Hid (sampS l ms (R : Int) t = if 10000000000000 < ceilB N then (0, 1) else (((ceilB N : Nat) : Int), 0)) := by
        show _ = _
        unfold sampS
        rw [HX.out, if_neg (by simp), if_neg HGOOD.out, HM.out]
        simp only [Int.toNat_natCast, hN]
      have hR0 : (0 : Int) ≤ (R : Int) := by omega
      have hRt : (R : Int) ≤ 1000000 := hr2
      clear hNtop hNhi hM64 hR64 hN hQ hr hts ht0 ht1 hr1 hr2
      go_upto_region 6 with (first
        | (go_at_call 14; refine (CHECKTEMPO_any _ _ _ _ _ _ l ms hn hn' _ _ (Nat.le_refl _) HPW HPW').mono ?_; rintro e w1 ⟨rfl, hb1⟩; rw [HX.out]; have HB1 := Lib.hid hb1; have hz1 := pcell hb1; have hs1 := hb1.size; have hg1 : gx < w1.heap.size := (by omega); clear hb1)
        | (go_at_call 33; refine (ISRATET_any _ _).mono ?_; rintro e w2 ⟨rfl, rfl⟩; rw [HB.out]))
      have hy0 := (hz1 ⟨gx, 0, none⟩ hgW).trans hW0
      have hy1 := (hz1 ⟨gx, 1, none⟩ hgW).trans hW1
      clear hz1 hW0 hW1
      obtain ⟨mi, hmi⟩ : ∃ mi : Int, mi = (M : Int) := ⟨_, rfl⟩
      obtain ⟨ri, hri⟩ : ∃ ri : Int, ri = (R : Int) := ⟨_, rfl⟩
      have HMI := Lib.hid hmi
      have HRI := Lib.hid hri
      have hcm : IntKind.u64.wrap mi = mi := by rw [hmi]; exact u64_wrap M HM64.out
      have hcr : IntKind.u64.wrap ri = ri := by rw [hri]; exact u64_wrap R HR64.out
      obtain ⟨hi, hhi⟩ : ∃ hi : Int, hi = ((N / 18446744073709551616 : Nat) : Int) := ⟨_, rfl⟩
      obtain ⟨lo, hlo⟩ : ∃ lo : Int, lo = ((N % 18446744073709551616 : Nat) : Int) := ⟨_, rfl⟩
      obtain ⟨qi, hqi⟩ : ∃ qi : Int, qi = ((Q : Nat) : Int) := ⟨_, rfl⟩
      obtain ⟨ui, hui⟩ : ∃ ui : Int, ui = ((r : Nat) : Int) := ⟨_, rfl⟩
      have HMUL : Hid (∀ V : World, Calls Tryd.prog 34 #[.int .u64 mi, .int .u64 ri] V fun e w' => e = .returned (.tuple #[.int .u64 hi, .int .u64 lo]) ∧ V = w') := fun V => by
        rw [hmi, hri, hhi, hlo, ← HN.out]
        exact (Tryd.bits_Mul64 M R HM64.out HR64.out V).mono fun e w' ⟨h1, h2⟩ => ⟨h1, h2.symm⟩
      have HDIV : Hid (∀ V : World, Calls Tryd.prog 36 #[.int .u64 hi, .int .u64 lo, .int .u64 960000000] V fun e w' => e = .returned (.tuple #[.int .u64 qi, .int .u64 ui]) ∧ ∃ q, w' = V.drewN q) := fun V => by
        rw [hhi, hlo, hqi, hui, ← HQ.out, ← HR.out]
        exact DIV64_any N HD.out V
      have HCI : Hid ((ceilB N : Int) = qi + (if ui = 0 then 0 else 1) ∧ 0 ≤ qi ∧ qi ≤ 62500000000000 ∧ 0 ≤ ui) := by
        refine ⟨?_, by omega, by omega, by omega⟩
        rw [HC.out, hqi, hui]
        by_cases h : r = 0
        · rw [if_pos h, if_pos (by omega)]; omega
        · rw [if_neg h, if_neg (by omega)]; omega
      clear hhi hlo hqi hui HN HQ HR HD HM64 HR64 HC hQtop
      clear hmi hm0 hm1 hR0 hRt
      rw [← hri]
      clear hri
      go_wp2_with (first
        | (go_at_call 35; refine (MOMENT_any _ _ _ _ _ _ l t HT.out.1 HT.out.2 HOK _ _ (Nat.le_refl _) (HPW.out.below HB1.out (Nat.le_refl _) |>.mono hs1)).mono ?_; rintro e w3 ⟨rfl, hb3⟩; rw [HM.out, ← HMI.out]; have HB3 := Lib.hid hb3; clear hb3)
        | (go_at_call 34; refine (HMUL.out _).mono ?_; rintro e w4 ⟨rfl, rfl⟩)
        | (go_at_call 36; refine (HDIV.out _).mono ?_; rintro e w5 ⟨rfl, q5, rfl⟩))
      all_goals (go_ret2; refine ⟨?_, HBW.out.trans ((HB1.out.trans ((belowN HB3.out q5).mono hs1)).mono (by have := HSW.out; have := HGX.out; omega))⟩; rw [HRN.out]; obtain ⟨h1, h2, h3, h4⟩ := HCI.out)
      all_goals have e5 : IntKind.u64.wrap (qi + 1) = qi + 1 := IntWalk.u64_in _ (by omega)
      · have g1 : 0 < ui := by assumption
        have g2 : 10000000000000 < IntKind.u64.wrap (qi + 1) := by assumption
        rw [if_neg (by omega)] at h1
        rw [e5] at g2
        rw [if_pos (by omega)]; rfl
      · have g1 : 0 < ui := by assumption
        have g2 : IntKind.u64.wrap (qi + 1) ≤ 10000000000000 := by assumption
        rw [if_neg (by omega)] at h1
        rw [e5] at g2
        rw [if_neg (by omega)]
        exact congrArg (fun z => retS (z, 0)) (show wrap64 (IntKind.u64.wrap (qi + 1)) = (ceilB N : Int) by rw [e5, h1]; exact IntWalk.wrap64_in _ (by omega))
      · have g1 : ui ≤ 0 := by assumption
        have g2 : 10000000000000 < qi := by assumption
        rw [if_pos (by omega)] at h1
        rw [if_pos (by omega)]; rfl
      · have g1 : ui ≤ 0 := by assumption
        have g2 : qi ≤ 10000000000000 := by assumption
        rw [if_pos (by omega)] at h1
        rw [if_neg (by omega)]
        exact congrArg (fun z => retS (z, 0)) (show wrap64 qi = (ceilB N : Int) by rw [h1, Int.add_zero]; exact IntWalk.wrap64_in _ (by omega))
  · have hxb : (x != 0) = true := by simpa using hx0
    go_wp2_with (first | (go_at_call 14; refine (CHECKTEMPO_any _ _ _ _ _ _ l ms hn hn' _ _ (Nat.le_refl _) HPW HPW').mono ?_; rintro e w1 ⟨rfl, hb1⟩; rw [HX.out]; have HB1 := Lib.hid hb1; have hz1 := pcell hb1; have hs1 := hb1.size; have hg1 : gx < w1.heap.size := (by omega); clear hb1) | (go_at_call 33; refine (ISRATET_any _ _).mono ?_; rintro e w2 ⟨rfl, rfl⟩; rw [HB.out]))
    go_ret2
    exact ⟨by unfold retS sampS; rw [HX.out, if_pos hx0]; rfl, HBW.out.trans (HB1.out.mono (by rw [← HGX.out]; omega))⟩
end Go.Proofs.YthjmhdnamhifjaaDoor

/- TickAt, walked. -/
set_option linter.unusedSimpArgs false
set_option linter.unusedVariables false
namespace Go.Proofs.YthjmhdnamhifjaaDoor
open Go.RowKit Go.Dw
/-- the moment of tick t is not after sample s -/
def notAfter (l : List Pr) (rate s : Int) (t : Nat) : Prop := (mom t l).toNat * rate.toNat ≤ s.toNat * 960000000
/-- TickAt -/
def OutT (l ms : List Pr) (rate s : Int) (p : Int × Int) : Prop :=
  if chkT l ms ≠ 0 then p = (0, chkT l ms) else if badS rate s 10000000000000 then p = (0, 1) else
  ∃ t : Nat, p = ((t : Int), 0) ∧ t ≤ 1000000000 ∧ notAfter l rate s t ∧ (t = 1000000000 ∨ ¬ notAfter l rate s (t + 1))
theorem cmp_hi (N T : Nat) : (((N / 18446744073709551616 : Nat) : Int) < ((T / 18446744073709551616 : Nat) : Int) → N ≤ T) ∧ (((N / 18446744073709551616 : Nat) : Int) = ((T / 18446744073709551616 : Nat) : Int) → ((N % 18446744073709551616 : Nat) : Int) ≤ ((T % 18446744073709551616 : Nat) : Int) → N ≤ T) ∧
    (((N / 18446744073709551616 : Nat) : Int) = ((T / 18446744073709551616 : Nat) : Int) → ¬ ((N % 18446744073709551616 : Nat) : Int) ≤ ((T % 18446744073709551616 : Nat) : Int) → ¬ N ≤ T) ∧ (¬ ((N / 18446744073709551616 : Nat) : Int) < ((T / 18446744073709551616 : Nat) : Int) → ((N / 18446744073709551616 : Nat) : Int) ≠ ((T / 18446744073709551616 : Nat) : Int) → ¬ N ≤ T) := by
  refine ⟨fun h => by omega, fun h1 h2 => by omega, fun h1 h2 => by omega, fun h1 h2 => by omega⟩
set_option maxRecDepth 100000 in
set_option maxHeartbeats 8000000 in
theorem TICKAT_any (A A' : Option Addr) (n c n' c' : Nat) (l ms : List Pr) (rate s : Int) (hn : n ≤ 8796093022207) (hn' : n' ≤ 8796093022207) (w : World) (B : Nat) (hB : B ≤ w.heap.size) (hh : Hid (PrsAt w B A n l)) (hh' : Hid (PrsAt w B A' n' ms)) :
    Calls Tryd.prog 12 #[.agg #[.slice A n c, .slice A' n' c'], .int .i64 rate, .int .i64 s] w fun e w' => ∃ p, e = retS p ∧ OutT l ms rate s p ∧ Below w.heap.size w w' := by
  obtain ⟨W, hW⟩ : ∃ W, W = w.alloc (.cells #[.slice A n c, .slice A' n' c'] 36) := ⟨_, rfl⟩
  have HBW : Hid (Below w.heap.size w W) := by show Below _ _ _; rw [hW]; exact (Below.refl _ w).alloc (Nat.le_refl _) _
  have HSW : Hid (w.heap.size + 1 = W.heap.size) := by show _ = _; rw [hW]; simp
  have hW0 : W.cell? ⟨w.heap.size, 0, none⟩ = some (.slice A n c) := by rw [hW]; simp [go_sem]
  have hW1 : W.cell? ⟨w.heap.size, 1, none⟩ = some (.slice A' n' c') := by rw [hW]; simp [go_sem]
  have HPW : Hid (PrsAt W W.heap.size A n l) := (hh.out.below HBW.out hB).mono (by have := HSW.out; omega)
  have HPW' : Hid (PrsAt W W.heap.size A' n' ms) := (hh'.out.below HBW.out hB).mono (by have := HSW.out; omega)
  go_enter Tryd.func12, Tryd.ntmps12
  go_upto_region 1 with (fail)
  rw [← hW]
  clear hW
  obtain ⟨gx, hgx⟩ : ∃ gx, gx = w.heap.size := ⟨_, rfl⟩
  rw [← hgx] at HSW hW0 hW1 ⊢
  have hgW : gx < W.heap.size := by have := HSW.out; omega
  have HGX := Lib.hid hgx
  clear hgx
  obtain ⟨x, hx⟩ : ∃ x, chkT l ms = x := ⟨_, rfl⟩
  have HX := Lib.hid hx
  clear hx
  by_cases hx0 : x = 0
  · subst hx0
    obtain ⟨b, hb⟩ : ∃ b, (decide (1 ≤ rate) && decide (rate ≤ 1000000)) = b := ⟨_, rfl⟩
    have HB := Lib.hid hb
    obtain ⟨hoks, _⟩ := okP_chkT HX.out
    have HOK := Lib.hid hoks
    clear hoks hb
    cases b with
    | false =>
      have hbad : badS rate s 10000000000000 := .inl fun h => by have := HB.out; simp [h.1, h.2] at this
      go_wp2_with (first | (go_at_call 14; refine (CHECKTEMPO_any _ _ _ _ _ _ l ms hn hn' _ _ (Nat.le_refl _) HPW HPW').mono ?_; rintro e w1 ⟨rfl, hb1⟩; rw [HX.out]; have HB1 := Lib.hid hb1; have hz1 := pcell hb1; have hs1 := hb1.size; have hg1 : gx < w1.heap.size := (by omega); clear hb1) | (go_at_call 33; refine (ISRATET_any _ _).mono ?_; rintro e w2 ⟨rfl, rfl⟩; rw [HB.out]))
      go_ret2
      exact ⟨(0, 1), rfl, by unfold OutT; rw [HX.out, if_neg (by simp), if_pos hbad], HBW.out.trans (HB1.out.mono (by rw [← HGX.out]; omega))⟩
    | true =>
      have hr : 1 ≤ rate ∧ rate ≤ 1000000 := by have := HB.out; simpa using this
      by_cases ht0 : s < 0
      · have hbad : badS rate s 10000000000000 := .inr (.inl ht0)
        have ht : decide (s < 0) = true := by simpa using ht0
        go_wp2_with (first | (go_at_call 14; refine (CHECKTEMPO_any _ _ _ _ _ _ l ms hn hn' _ _ (Nat.le_refl _) HPW HPW').mono ?_; rintro e w1 ⟨rfl, hb1⟩; rw [HX.out]; have HB1 := Lib.hid hb1; have hz1 := pcell hb1; have hs1 := hb1.size; have hg1 : gx < w1.heap.size := (by omega); clear hb1) | (go_at_call 33; refine (ISRATET_any _ _).mono ?_; rintro e w2 ⟨rfl, rfl⟩; rw [HB.out]))
        go_ret2
        exact ⟨(0, 1), rfl, by unfold OutT; rw [HX.out, if_neg (by simp), if_pos hbad], HBW.out.trans (HB1.out.mono (by rw [← HGX.out]; omega))⟩
      by_cases ht1 : 10000000000000 < s
      · have hbad : badS rate s 10000000000000 := .inr (.inr ht1)
        have ht : decide (s < 0) = false := by simpa using ht0
        have ht2 : decide (s > 10000000000000) = true := by simpa using ht1
        go_wp2_with (first | (go_at_call 14; refine (CHECKTEMPO_any _ _ _ _ _ _ l ms hn hn' _ _ (Nat.le_refl _) HPW HPW').mono ?_; rintro e w1 ⟨rfl, hb1⟩; rw [HX.out]; have HB1 := Lib.hid hb1; have hz1 := pcell hb1; have hs1 := hb1.size; have hg1 : gx < w1.heap.size := (by omega); clear hb1) | (go_at_call 33; refine (ISRATET_any _ _).mono ?_; rintro e w2 ⟨rfl, rfl⟩; rw [HB.out]))
        go_ret2
        exact ⟨(0, 1), rfl, by unfold OutT; rw [HX.out, if_neg (by simp), if_pos hbad], HBW.out.trans (HB1.out.mono (by rw [← HGX.out]; omega))⟩
      have ht : decide (s < 0) = false := by simpa using ht0
      have ht2 : decide (s > 10000000000000) = false := by simpa using ht1
      have hgood : ¬ badS rate s 10000000000000 := by unfold badS; omega
      have HGOOD := Lib.hid hgood
      obtain ⟨R, rfl⟩ : ∃ R : Nat, rate = (R : Int) := ⟨rate.toNat, by omega⟩
      obtain ⟨S, hS⟩ : ∃ S : Nat, s = (S : Int) := ⟨s.toNat, by omega⟩
      have hSt : S ≤ 10000000000000 := by omega
      have hcs : IntKind.u64.wrap s = s := by rw [hS]; exact u64_wrap S (by omega)
      obtain ⟨T, hT⟩ : ∃ T, S * 960000000 = T := ⟨_, rfl⟩
      obtain ⟨Hi, hHi⟩ : ∃ Hi : Int, Hi = ((T / 18446744073709551616 : Nat) : Int) := ⟨_, rfl⟩
      obtain ⟨Lo, hLo⟩ : ∃ Lo : Int, Lo = ((T % 18446744073709551616 : Nat) : Int) := ⟨_, rfl⟩
      have HMUL : Hid (∀ V : World, Calls Tryd.prog 34 #[.int .u64 s, .int .u64 960000000] V fun e w' => e = .returned (.tuple #[.int .u64 Hi, .int .u64 Lo]) ∧ V = w') := fun V => by
        rw [hS, hHi, hLo, ← hT]
        exact (Tryd.bits_Mul64 S 960000000 (by omega) (by omega) V).mono fun e w' ⟨h1, h2⟩ => ⟨h1, h2.symm⟩
      have HHI := Lib.hid hHi
      have HLO := Lib.hid hLo
      have HTT := Lib.hid hT
      have HSS := Lib.hid hS
      have HRR := Lib.hid hr
      clear hHi hLo hT hS hSt hr ht0 ht1
      go_wp2_with (first
        | (go_at_call 14; refine (CHECKTEMPO_any _ _ _ _ _ _ l ms hn hn' _ _ (Nat.le_refl _) HPW HPW').mono ?_; rintro e w1 ⟨rfl, hb1⟩; rw [HX.out]; have HB1 := Lib.hid hb1; have hz1 := pcell hb1; have hs1 := hb1.size; have hg1 : gx < w1.heap.size := (by omega); clear hb1)
        | (go_at_call 33; refine (ISRATET_any _ _).mono ?_; rintro e w2 ⟨rfl, rfl⟩; rw [HB.out])
        | (go_at_call 34; refine (HMUL.out _).mono ?_; rintro e w4 ⟨rfl, rfl⟩))
      have HY0 : Hid (w1.cell? ⟨gx, 0, none⟩ = some (.slice A n c)) := (hz1 ⟨gx, 0, none⟩ hgW).trans hW0
      have HY1 : Hid (w1.cell? ⟨gx, 1, none⟩ = some (.slice A' n' c')) := (hz1 ⟨gx, 1, none⟩ hgW).trans hW1
      have HP1 : Hid (PrsAt w1 w1.heap.size A n l) := (HPW.out.below HB1.out (Nat.le_refl _)).mono hs1
      obtain ⟨ri, hri⟩ : ∃ ri : Int, ri = (R : Int) := ⟨_, rfl⟩
      have HRI := Lib.hid hri
      have hcr : IntKind.u64.wrap ri = ri := by rw [hri]; exact u64_wrap R (by have := HRR.out.2; omega)
      rw [← hri]
      clear hri hz1 hW0 hW1 HMUL hcs ht ht2 hgood HPW HPW'
      have hP0 : notAfter l (R : Int) s 0 := by
        unfold notAfter
        have h2 := HOK.out.first
        have h1 := HOK.out.some
        obtain ⟨p, r, e⟩ : ∃ p r, l = p :: r := by cases l with | nil => simp at h1 | cons p r => exact ⟨p, r, rfl⟩
        have h3 : p.1 = 0 := by rw [e] at h2; exact h2
        rw [e, show ((0 : Nat) : Int) = 0 from rfl, mom_low (by omega)]
        simp
      go_loopw [11, 12] (fun v u wr => ∃ lo hi : Nat, lo ≤ hi ∧ hi ≤ 1000000000 ∧ v = .int .i64 lo ∧ u = .int .i64 hi ∧ Hid (notAfter l (R : Int) s lo) ∧ Hid (hi = 1000000000 ∨ ¬ notAfter l (R : Int) s (hi + 1)) ∧ Hid (Below w1.heap.size w1 wr)) (fun v u _ => (intOf u).toNat - (intOf v).toNat)
      case atStart => exact ⟨0, 1000000000, by omega, by omega, rfl, rfl, hP0, .inl rfl, Below.refl _ _⟩
      case round =>
        obtain ⟨lo, hi, hle, hhi, rfl, rfl, HLw, HUp, hb⟩ := hrel
        have hy0 : wr.cell? ⟨gx, 0, none⟩ = some (.slice A n c) := (hb.out.cell (p := ⟨gx, 0, none⟩) hg1).trans HY0.out
        have hy1 : wr.cell? ⟨gx, 1, none⟩ = some (.slice A' n' c') := (hb.out.cell (p := ⟨gx, 1, none⟩) hg1).trans HY1.out
        have hgr : gx < wr.heap.size := Nat.lt_of_lt_of_le hg1 hb.out.size
        clear hP0 hs1
        by_cases hlt : lo < hi
        · obtain ⟨t, ht⟩ : ∃ t, (lo + hi + 1) / 2 = t := ⟨_, rfl⟩
          have hltI : (lo : Int) < (hi : Int) := by omega
          go_upto_region 10 with (fail)
          rw [show ((lo : Int) + (hi : Int) + 1) / 2 = (t : Int) by omega]
          have htl : lo < t := by omega
          have hth : t ≤ hi := by omega
          obtain ⟨ti, hti⟩ : ∃ ti : Int, ti = (t : Int) := ⟨_, rfl⟩
          have HTI := Lib.hid hti
          rw [← hti]
          have hts : (0 : Int) ≤ ti ∧ ti ≤ 1000000000 := by omega
          have HTS := Lib.hid hts
          obtain ⟨hm0, hm1⟩ := mom_top HOK.out hts.1 hts.2
          obtain ⟨mi, hmi⟩ : ∃ mi : Int, mi = mom ti l := ⟨_, rfl⟩
          obtain ⟨M, hM⟩ : ∃ M : Nat, mi = (M : Int) := ⟨mi.toNat, by omega⟩
          have hM64 : M < 18446744073709551616 := by omega
          have hR64 : R < 18446744073709551616 := by have := HRR.out.2; omega
          obtain ⟨N, hN⟩ : ∃ N, M * R = N := ⟨_, rfl⟩
          obtain ⟨hI, hhI⟩ : ∃ hI : Int, hI = ((N / 18446744073709551616 : Nat) : Int) := ⟨_, rfl⟩
          obtain ⟨lI, hlI⟩ : ∃ lI : Int, lI = ((N % 18446744073709551616 : Nat) : Int) := ⟨_, rfl⟩
          have HMUL : Hid (∀ V : World, Calls Tryd.prog 34 #[.int .u64 mi, .int .u64 ri] V fun e w' => e = .returned (.tuple #[.int .u64 hI, .int .u64 lI]) ∧ V = w') := fun V => by
            rw [hM, HRI.out, hhI, hlI, ← hN]
            exact (Tryd.bits_Mul64 M R hM64 hR64 V).mono fun e w' ⟨h1, h2⟩ => ⟨h1, h2.symm⟩
          have hcm : IntKind.u64.wrap mi = mi := by rw [hM]; exact u64_wrap M hM64
          have HNA : Hid (notAfter l (R : Int) s t ↔ N ≤ T) := by
            show _ ↔ _
            unfold notAfter
            rw [← hti, ← hmi, hM, HSS.out]
            simp only [Int.toNat_natCast, hN, HTT.out]
          have HMI := Lib.hid hmi
          have HYES : Hid (N ≤ T → ∀ wx, Below w1.heap.size w1 wx → ∃ lo' hi' : Nat, lo' ≤ hi' ∧ hi' ≤ 1000000000 ∧ Value.int .i64 ti = .int .i64 lo' ∧ Value.int .i64 (hi : Int) = .int .i64 hi' ∧ Hid (notAfter l (R : Int) s lo') ∧ Hid (hi' = 1000000000 ∨ ¬ notAfter l (R : Int) s (hi' + 1)) ∧ Hid (Below w1.heap.size w1 wx)) :=
            fun h wx hwx => ⟨t, hi, hth, hhi, by rw [hti], rfl, HNA.out.2 h, HUp, hwx⟩
          have HNO : Hid (¬ N ≤ T → ∀ wx, Below w1.heap.size w1 wx → ∃ lo' hi' : Nat, lo' ≤ hi' ∧ hi' ≤ 1000000000 ∧ Value.int .i64 (lo : Int) = .int .i64 lo' ∧ Value.int .i64 (ti - 1) = .int .i64 hi' ∧ Hid (notAfter l (R : Int) s lo') ∧ Hid (hi' = 1000000000 ∨ ¬ notAfter l (R : Int) s (hi' + 1)) ∧ Hid (Below w1.heap.size w1 wx)) :=
            fun h wx hwx => ⟨lo, t - 1, by omega, by omega, rfl, by rw [hti, show (t : Int) - 1 = ((t - 1 : Nat) : Int) by omega], HLw, .inr (by show ¬ notAfter l (R : Int) s (t - 1 + 1); rw [show t - 1 + 1 = t by omega]; exact fun h9 => h (HNA.out.1 h9)), hwx⟩
          have HMS1 : Hid ((intOf (.int .i64 (hi : Int))).toNat - (intOf (.int .i64 ti)).toNat < (intOf (.int .i64 (hi : Int))).toNat - (intOf (.int .i64 (lo : Int))).toNat) := by show _ < _; simp [intOf]; omega
          have HMS2 : Hid ((intOf (.int .i64 (ti - 1))).toNat - (intOf (.int .i64 (lo : Int))).toNat < (intOf (.int .i64 (hi : Int))).toNat - (intOf (.int .i64 (lo : Int))).toNat) := by show _ < _; simp [intOf]; omega
          have hcmp : (hI < Hi → N ≤ T) ∧ (hI = Hi → lI ≤ Lo → N ≤ T) ∧ (hI = Hi → ¬ lI ≤ Lo → ¬ N ≤ T) ∧ (¬ hI < Hi → hI ≠ Hi → ¬ N ≤ T) := by rw [hhI, hlI, HHI.out, HLO.out]; exact cmp_hi N T
          have HCMP := Lib.hid hcmp
          have hti1 : 1 ≤ ti := by omega
          have hti2 : ti ≤ 1000000000 := hts.2
          clear hcmp hti hts hm0 hm1 hmi hM hM64 hR64 hN hhI hlI ht htl hth
          by_cases c1 : hI < Hi
          · have HLE := Lib.hid (HCMP.out.1 c1)
            go_wp2_with (first
              | (go_at_call 35; refine (MOMENT_any _ _ _ _ _ _ l ti HTS.out.1 HTS.out.2 HOK _ _ (Nat.le_refl _) (HP1.out.below hb.out (Nat.le_refl _) |>.mono hb.out.size)).mono ?_; rintro e w3 ⟨rfl, hb3⟩; rw [← HMI.out]; have HB3 := Lib.hid (hb.out.trans (hb3.mono hb.out.size)); clear hb3)
              | (go_at_call 34; refine (HMUL.out _).mono ?_; rintro e w4 ⟨rfl, rfl⟩))
            go_roundw
            case rel => exact HYES.out HLE.out _ HB3.out
            case measure => exact HMS1.out
          · by_cases c2 : hI = Hi
            · subst c2
              by_cases c3 : lI ≤ Lo
              · have HLE := Lib.hid (HCMP.out.2.1 rfl c3)
                go_wp2_with (first
                  | (go_at_call 35; refine (MOMENT_any _ _ _ _ _ _ l ti HTS.out.1 HTS.out.2 HOK _ _ (Nat.le_refl _) (HP1.out.below hb.out (Nat.le_refl _) |>.mono hb.out.size)).mono ?_; rintro e w3 ⟨rfl, hb3⟩; rw [← HMI.out]; have HB3 := Lib.hid (hb.out.trans (hb3.mono hb.out.size)); clear hb3)
                  | (go_at_call 34; refine (HMUL.out _).mono ?_; rintro e w4 ⟨rfl, rfl⟩))
                go_roundw
                case rel => exact HYES.out HLE.out _ HB3.out
                case measure => exact HMS1.out
              · have HLE := Lib.hid (HCMP.out.2.2.1 rfl c3)
                go_wp2_with (first
                  | (go_at_call 35; refine (MOMENT_any _ _ _ _ _ _ l ti HTS.out.1 HTS.out.2 HOK _ _ (Nat.le_refl _) (HP1.out.below hb.out (Nat.le_refl _) |>.mono hb.out.size)).mono ?_; rintro e w3 ⟨rfl, hb3⟩; rw [← HMI.out]; have HB3 := Lib.hid (hb.out.trans (hb3.mono hb.out.size)); clear hb3)
                  | (go_at_call 34; refine (HMUL.out _).mono ?_; rintro e w4 ⟨rfl, rfl⟩))
                go_roundw
                case rel => exact HNO.out HLE.out _ HB3.out
                case measure => exact HMS2.out
            · have HLE := Lib.hid (HCMP.out.2.2.2 c1 c2)
              have e2 : (hI == Hi) = false := by simpa using c2
              go_wp2_with (first
                | (go_at_call 35; refine (MOMENT_any _ _ _ _ _ _ l ti HTS.out.1 HTS.out.2 HOK _ _ (Nat.le_refl _) (HP1.out.below hb.out (Nat.le_refl _) |>.mono hb.out.size)).mono ?_; rintro e w3 ⟨rfl, hb3⟩; rw [← HMI.out]; have HB3 := Lib.hid (hb.out.trans (hb3.mono hb.out.size)); clear hb3)
                | (go_at_call 34; refine (HMUL.out _).mono ?_; rintro e w4 ⟨rfl, rfl⟩))
              go_roundw
              case rel => exact HNO.out HLE.out _ HB3.out
              case measure => exact HMS2.out
        · obtain rfl : lo = hi := by omega
          go_wp2_with fail
          go_ret2
          exact ⟨((lo : Int), 0), rfl, by unfold OutT; rw [HX.out, if_neg (by simp), if_neg HGOOD.out]; exact ⟨lo, rfl, hhi, HLw.out, HUp.out⟩, HBW.out.trans ((HB1.out.trans (hb.out.mono (HB1.out.size))).mono (by have := HSW.out; have := HGX.out; omega))⟩
  · have hxb : (x != 0) = true := by simpa using hx0
    go_wp2_with (first | (go_at_call 14; refine (CHECKTEMPO_any _ _ _ _ _ _ l ms hn hn' _ _ (Nat.le_refl _) HPW HPW').mono ?_; rintro e w1 ⟨rfl, hb1⟩; rw [HX.out]; have HB1 := Lib.hid hb1; have hz1 := pcell hb1; have hs1 := hb1.size; have hg1 : gx < w1.heap.size := (by omega); clear hb1) | (go_at_call 33; refine (ISRATET_any _ _).mono ?_; rintro e w2 ⟨rfl, rfl⟩; rw [HB.out]))
    go_ret2
    exact ⟨(0, x), rfl, by unfold OutT; rw [HX.out, if_pos hx0], HBW.out.trans (HB1.out.mono (by rw [← HGX.out]; omega))⟩
end Go.Proofs.YthjmhdnamhifjaaDoor

/- The plain law of ticks and samples. No program in sight. -/
set_option linter.unusedSimpArgs false
set_option linter.unusedVariables false
namespace Go.Proofs.YthjmhdnamhifjaaDoor
open Go.RowKit Go.Dw
theorem mom_mono' {l : List Pr} (hok : OkP l) {t u : Int} (h0 : 0 ≤ t) (h : t ≤ u) : mom t l ≤ mom u l := by
  have h1 := hok.some
  have h2 := hok.first
  obtain ⟨p, r, e⟩ : ∃ p r, l = p :: r := by cases l with | nil => simp at h1 | cons p r => exact ⟨p, r, rfl⟩
  have h3 : p.1 = 0 := by rw [e] at h2; exact h2
  have hi := hok.inc
  rw [e] at hi ⊢
  have := mom_mono hi (t := t) (by omega) (u - t).toNat
  rw [show t + ((u - t).toNat : Int) = u by omega] at this
  exact this
/-- what is reckoned at a tick -/
def bigN (l : List Pr) (rate t : Int) : Nat := (mom t l).toNat * rate.toNat
theorem bigN_mono {l : List Pr} (hok : OkP l) {rate t u : Int} (h0 : 0 ≤ t) (h : t ≤ u) : bigN l rate t ≤ bigN l rate u := by
  have := mom_mono' hok h0 h
  exact Nat.mul_le_mul (by omega) (Nat.le_refl _)
theorem samp_err {l ms : List Pr} {rate t : Int} (h : (sampS l ms rate t).2 ≠ 0) : (sampS l ms rate t).1 = 0 := by
  unfold sampS at h ⊢
  split at h <;> rename_i h1
  · rw [if_pos h1]
  rw [if_neg h1]
  split at h <;> rename_i h2
  · rw [if_pos h2]
  rw [if_neg h2]
  split at h <;> rename_i h3
  · rw [if_pos h3]
  exact absurd rfl h
theorem samp_ok {l ms : List Pr} {rate t : Int} (h : (sampS l ms rate t).2 = 0) : chkT l ms = 0 ∧ ¬ badS rate t 1000000000 ∧ ceilB (bigN l rate t) ≤ 10000000000000 ∧ sampS l ms rate t = (((ceilB (bigN l rate t) : Nat) : Int), 0) := by
  unfold sampS at h ⊢
  split at h <;> rename_i h1
  · exact absurd h h1
  rw [if_neg h1]
  split at h <;> rename_i h2
  · cases h
  rw [if_neg h2]
  split at h <;> rename_i h3
  · cases h
  rw [if_neg h3]
  refine ⟨Classical.byContradiction h1, h2, ?_, rfl⟩
  show ceilB ((mom t l).toNat * rate.toNat) ≤ _
  omega
theorem samp_at {l ms : List Pr} {rate t : Int} (h1 : chkT l ms = 0) (h2 : ¬ badS rate t 1000000000) : sampS l ms rate t = if 10000000000000 < ceilB (bigN l rate t) then (0, 1) else (((ceilB (bigN l rate t) : Nat) : Int), 0) := by
  unfold sampS bigN
  rw [if_neg (by rw [h1]; simp), if_neg h2]
theorem tick_law {l ms : List Pr} {rate tick : Int} (h : (sampS l ms rate tick).2 = 0) {p : Int × Int} (hp : OutT l ms rate (sampS l ms rate tick).1 p) :
    p.2 = 0 ∧ tick ≤ p.1 ∧ 0 ≤ p.1 ∧ p.1 ≤ 1000000000 ∧ sampS l ms rate p.1 = ((sampS l ms rate tick).1, 0) ∧
      (p.1 ≠ 1000000000 → sampS l ms rate (p.1 + 1) = (0, 1) ∨ ((sampS l ms rate (p.1 + 1)).2 = 0 ∧ (sampS l ms rate tick).1 < (sampS l ms rate (p.1 + 1)).1)) := by
  obtain ⟨hc, hb, hm, hs⟩ := samp_ok h
  have hok := (okP_chkT hc).1
  rw [hs] at hp ⊢
  obtain ⟨n, hn⟩ : ∃ n, ceilB (bigN l rate tick) = n := ⟨_, rfl⟩
  rw [hn] at hp hm ⊢
  unfold badS at hb
  have hN : bigN l rate tick ≤ n * 960000000 := ceilB_le.1 (by omega)
  unfold OutT at hp
  rw [if_neg (by rw [hc]; simp), if_neg (by unfold badS; dsimp only; omega)] at hp
  obtain ⟨t, rfl, ht1, ht2, ht3⟩ := hp
  unfold notAfter at ht2 ht3
  dsimp only at ht2 ht3 ⊢
  rw [Int.toNat_natCast] at ht2 ht3
  have ht2' : bigN l rate t ≤ n * 960000000 := ht2
  have hge : tick ≤ (t : Int) := by
    refine Classical.byContradiction fun hlt => ?_
    rcases ht3 with h9 | h9
    · omega
    · have h10 := bigN_mono hok (rate := rate) (t := ((t + 1 : Nat) : Int)) (u := tick) (by omega) (by omega)
      have h11 : ¬ bigN l rate ((t + 1 : Nat) : Int) ≤ n * 960000000 := h9
      omega
  have hle := bigN_mono hok (rate := rate) (t := tick) (u := (t : Int)) (by omega) hge
  have hceil : ceilB (bigN l rate (t : Int)) = n := by
    have h1 := ceilB_le.2 ht2'
    have h2 : ¬ ceilB (bigN l rate (t : Int)) < n := fun h9 => by
      have h3 := ceilB_le.1 (show ceilB (bigN l rate (t : Int)) ≤ n - 1 by omega)
      have h4 := ceilB_le.2 (Nat.le_trans hle h3)
      omega
    omega
  refine ⟨rfl, hge, by omega, by omega, ?_, fun hne => ?_⟩
  · rw [samp_at hc (by unfold badS; omega), hceil, if_neg (by omega)]
  · have hne' : t ≠ 1000000000 := by omega
    rw [samp_at hc (by unfold badS; omega)]
    have h11 : ¬ bigN l rate ((t : Int) + 1) ≤ n * 960000000 := by
      rcases ht3 with h9 | h9
      · exact absurd h9 hne'
      · exact h9
    have h12 : n < ceilB (bigN l rate ((t : Int) + 1)) := by
      have := mt ceilB_le.1 h11
      omega
    by_cases hbig : 10000000000000 < ceilB (bigN l rate ((t : Int) + 1))
    · rw [if_pos hbig]; exact .inl rfl
    · rw [if_neg hbig]; exact .inr ⟨rfl, by dsimp only; omega⟩
end Go.Proofs.YthjmhdnamhifjaaDoor
