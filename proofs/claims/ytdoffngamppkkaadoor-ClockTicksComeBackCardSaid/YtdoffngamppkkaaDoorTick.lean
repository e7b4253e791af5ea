/- TickAt, walked. -/
import Derived.Test.YtdoffngamppkkaaDoorSmpW
set_option linter.unusedSimpArgs false
set_option linter.unusedVariables false
namespace Go.Proofs.YtdoffngamppkkaaDoor
open Go.RowKit Go.Dw
/-- the moment of tick t is not after sample s -/
def notAfter (l : List Pr) (rate s : Int) (t : Nat) : Prop := (mom t l).toNat * rate.toNat ≤ s.toNat * 960000000
/-- TickAt -/
def OutT (l ms : List Pr) (rate s : Int) (p : Int × Int) : Prop :=
  if chkT l ms ≠ 0 then p = (0, chkT l ms) else if badS rate s 10000000000000 then p = (0, 1) else
  ∃ t : Nat, p = ((t : Int), 0) ∧ t ≤ 1000000000 ∧ notAfter l rate s t ∧ (t = 1000000000 ∨ ¬ notAfter l rate s (t + 1))
theorem cmp_hi (N T : Nat) : (((N / 18446744073709551616 : Nat) : Int) < ((T / 18446744073709551616 : Nat) : Int) → N ≤ T) ∧ (((N / 18446744073709551616 : Nat) : Int) = ((T / 18446744073709551616 : Nat) : Int) → ((N % 18446744073709551616 : Nat) : Int) ≤ ((T % 18446744073709551616 : Nat) : Int) → N ≤ T) ∧
    (((N / 18446744073709551616 : Nat) : Int) = ((T / 18446744073709551616 : Nat) : Int) → ¬ ((N % 18446744073709551616 : Nat) : Int) ≤ ((T % 18446744073709551616 : Nat) : Int) → ¬ N ≤ T) ∧ (¬ ((N / 18446744073709551616 : Nat) : Int) < ((T / 18446744073709551616 : Nat) : Int) → ((N / 18446744073709551616 : Nat) : Int) ≠ ((T / 18446744073709551616 : Nat) : Int) → ¬ N ≤ T) := by
  refine ⟨fun h => by omega, fun h1 h2 => by omega, fun h1 h2 => by omega, fun h1 h2 => by omega⟩
set_option maxRecDepth 100000 in
set_option maxHeartbeats 8000000 in
theorem TICKAT_any (A A' : Option Addr) (n c n' c' : Nat) (l ms : List Pr) (rate s : Int) (hn : n ≤ 8796093022207) (hn' : n' ≤ 8796093022207) (w : World) (B : Nat) (hB : B ≤ w.heap.size) (hh : Hid (PrsAt w B A n l)) (hh' : Hid (PrsAt w B A' n' ms)) :
    Calls Tryd.prog 10 #[.agg #[.slice A n c, .slice A' n' c'], .int .i64 rate, .int .i64 s] w fun e w' => ∃ p, e = retS p ∧ OutT l ms rate s p ∧ Below w.heap.size w w' := by
  obtain ⟨W, hW⟩ : ∃ W, W = w.alloc (.cells #[.slice A n c, .slice A' n' c'] 25) := ⟨_, rfl⟩
  have HBW : Hid (Below w.heap.size w W) := by show Below _ _ _; rw [hW]; exact (Below.refl _ w).alloc (Nat.le_refl _) _
  have HSW : Hid (w.heap.size + 1 = W.heap.size) := by show _ = _; rw [hW]; simp
  have hW0 : W.cell? ⟨w.heap.size, 0, none⟩ = some (.slice A n c) := by rw [hW]; simp [go_sem]
  have hW1 : W.cell? ⟨w.heap.size, 1, none⟩ = some (.slice A' n' c') := by rw [hW]; simp [go_sem]
  have HPW : Hid (PrsAt W W.heap.size A n l) := (hh.out.below HBW.out hB).mono (by have := HSW.out; omega)
  have HPW' : Hid (PrsAt W W.heap.size A' n' ms) := (hh'.out.below HBW.out hB).mono (by have := HSW.out; omega)
  go_enter Tryd.func10, Tryd.ntmps10
  go_upto_region 1 with (fail)
  rw [← hW]
  clear hW
  obtain ⟨gx, hgx⟩ : ∃ gx, gx = w.heap.size := ⟨_, rfl⟩
  rw [← hgx] at HSW hW0 hW1 ⊢
  have hgW : gx < W.heap.size := by have := HSW.out; omega
  have HGX := Lib.hid hgx
  clear hgx
  obtain ⟨x, hx⟩ : ∃ x, chkT l ms = x := ⟨_, rfl⟩
  have HX := Lib.hid hx
  clear hx
  by_cases hx0 : x = 0
  · subst hx0
    obtain ⟨b, hb⟩ : ∃ b, (decide (1 ≤ rate) && decide (rate ≤ 1000000)) = b := ⟨_, rfl⟩
    have HB := Lib.hid hb
    obtain ⟨hoks, _⟩ := okP_chkT HX.out
    have HOK := Lib.hid hoks
    clear hoks hb
    cases b with
    | false =>
      have hbad : badS rate s 10000000000000 := .inl fun h => by have := HB.out; simp [h.1, h.2] at this
      go_wp2_with (first | (go_at_call 26; refine (CHECKTEMPO_any _ _ _ _ _ _ l ms hn hn' _ _ (Nat.le_refl _) HPW HPW').mono ?_; rintro e w1 ⟨rfl, hb1⟩; rw [HX.out]; have HB1 := Lib.hid hb1; have hz1 := pcell hb1; have hs1 := hb1.size; have hg1 : gx < w1.heap.size := (by omega); clear hb1) | (go_at_call 27; refine (ISRATE_any _ _).mono ?_; rintro e w2 ⟨rfl, rfl⟩; rw [HB.out]))
      go_ret2
      exact ⟨(0, 1), rfl, by unfold OutT; rw [HX.out, if_neg (by simp), if_pos hbad], HBW.out.trans (HB1.out.mono (by rw [← HGX.out]; omega))⟩
    | true =>
      have hr : 1 ≤ rate ∧ rate ≤ 1000000 := by have := HB.out; simpa using this
      by_cases ht0 : s < 0
      · have hbad : badS rate s 10000000000000 := .inr (.inl ht0)
        have ht : decide (s < 0) = true := by simpa using ht0
        go_wp2_with (first | (go_at_call 26; refine (CHECKTEMPO_any _ _ _ _ _ _ l ms hn hn' _ _ (Nat.le_refl _) HPW HPW').mono ?_; rintro e w1 ⟨rfl, hb1⟩; rw [HX.out]; have HB1 := Lib.hid hb1; have hz1 := pcell hb1; have hs1 := hb1.size; have hg1 : gx < w1.heap.size := (by omega); clear hb1) | (go_at_call 27; refine (ISRATE_any _ _).mono ?_; rintro e w2 ⟨rfl, rfl⟩; rw [HB.out]))
        go_ret2
        exact ⟨(0, 1), rfl, by unfold OutT; rw [HX.out, if_neg (by simp), if_pos hbad], HBW.out.trans (HB1.out.mono (by rw [← HGX.out]; omega))⟩
      by_cases ht1 : 10000000000000 < s
      · have hbad : badS rate s 10000000000000 := .inr (.inr ht1)
        have ht : decide (s < 0) = false := by simpa using ht0
        have ht2 : decide (s > 10000000000000) = true := by simpa using ht1
        go_wp2_with (first | (go_at_call 26; refine (CHECKTEMPO_any _ _ _ _ _ _ l ms hn hn' _ _ (Nat.le_refl _) HPW HPW').mono ?_; rintro e w1 ⟨rfl, hb1⟩; rw [HX.out]; have HB1 := Lib.hid hb1; have hz1 := pcell hb1; have hs1 := hb1.size; have hg1 : gx < w1.heap.size := (by omega); clear hb1) | (go_at_call 27; refine (ISRATE_any _ _).mono ?_; rintro e w2 ⟨rfl, rfl⟩; rw [HB.out]))
        go_ret2
        exact ⟨(0, 1), rfl, by unfold OutT; rw [HX.out, if_neg (by simp), if_pos hbad], HBW.out.trans (HB1.out.mono (by rw [← HGX.out]; omega))⟩
      have ht : decide (s < 0) = false := by simpa using ht0
      have ht2 : decide (s > 10000000000000) = false := by simpa using ht1
      have hgood : ¬ badS rate s 10000000000000 := by unfold badS; omega
      have HGOOD := Lib.hid hgood
      obtain ⟨R, rfl⟩ : ∃ R : Nat, rate = (R : Int) := ⟨rate.toNat, by omega⟩
      obtain ⟨S, hS⟩ : ∃ S : Nat, s = (S : Int) := ⟨s.toNat, by omega⟩
      have hSt : S ≤ 10000000000000 := by omega
      have hcs : IntKind.u64.wrap s = s := by rw [hS]; exact u64_wrap S (by omega)
      obtain ⟨T, hT⟩ : ∃ T, S * 960000000 = T := ⟨_, rfl⟩
      obtain ⟨Hi, hHi⟩ : ∃ Hi : Int, Hi = ((T / 18446744073709551616 : Nat) : Int) := ⟨_, rfl⟩
      obtain ⟨Lo, hLo⟩ : ∃ Lo : Int, Lo = ((T % 18446744073709551616 : Nat) : Int) := ⟨_, rfl⟩
      have HMUL : Hid (∀ V : World, Calls Tryd.prog 28 #[.int .u64 s, .int .u64 960000000] V fun e w' => e = .returned (.tuple #[.int .u64 Hi, .int .u64 Lo]) ∧ V = w') := fun V => by
        rw [hS, hHi, hLo, ← hT]
        exact (Tryd.bits_Mul64 S 960000000 (by omega) (by omega) V).mono fun e w' ⟨h1, h2⟩ => ⟨h1, h2.symm⟩
      have HHI := Lib.hid hHi
      have HLO := Lib.hid hLo
      have HTT := Lib.hid hT
      have HSS := Lib.hid hS
      have HRR := Lib.hid hr
      clear hHi hLo hT hS hSt hr ht0 ht1
      go_wp2_with (first
        | (go_at_call 26; refine (CHECKTEMPO_any _ _ _ _ _ _ l ms hn hn' _ _ (Nat.le_refl _) HPW HPW').mono ?_; rintro e w1 ⟨rfl, hb1⟩; rw [HX.out]; have HB1 := Lib.hid hb1; have hz1 := pcell hb1; have hs1 := hb1.size; have hg1 : gx < w1.heap.size := (by omega); clear hb1)
        | (go_at_call 27; refine (ISRATE_any _ _).mono ?_; rintro e w2 ⟨rfl, rfl⟩; rw [HB.out])
        | (go_at_call 28; refine (HMUL.out _).mono ?_; rintro e w4 ⟨rfl, rfl⟩))
      have HY0 : Hid (w1.cell? ⟨gx, 0, none⟩ = some (.slice A n c)) := (hz1 ⟨gx, 0, none⟩ hgW).trans hW0
      have HY1 : Hid (w1.cell? ⟨gx, 1, none⟩ = some (.slice A' n' c')) := (hz1 ⟨gx, 1, none⟩ hgW).trans hW1
      have HP1 : Hid (PrsAt w1 w1.heap.size A n l) := (HPW.out.below HB1.out (Nat.le_refl _)).mono hs1
      obtain ⟨ri, hri⟩ : ∃ ri : Int, ri = (R : Int) := ⟨_, rfl⟩
      have HRI := Lib.hid hri
      have hcr : IntKind.u64.wrap ri = ri := by rw [hri]; exact u64_wrap R (by have := HRR.out.2; omega)
      rw [← hri]
      clear hri hz1 hW0 hW1 HMUL hcs ht ht2 hgood HPW HPW'
      have hP0 : notAfter l (R : Int) s 0 := by
        unfold notAfter
        have h2 := HOK.out.first
        have h1 := HOK.out.some
        obtain ⟨p, r, e⟩ : ∃ p r, l = p :: r := by cases l with | nil => simp at h1 | cons p r => exact ⟨p, r, rfl⟩
        have h3 : p.1 = 0 := by rw [e] at h2; exact h2
        rw [e, show ((0 : Nat) : Int) = 0 from rfl, mom_low (by omega)]
        simp
      go_loopw [11, 12] (fun v u wr => ∃ lo hi : Nat, lo ≤ hi ∧ hi ≤ 1000000000 ∧ v = .int .i64 lo ∧ u = .int .i64 hi ∧ Hid (notAfter l (R : Int) s lo) ∧ Hid (hi = 1000000000 ∨ ¬ notAfter l (R : Int) s (hi + 1)) ∧ Hid (Below w1.heap.size w1 wr)) (fun v u _ => (intOf u).toNat - (intOf v).toNat)
      case atStart => exact ⟨0, 1000000000, by omega, by omega, rfl, rfl, hP0, .inl rfl, Below.refl _ _⟩
      case round =>
        obtain ⟨lo, hi, hle, hhi, rfl, rfl, HLw, HUp, hb⟩ := hrel
        have hy0 : wr.cell? ⟨gx, 0, none⟩ = some (.slice A n c) := (hb.out.cell (p := ⟨gx, 0, none⟩) hg1).trans HY0.out
        have hy1 : wr.cell? ⟨gx, 1, none⟩ = some (.slice A' n' c') := (hb.out.cell (p := ⟨gx, 1, none⟩) hg1).trans HY1.out
        have hgr : gx < wr.heap.size := Nat.lt_of_lt_of_le hg1 hb.out.size
        clear hP0 hs1
        by_cases hlt : lo < hi
        · obtain ⟨t, ht⟩ : ∃ t, (lo + hi + 1) / 2 = t := ⟨_, rfl⟩
          have hltI : (lo : Int) < (hi : Int) := by omega
          go_upto_region 10 with (fail)
          rw [show ((lo : Int) + (hi : Int) + 1) / 2 = (t : Int) by omega]
          have htl : lo < t := by omega
          have hth : t ≤ hi := by omega
          obtain ⟨ti, hti⟩ : ∃ ti : Int, ti = (t : Int) := ⟨_, rfl⟩
          have HTI := Lib.hid hti
          rw [← hti]
          have hts : (0 : Int) ≤ ti ∧ ti ≤ 1000000000 := by omega
          have HTS := Lib.hid hts
          obtain ⟨hm0, hm1⟩ := mom_top HOK.out hts.1 hts.2
          obtain ⟨mi, hmi⟩ : ∃ mi : Int, mi = mom ti l := ⟨_, rfl⟩
          obtain ⟨M, hM⟩ : ∃ M : Nat, mi = (M : Int) := ⟨mi.toNat, by omega⟩
          have hM64 : M < 18446744073709551616 := by omega
          have hR64 : R < 18446744073709551616 := by have := HRR.out.2; omega
          obtain ⟨N, hN⟩ : ∃ N, M * R = N := ⟨_, rfl⟩
          obtain ⟨hI, hhI⟩ : ∃ hI : Int, hI = ((N / 18446744073709551616 : Nat) : Int) := ⟨_, rfl⟩
          obtain ⟨lI, hlI⟩ : ∃ lI : Int, lI = ((N % 18446744073709551616 : Nat) : Int) := ⟨_, rfl⟩
          have HMUL : Hid (∀ V : World, Calls Tryd.prog 28 #[.int .u64 mi, .int .u64 ri] V fun e w' => e = .returned (.tuple #[.int .u64 hI, .int .u64 lI]) ∧ V = w') := fun V => by
            rw [hM, HRI.out, hhI, hlI, ← hN]
            exact (Tryd.bits_Mul64 M R hM64 hR64 V).mono fun e w' ⟨h1, h2⟩ => ⟨h1, h2.symm⟩
          have hcm : IntKind.u64.wrap mi = mi := by rw [hM]; exact u64_wrap M hM64
          have HNA : Hid (notAfter l (R : Int) s t ↔ N ≤ T) := by
            show _ ↔ _
            unfold notAfter
            rw [← hti, ← hmi, hM, HSS.out]
            simp only [Int.toNat_natCast, hN, HTT.out]
          have HMI := Lib.hid hmi
          have HYES : Hid (N ≤ T → ∀ wx, Below w1.heap.size w1 wx → ∃ lo' hi' : Nat, lo' ≤ hi' ∧ hi' ≤ 1000000000 ∧ Value.int .i64 ti = .int .i64 lo' ∧ Value.int .i64 (hi : Int) = .int .i64 hi' ∧ Hid (notAfter l (R : Int) s lo') ∧ Hid (hi' = 1000000000 ∨ ¬ notAfter l (R : Int) s (hi' + 1)) ∧ Hid (Below w1.heap.size w1 wx)) :=
            fun h wx hwx => ⟨t, hi, hth, hhi, by rw [hti], rfl, HNA.out.2 h, HUp, hwx⟩
          have HNO : Hid (¬ N ≤ T → ∀ wx, Below w1.heap.size w1 wx → ∃ lo' hi' : Nat, lo' ≤ hi' ∧ hi' ≤ 1000000000 ∧ Value.int .i64 (lo : Int) = .int .i64 lo' ∧ Value.int .i64 (ti - 1) = .int .i64 hi' ∧ Hid (notAfter l (R : Int) s lo') ∧ Hid (hi' = 1000000000 ∨ ¬ notAfter l (R : Int) s (hi' + 1)) ∧ Hid (Below w1.heap.size w1 wx)) :=
            fun h wx hwx => ⟨lo, t - 1, by omega, by omega, rfl, by rw [hti, show (t : Int) - 1 = ((t - 1 : Nat) : Int) by omega], HLw, .inr (by show ¬ notAfter l (R : Int) s (t - 1 + 1); rw [show t - 1 + 1 = t by omega]; exact fun h9 => h (HNA.out.1 h9)), hwx⟩
          have HMS1 : Hid ((intOf (.int .i64 (hi : Int))).toNat - (intOf (.int .i64 ti)).toNat < (intOf (.int .i64 (hi : Int))).toNat - (intOf (.int .i64 (lo : Int))).toNat) := by show _ < _; simp [intOf]; omega
          have HMS2 : Hid ((intOf (.int .i64 (ti - 1))).toNat - (intOf (.int .i64 (lo : Int))).toNat < (intOf (.int .i64 (hi : Int))).toNat - (intOf (.int .i64 (lo : Int))).toNat) := by show _ < _; simp [intOf]; omega
          have hcmp : (hI < Hi → N ≤ T) ∧ (hI = Hi → lI ≤ Lo → N ≤ T) ∧ (hI = Hi → ¬ lI ≤ Lo → ¬ N ≤ T) ∧ (¬ hI < Hi → hI ≠ Hi → ¬ N ≤ T) := by rw [hhI, hlI, HHI.out, HLO.out]; exact cmp_hi N T
          have HCMP := Lib.hid hcmp
          have hti1 : 1 ≤ ti := by omega
          have hti2 : ti ≤ 1000000000 := hts.2
          clear hcmp hti hts hm0 hm1 hmi hM hM64 hR64 hN hhI hlI ht htl hth
          by_cases c1 : hI < Hi
          · have HLE := Lib.hid (HCMP.out.1 c1)
            go_wp2_with (first
              | (go_at_call 29; refine (MOMENT_any _ _ _ _ _ _ l ti HTS.out.1 HTS.out.2 HOK _ _ (Nat.le_refl _) (HP1.out.below hb.out (Nat.le_refl _) |>.mono hb.out.size)).mono ?_; rintro e w3 ⟨rfl, hb3⟩; rw [← HMI.out]; have HB3 := Lib.hid (hb.out.trans (hb3.mono hb.out.size)); clear hb3)
              | (go_at_call 28; refine (HMUL.out _).mono ?_; rintro e w4 ⟨rfl, rfl⟩))
            go_roundw
            case rel => exact HYES.out HLE.out _ HB3.out
            case measure => exact HMS1.out
          · by_cases c2 : hI = Hi
            · subst c2
              by_cases c3 : lI ≤ Lo
              · have HLE := Lib.hid (HCMP.out.2.1 rfl c3)
                go_wp2_with (first
                  | (go_at_call 29; refine (MOMENT_any _ _ _ _ _ _ l ti HTS.out.1 HTS.out.2 HOK _ _ (Nat.le_refl _) (HP1.out.below hb.out (Nat.le_refl _) |>.mono hb.out.size)).mono ?_; rintro e w3 ⟨rfl, hb3⟩; rw [← HMI.out]; have HB3 := Lib.hid (hb.out.trans (hb3.mono hb.out.size)); clear hb3)
                  | (go_at_call 28; refine (HMUL.out _).mono ?_; rintro e w4 ⟨rfl, rfl⟩))
                go_roundw
                case rel => exact HYES.out HLE.out _ HB3.out
                case measure => exact HMS1.out
              · have HLE := Lib.hid (HCMP.out.2.2.1 rfl c3)
                go_wp2_with (first
                  | (go_at_call 29; refine (MOMENT_any _ _ _ _ _ _ l ti HTS.out.1 HTS.out.2 HOK _ _ (Nat.le_refl _) (HP1.out.below hb.out (Nat.le_refl _) |>.mono hb.out.size)).mono ?_; rintro e w3 ⟨rfl, hb3⟩; rw [← HMI.out]; have HB3 := Lib.hid (hb.out.trans (hb3.mono hb.out.size)); clear hb3)
                  | (go_at_call 28; refine (HMUL.out _).mono ?_; rintro e w4 ⟨rfl, rfl⟩))
                go_roundw
                case rel => exact HNO.out HLE.out _ HB3.out
                case measure => exact HMS2.out
            · have HLE := Lib.hid (HCMP.out.2.2.2 c1 c2)
              have e2 : (hI == Hi) = false := by simpa using c2
              go_wp2_with (first
                | (go_at_call 29; refine (MOMENT_any _ _ _ _ _ _ l ti HTS.out.1 HTS.out.2 HOK _ _ (Nat.le_refl _) (HP1.out.below hb.out (Nat.le_refl _) |>.mono hb.out.size)).mono ?_; rintro e w3 ⟨rfl, hb3⟩; rw [← HMI.out]; have HB3 := Lib.hid (hb.out.trans (hb3.mono hb.out.size)); clear hb3)
                | (go_at_call 28; refine (HMUL.out _).mono ?_; rintro e w4 ⟨rfl, rfl⟩))
              go_roundw
              case rel => exact HNO.out HLE.out _ HB3.out
              case measure => exact HMS2.out
        · obtain rfl : lo = hi := by omega
          go_wp2_with fail
          go_ret2
          exact ⟨((lo : Int), 0), rfl, by unfold OutT; rw [HX.out, if_neg (by simp), if_neg HGOOD.out]; exact ⟨lo, rfl, hhi, HLw.out, HUp.out⟩, HBW.out.trans ((HB1.out.trans (hb.out.mono (HB1.out.size))).mono (by have := HSW.out; have := HGX.out; omega))⟩
  · have hxb : (x != 0) = true := by simpa using hx0
    go_wp2_with (first | (go_at_call 26; refine (CHECKTEMPO_any _ _ _ _ _ _ l ms hn hn' _ _ (Nat.le_refl _) HPW HPW').mono ?_; rintro e w1 ⟨rfl, hb1⟩; rw [HX.out]; have HB1 := Lib.hid hb1; have hz1 := pcell hb1; have hs1 := hb1.size; have hg1 : gx < w1.heap.size := (by omega); clear hb1) | (go_at_call 27; refine (ISRATE_any _ _).mono ?_; rintro e w2 ⟨rfl, rfl⟩; rw [HB.out]))
    go_ret2
    exact ⟨(0, x), rfl, by unfold OutT; rw [HX.out, if_pos hx0], HBW.out.trans (HB1.out.mono (by rw [← HGX.out]; omega))⟩
end Go.Proofs.YtdoffngamppkkaaDoor
