/- The document's samples, SampleAt, TickAt. -/
import Derived.Test.YthjmhdnamhifjaaDoorMic
import Derived.Test.YthjmhdnamhifjaaDoorRct
import Derived.Test.YthjmhdnamhifjaaDoorYu
import Derived.Test.YthjmhdnamhifjaaDoorSml
import Derived.Test.YthjmhdnamhifjaaDoorRp
import Derived.Test.YthjmhdnamhifjaaDoorRt
set_option linter.unusedSimpArgs false
set_option linter.unusedVariables false
namespace Go.Proofs.YthjmhdnamhifjaaDoor
open Go.RowKit Go.Dw Go.Joins
set_option maxRecDepth 100000 in
set_option maxHeartbeats 2000000 in
theorem SAMPLES_any (A A' : Option Addr) (n c n' c' : Nat) (l : List Pr) (rate t : Int) (ht0 : 0 ≤ t) (ht1 : t ≤ 1000000000) (hr0 : 1 ≤ rate) (hr1 : rate ≤ 1000000) (hok : Hid (OkP l)) (w : World) (ht : Hid (TabAt w)) (B : Nat) (hB : B ≤ w.heap.size) (hh : Hid (PrsAt w B A n l)) :
    Calls Tryd.prog 39 #[.agg #[.slice A n c, .slice A' n' c'], .int .i64 rate, .int .i64 t] w (OutR w (smpQ l rate t) 41 22) := by
  obtain ⟨W, gx, hW, hgx, HHW, HBW, HSW⟩ := boxes2 w (.cells #[.slice A n c, .slice A' n' c'] 36) (.cells #[.bool false, .slice none 0 0, .slice none 0 0] 48)
  have HGX := Lib.hid hgx
  obtain ⟨x0, x1, _, _⟩ := two_cells HHW.out.1
  have hgw := blk_lt HHW.out.2
  have HHR := Lib.hid HHW.out.2
  have HRW : Hid (PrsAt W W.heap.size A n l) := (hh.out.below HBW.out hB).mono (by have := HSW.out; omega)
  have HTW := Lib.hid (ht.out.below HBW.out)
  obtain ⟨hm0, hm1⟩ := mom_top hok.out ht0 ht1
  go_enter Tryd.func39, Tryd.ntmps39
  go_upto_region 1 with (fail)
  rw [← hW, ← hgx]
  clear hW hgx HHW HSW
  go_wp2_with (fail)
  refine (MICROS_any A A' n c n' c' l t ht0 ht1 hok _ W.heap.size (Nat.le_refl _) HRW).mono ?_
  rintro e w0 ⟨rfl, hb0⟩
  have HB0 := Lib.hid hb0
  have HQ : Hid (smpQ l rate t = ((mom t l : Int) : Rat) * (rate : Rat) / ((960000000 : Int) : Rat)) := rfl
  obtain ⟨M, hM⟩ : ∃ M, mom t l = M := ⟨_, rfl⟩
  rw [hM] at hm0 hm1 HQ ⊢
  clear hb0 hM
  go_wp2_with (fail)
  refine (RINT_any M (by omega) (by omega) _ (Lib.hid (HTW.out.below HB0.out))).mono ?_
  rintro e w1 ⟨ng1, A1, n1, c1, D1, m1, d1, rfl, h1, k1, l1, hb1⟩
  have H1 := Lib.hid h1
  have HB1 := Lib.hid (HB0.out.trans (hb1.mono HB0.out.size))
  clear h1 hb1
  go_wp2_with (fail)
  refine (RINT_any rate (by omega) (by omega) _ (Lib.hid (HTW.out.below HB1.out))).mono ?_
  rintro e w2 ⟨ng2, A2, n2, c2, D2, m2, d2, rfl, h2, k2, l2, hb2⟩
  have H2 := Lib.hid h2
  have HB2 := Lib.hid (HB1.out.trans (hb2.mono HB1.out.size))
  have H1' := Lib.hid (H1.out.to hb2 (Nat.le_refl _) hb2.size)
  clear h2 hb2
  go_wp2_with (fail)
  refine (RNTIMES_any ng1 ng2 A1 A2 D1 D2 n1 c1 m1 d1 n2 c2 m2 d2 _ _ (by omega) (by omega) (by omega) (by omega) _ w2.heap.size (Nat.le_refl _) H1' H2).mono ?_
  rintro e w3 ⟨ng3, A3, n3, c3, D3, m3, d3, rfl, h3, k3, l3, hb3⟩
  have H3 := Lib.hid h3
  have HB3 := Lib.hid (HB2.out.trans (hb3.mono HB2.out.size))
  clear h3 hb3
  go_wp2_with (fail)
  refine (RINT_any 960000000 (by omega) (by omega) _ (Lib.hid (HTW.out.below HB3.out))).mono ?_
  rintro e w4 ⟨ng4, A4, n4, c4, D4, m4, d4, rfl, h4, k4, l4, hb4⟩
  have H4 := Lib.hid h4
  have HB4 := Lib.hid (HB3.out.trans (hb4.mono HB3.out.size))
  have H3' := Lib.hid (H3.out.to hb4 (Nat.le_refl _) hb4.size)
  clear h4 hb4
  go_wp2_with (fail)
  refine (ROVER_any ng3 ng4 A3 A4 D3 D4 n3 c3 m3 d3 n4 c4 m4 d4 _ _ (by omega) (by omega) (by omega) (by omega) beat_ne _ w4.heap.size (Nat.le_refl _) H3' H4).mono ?_
  rintro e w5 ⟨ng5, A5, n5, c5, D5, m5, d5, rfl, h5, k5, l5, hb5⟩
  rw [← HQ.out] at h5
  have H5 := Lib.hid h5
  have HB5 := Lib.hid (HB4.out.trans (hb5.mono HB4.out.size))
  have hhx := (HB5.out.block (gx + 1) hgw).trans HHR.out
  obtain ⟨hr0, hr1, hr2, hf0, hf1, hf2⟩ := three_cells hhx
  have HHX := Lib.hid hhx
  clear h5 hb5 hhx
  go_wp2_with (fail)
  exact end_rnum rfl rfl rfl hr0 hr1 hr2 (outR_set (q := smpQ l rate t) H5.out.1 (by have := HGX.out; omega) ⟨_, _, HHX.out⟩ H5.out.2.1 H5.out.2.2 (HBW.out.trans (HB5.out.mono HBW.out.size)) (by omega) (by omega))
set_option maxRecDepth 100000 in
set_option maxHeartbeats 4000000 in
theorem RSAMPLEAT_any (A A' : Option Addr) (n c n' c' : Nat) (l ms : List Pr) (rate t : Int) (w : World) (ht9 : Hid (TabAt w)) (B : Nat) (hB : B ≤ w.heap.size) (hh : Hid (PrsAt w B A n l)) (hh' : Hid (PrsAt w B A' n' ms)) :
    Calls Tryd.prog 11 #[.agg #[.slice A n c, .slice A' n' c'], .int .i64 rate, .int .i64 t] w fun e w' => e = retS (sampS l ms rate t) ∧ Below w.heap.size w w' := by
  obtain ⟨W, gx, hW, hgx, HHW, HBW, HSW⟩ := rcell_new w 36 #[.slice A n c, .slice A' n' c']
  have HGX := Lib.hid hgx
  have hgW := blk_lt HHW.out
  have hW0 := own_cell1 HHW.out 0
  have hW1 := own_cell1 HHW.out 1
  simp only [List.getElem?_toArray, List.getElem?_cons_zero, List.getElem?_cons_succ] at hW0 hW1
  have HPW : Hid (PrsAt W W.heap.size A n l) := (hh.out.below HBW.out hB).mono (by have := HSW.out; omega)
  have HPW' : Hid (PrsAt W W.heap.size A' n' ms) := (hh'.out.below HBW.out hB).mono (by have := HSW.out; omega)
  have HTW := Lib.hid (ht9.out.below HBW.out)
  go_enter Tryd.func11, Tryd.ntmps11
  go_upto_region 1 with (fail)
  rw [← hW, ← hgx]
  clear hW hgx
  obtain ⟨x, hx⟩ : ∃ x, chkT l ms = x := ⟨_, rfl⟩
  have HX := Lib.hid hx
  clear hx
  by_cases hx0 : x = 0
  · subst hx0
    obtain ⟨b, hb⟩ : ∃ b, (decide (1 ≤ rate) && decide (rate ≤ 1000000)) = b := ⟨_, rfl⟩
    have HB := Lib.hid hb
    obtain ⟨hoks, _⟩ := okP_chkT HX.out
    have HOK := Lib.hid hoks
    clear hoks hb
    cases b with
    | false =>
      have hbad : badS rate t 1000000000 := .inl fun h => by have := HB.out; simp [h.1, h.2] at this
      go_wp2_with (first | (go_at_call 15; refine (RCHECKTEMPO_any _ _ _ _ _ _ l ms _ _ (Nat.le_refl _) HPW HPW').mono ?_; rintro e w1 ⟨rfl, hb1⟩; rw [HX.out]; have HB1 := Lib.hid hb1; have hz1 := pcell hb1; have hs1 := hb1.size; have hg1 : gx < w1.heap.size := (by omega); clear hb1) | (go_at_call 37; refine (RISRATE_any _ _).mono ?_; rintro e w2 ⟨rfl, rfl⟩; rw [HB.out]))
      go_ret2
      exact ⟨by unfold retS sampS; rw [HX.out, if_neg (by simp), if_pos hbad]; rfl, HBW.out.trans (HB1.out.mono HBW.out.size)⟩
    | true =>
      have hr : 1 ≤ rate ∧ rate ≤ 1000000 := by have := HB.out; simpa using this
      by_cases ht0 : t < 0
      · have hbad : badS rate t 1000000000 := .inr (.inl ht0)
        have ht : decide (t < 0) = true := by simpa using ht0
        go_wp2_with (first | (go_at_call 15; refine (RCHECKTEMPO_any _ _ _ _ _ _ l ms _ _ (Nat.le_refl _) HPW HPW').mono ?_; rintro e w1 ⟨rfl, hb1⟩; rw [HX.out]; have HB1 := Lib.hid hb1; have hz1 := pcell hb1; have hs1 := hb1.size; have hg1 : gx < w1.heap.size := (by omega); clear hb1) | (go_at_call 37; refine (RISRATE_any _ _).mono ?_; rintro e w2 ⟨rfl, rfl⟩; rw [HB.out]))
        go_ret2
        exact ⟨by unfold retS sampS; rw [HX.out, if_neg (by simp), if_pos hbad]; rfl, HBW.out.trans (HB1.out.mono HBW.out.size)⟩
      by_cases ht1 : 1000000000 < t
      · have hbad : badS rate t 1000000000 := .inr (.inr ht1)
        have ht : decide (t < 0) = false := by simpa using ht0
        have ht2 : decide (t > 1000000000) = true := by simpa using ht1
        go_wp2_with (first | (go_at_call 15; refine (RCHECKTEMPO_any _ _ _ _ _ _ l ms _ _ (Nat.le_refl _) HPW HPW').mono ?_; rintro e w1 ⟨rfl, hb1⟩; rw [HX.out]; have HB1 := Lib.hid hb1; have hz1 := pcell hb1; have hs1 := hb1.size; have hg1 : gx < w1.heap.size := (by omega); clear hb1) | (go_at_call 37; refine (RISRATE_any _ _).mono ?_; rintro e w2 ⟨rfl, rfl⟩; rw [HB.out]))
        go_ret2
        exact ⟨by unfold retS sampS; rw [HX.out, if_neg (by simp), if_pos hbad]; rfl, HBW.out.trans (HB1.out.mono HBW.out.size)⟩
      have ht : decide (t < 0) = false := by simpa using ht0
      have ht2 : decide (t > 1000000000) = false := by simpa using ht1
      have hgood : ¬ badS rate t 1000000000 := by unfold badS; omega
      have HV : Hid (sampS l ms rate t = if (rndR (smpQ l rate t) 3 10000000000000).2 = true then ((rndR (smpQ l rate t) 3 10000000000000).1, 0) else (0, 1)) := by
        show _ = _
        unfold sampS
        rw [HX.out, if_neg (by simp), if_neg hgood, smp_rnd (mom_top HOK.out (by omega) (by omega)).1 hr.1]
        by_cases hc : 10000000000000 < ceilB ((mom t l).toNat * rate.toNat)
        · rw [if_pos hc, if_pos hc]; rfl
        · rw [if_neg hc, if_neg hc]; rfl
      go_upto_region 6 with (first | (go_at_call 15; refine (RCHECKTEMPO_any _ _ _ _ _ _ l ms _ _ (Nat.le_refl _) HPW HPW').mono ?_; rintro e w1 ⟨rfl, hb1⟩; rw [HX.out]; have HB1 := Lib.hid hb1; have hz1 := pcell hb1; have hs1 := hb1.size; have hg1 : gx < w1.heap.size := (by omega); clear hb1) | (go_at_call 37; refine (RISRATE_any _ _).mono ?_; rintro e w2 ⟨rfl, rfl⟩; rw [HB.out]))
      have hy0 := (hz1 ⟨gx, 0, none⟩ hgW).trans hW0
      have hy1 := (hz1 ⟨gx, 1, none⟩ hgW).trans hW1
      clear hz1 hW0 hW1
      go_wp2_with (fail)
      refine (SAMPLES_any A A' n c n' c' l rate t (by omega) (by omega) hr.1 hr.2 HOK _ (Lib.hid (HTW.out.below HB1.out)) w1.heap.size (Nat.le_refl _) (Lib.hid ((HPW.out.below HB1.out (Nat.le_refl _)).mono hs1))).mono ?_
      rintro e w3 ⟨ng3, A3, n3, c3, D3, m3, d3, rfl, h3, k3, l3, hb3⟩
      have H3 := Lib.hid h3
      have HB3 := Lib.hid (HB1.out.trans (hb3.mono hs1))
      clear h3 hb3
      go_wp2_with (fail)
      refine (RROUND_any ng3 A3 D3 n3 c3 m3 d3 _ 3 10000000000000 (by omega) (by decide) (by omega) (by omega) _ (Lib.hid (HTW.out.below HB3.out)) w3.heap.size (Nat.le_refl _) H3).mono ?_
      rintro e w4 ⟨rfl, hb4⟩
      have HB4 := Lib.hid (HB3.out.trans (hb4.mono HB3.out.size))
      clear hb4
      obtain ⟨⟨z, b⟩, hz⟩ : ∃ p, rndR (smpQ l rate t) 3 10000000000000 = p := ⟨_, rfl⟩
      rw [hz] at HV ⊢
      clear hz
      dsimp only at HV ⊢
      cases b with
      | true =>
        rw [if_pos rfl] at HV
        go_wp2_with (fail)
        go_ret2
        exact ⟨by unfold retS; rw [HV.out]; rfl, HBW.out.trans (HB4.out.mono HBW.out.size)⟩
      | false =>
        rw [if_neg (by simp)] at HV
        go_wp2_with (fail)
        go_ret2
        exact ⟨by unfold retS; rw [HV.out]; rfl, HBW.out.trans (HB4.out.mono HBW.out.size)⟩
  · have hxb : (x != 0) = true := by simpa using hx0
    go_wp2_with (first | (go_at_call 15; refine (RCHECKTEMPO_any _ _ _ _ _ _ l ms _ _ (Nat.le_refl _) HPW HPW').mono ?_; rintro e w1 ⟨rfl, hb1⟩; rw [HX.out]; have HB1 := Lib.hid hb1; have hz1 := pcell hb1; have hs1 := hb1.size; have hg1 : gx < w1.heap.size := (by omega); clear hb1) | (go_at_call 37; refine (RISRATE_any _ _).mono ?_; rintro e w2 ⟨rfl, rfl⟩; rw [HB.out]))
    go_ret2
    exact ⟨by unfold retS sampS; rw [HX.out, if_pos hx0]; rfl, HBW.out.trans (HB1.out.mono HBW.out.size)⟩
set_option maxRecDepth 100000 in
set_option maxHeartbeats 4000000 in
theorem RTICKAT_any (A A' : Option Addr) (n c n' c' : Nat) (l ms : List Pr) (rate s : Int) (w : World) (ht9 : Hid (TabAt w)) (B : Nat) (hB : B ≤ w.heap.size) (hh : Hid (PrsAt w B A n l)) (hh' : Hid (PrsAt w B A' n' ms)) :
    Calls Tryd.prog 13 #[.agg #[.slice A n c, .slice A' n' c'], .int .i64 rate, .int .i64 s] w fun e w' => ∃ p, e = retS p ∧ OutT l ms rate s p ∧ Below w.heap.size w w' := by
  obtain ⟨W, gx, hW, hgx, HHW, HBW, HSW⟩ := rcell_new w 36 #[.slice A n c, .slice A' n' c']
  have HGX := Lib.hid hgx
  have hgW := blk_lt HHW.out
  have hW0 := own_cell1 HHW.out 0
  have hW1 := own_cell1 HHW.out 1
  simp only [List.getElem?_toArray, List.getElem?_cons_zero, List.getElem?_cons_succ] at hW0 hW1
  have HPW : Hid (PrsAt W W.heap.size A n l) := (hh.out.below HBW.out hB).mono (by have := HSW.out; omega)
  have HPW' : Hid (PrsAt W W.heap.size A' n' ms) := (hh'.out.below HBW.out hB).mono (by have := HSW.out; omega)
  have HTW := Lib.hid (ht9.out.below HBW.out)
  go_enter Tryd.func13, Tryd.ntmps13
  go_upto_region 1 with (fail)
  rw [← hW, ← hgx]
  clear hW hgx
  obtain ⟨x, hx⟩ : ∃ x, chkT l ms = x := ⟨_, rfl⟩
  have HX := Lib.hid hx
  clear hx
  by_cases hx0 : x = 0
  · subst hx0
    obtain ⟨b, hb⟩ : ∃ b, (decide (1 ≤ rate) && decide (rate ≤ 1000000)) = b := ⟨_, rfl⟩
    have HB := Lib.hid hb
    obtain ⟨hoks, _⟩ := okP_chkT HX.out
    have HOK := Lib.hid hoks
    clear hoks hb
    cases b with
    | false =>
      have hbad : badS rate s 10000000000000 := .inl fun h => by have := HB.out; simp [h.1, h.2] at this
      go_wp2_with (first | (go_at_call 15; refine (RCHECKTEMPO_any _ _ _ _ _ _ l ms _ _ (Nat.le_refl _) HPW HPW').mono ?_; rintro e w1 ⟨rfl, hb1⟩; rw [HX.out]; have HB1 := Lib.hid hb1; have hz1 := pcell hb1; have hs1 := hb1.size; have hg1 : gx < w1.heap.size := (by omega); clear hb1) | (go_at_call 37; refine (RISRATE_any _ _).mono ?_; rintro e w2 ⟨rfl, rfl⟩; rw [HB.out]))
      go_ret2
      exact ⟨(0, 1), rfl, by unfold OutT; rw [HX.out, if_neg (by simp), if_pos hbad], HBW.out.trans (HB1.out.mono HBW.out.size)⟩
    | true =>
      have hr : 1 ≤ rate ∧ rate ≤ 1000000 := by have := HB.out; simpa using this
      by_cases ht0 : s < 0
      · have hbad : badS rate s 10000000000000 := .inr (.inl ht0)
        have ht : decide (s < 0) = true := by simpa using ht0
        go_wp2_with (first | (go_at_call 15; refine (RCHECKTEMPO_any _ _ _ _ _ _ l ms _ _ (Nat.le_refl _) HPW HPW').mono ?_; rintro e w1 ⟨rfl, hb1⟩; rw [HX.out]; have HB1 := Lib.hid hb1; have hz1 := pcell hb1; have hs1 := hb1.size; have hg1 : gx < w1.heap.size := (by omega); clear hb1) | (go_at_call 37; refine (RISRATE_any _ _).mono ?_; rintro e w2 ⟨rfl, rfl⟩; rw [HB.out]))
        go_ret2
        exact ⟨(0, 1), rfl, by unfold OutT; rw [HX.out, if_neg (by simp), if_pos hbad], HBW.out.trans (HB1.out.mono HBW.out.size)⟩
      by_cases ht1 : 10000000000000 < s
      · have hbad : badS rate s 10000000000000 := .inr (.inr ht1)
        have ht : decide (s < 0) = false := by simpa using ht0
        have ht2 : decide (s > 10000000000000) = true := by simpa using ht1
        go_wp2_with (first | (go_at_call 15; refine (RCHECKTEMPO_any _ _ _ _ _ _ l ms _ _ (Nat.le_refl _) HPW HPW').mono ?_; rintro e w1 ⟨rfl, hb1⟩; rw [HX.out]; have HB1 := Lib.hid hb1; have hz1 := pcell hb1; have hs1 := hb1.size; have hg1 : gx < w1.heap.size := (by omega); clear hb1) | (go_at_call 37; refine (RISRATE_any _ _).mono ?_; rintro e w2 ⟨rfl, rfl⟩; rw [HB.out]))
        go_ret2
        exact ⟨(0, 1), rfl, by unfold OutT; rw [HX.out, if_neg (by simp), if_pos hbad], HBW.out.trans (HB1.out.mono HBW.out.size)⟩
      have ht : decide (s < 0) = false := by simpa using ht0
      have ht2 : decide (s > 10000000000000) = false := by simpa using ht1
      have hgood : ¬ badS rate s 10000000000000 := by unfold badS; omega
      have HGOOD := Lib.hid hgood
      have HR := Lib.hid hr
      have HS : Hid (0 ≤ s ∧ s ≤ 10000000000000) := by show _ ∧ _; omega
      clear hgood hr ht0 ht1
      go_wp2_with (first | (go_at_call 15; refine (RCHECKTEMPO_any _ _ _ _ _ _ l ms _ _ (Nat.le_refl _) HPW HPW').mono ?_; rintro e w1 ⟨rfl, hb1⟩; rw [HX.out]; have HB1 := Lib.hid hb1; have hz1 := pcell hb1; have hs1 := hb1.size; have hg1 : gx < w1.heap.size := (by omega); clear hb1) | (go_at_call 37; refine (RISRATE_any _ _).mono ?_; rintro e w2 ⟨rfl, rfl⟩; rw [HB.out]))
      have HY0 : Hid (w1.cell? ⟨gx, 0, none⟩ = some (.slice A n c)) := (hz1 ⟨gx, 0, none⟩ hgW).trans hW0
      have HY1 : Hid (w1.cell? ⟨gx, 1, none⟩ = some (.slice A' n' c')) := (hz1 ⟨gx, 1, none⟩ hgW).trans hW1
      have HP1 : Hid (PrsAt w1 w1.heap.size A n l) := (HPW.out.below HB1.out (Nat.le_refl _)).mono hs1
      have HT1 := Lib.hid (HTW.out.below HB1.out)
      have HBA := Lib.hid (HBW.out.trans (HB1.out.mono HBW.out.size))
      have hP0 : notAfter l rate s 0 := by
        unfold notAfter
        have h2 := HOK.out.first
        have h1 := HOK.out.some
        obtain ⟨p, r, e⟩ : ∃ p r, l = p :: r := by cases l with | nil => simp at h1 | cons p r => exact ⟨p, r, rfl⟩
        have h3 : p.1 = 0 := by rw [e] at h2; exact h2
        rw [e, show ((0 : Nat) : Int) = 0 from rfl, mom_low (by omega)]
        simp
      clear hz1 hW0 hW1 ht ht2 HPW HPW' HTW HB1 HBW HB hs1 hgW HHW HSW
      go_loopw [9, 10] (fun v u wr => ∃ lo hi : Nat, lo ≤ hi ∧ hi ≤ 1000000000 ∧ v = .int .i64 lo ∧ u = .int .i64 hi ∧ Hid (notAfter l rate s lo) ∧ Hid (hi = 1000000000 ∨ ¬ notAfter l rate s (hi + 1)) ∧ Hid (Below w1.heap.size w1 wr)) (fun v u _ => (intOf u).toNat - (intOf v).toNat)
      case atStart => exact ⟨0, 1000000000, by omega, by omega, rfl, rfl, hP0, .inl rfl, Below.refl _ _⟩
      case round =>
        obtain ⟨lo, hi, hle, hhi, rfl, rfl, HLw, HUp, hb⟩ := hrel
        have hy0 : wr.cell? ⟨gx, 0, none⟩ = some (.slice A n c) := (hb.out.cell (p := ⟨gx, 0, none⟩) hg1).trans HY0.out
        have hy1 : wr.cell? ⟨gx, 1, none⟩ = some (.slice A' n' c') := (hb.out.cell (p := ⟨gx, 1, none⟩) hg1).trans HY1.out
        have hgr : gx < wr.heap.size := Nat.lt_of_lt_of_le hg1 hb.out.size
        clear hP0
        by_cases hlt : lo < hi
        · obtain ⟨t, ht⟩ : ∃ t, (lo + hi + 1) / 2 = t := ⟨_, rfl⟩
          have hltI : (lo : Int) < (hi : Int) := by omega
          go_upto_region 9 with (fail)
          rw [show ((lo : Int) + (hi : Int) + 1) / 2 = (t : Int) by omega]
          have htl : lo < t := by omega
          have hth : t ≤ hi := by omega
          have HTS : Hid (lo < t ∧ t ≤ hi) := ⟨htl, hth⟩
          obtain ⟨hm0, hm1⟩ := mom_top HOK.out (t := (t : Int)) (by omega) (by omega)
          have HNA := Lib.hid (smp_after (rate := rate) (s := s) (t := t) hm0 HR.out.1 HS.out.1)
          have ht9 : (t : Int) ≤ 1000000000 := by omega
          have ht0 : (0 : Int) ≤ (t : Int) := by omega
          obtain ⟨ti, hti⟩ : ∃ ti : Int, ti = (t : Int) := ⟨_, rfl⟩
          have HTI := Lib.hid hti
          rw [← hti] at ht0 ht9 HNA ⊢
          clear hm0 hm1 ht htl hth hti
          go_wp2_with (fail)
          refine (SAMPLES_any A A' n c n' c' l rate ti ht0 ht9 HR.out.1 HR.out.2 HOK _ (Lib.hid (HT1.out.below hb.out)) wr.heap.size (Nat.le_refl _) (Lib.hid ((HP1.out.below hb.out (Nat.le_refl _)).mono hb.out.size))).mono ?_
          rintro e w3 ⟨ng3, A3, n3, c3, D3, m3, d3, rfl, h3, k3, l3, hb3⟩
          have H3 := Lib.hid h3
          have HB3 := Lib.hid (hb.out.trans (hb3.mono hb.out.size))
          clear h3 hb3
          go_wp2_with (fail)
          refine (RINT_any s (by have := HS.out; omega) (by have := HS.out; omega) _ (Lib.hid (HT1.out.below HB3.out))).mono ?_
          rintro e w4 ⟨ng4, A4, n4, c4, D4, m4, d4, rfl, h4, k4, l4, hb4⟩
          have H4 := Lib.hid h4
          have HB4 := Lib.hid (HB3.out.trans (hb4.mono HB3.out.size))
          have H3' := Lib.hid (H3.out.to hb4 (Nat.le_refl _) hb4.size)
          clear h4 hb4
          go_wp2_with (fail)
          refine (RCOMPARE_any ng3 ng4 A3 A4 D3 D4 n3 c3 m3 d3 n4 c4 m4 d4 _ _ (by omega) (by omega) (by omega) (by omega) _ w4.heap.size (Nat.le_refl _) H3' H4).mono ?_
          rintro e w5 ⟨rfl, hb5⟩
          have HB5 := Lib.hid (HB4.out.trans (hb5.mono HB4.out.size))
          obtain ⟨kc, hkc⟩ : ∃ kc, cmpQ (smpQ l rate ti) (s : Rat) = kc := ⟨_, rfl⟩
          rw [hkc] at HNA ⊢
          clear hb5 hkc
          by_cases hk9 : kc ≤ 0
          · have HY := Lib.hid (HNA.out.1 hk9)
            go_wp2_with (fail)
            go_roundw
            case rel => exact ⟨t, hi, HTS.out.2, hhi, by rw [HTI.out], rfl, HY, HUp, HB5⟩
            case measure => have h1 := HTI.out; have h2 := HTS.out; simp [intOf]; omega
          · have HY : Hid (¬ notAfter l rate s t) := fun h => hk9 (HNA.out.2 h)
            go_wp2_with (fail)
            go_roundw
            case rel => exact ⟨lo, t - 1, by have := HTS.out; omega, by have := HTS.out; omega, rfl, by rw [HTI.out, show (t : Int) - 1 = ((t - 1 : Nat) : Int) by have := HTS.out; omega], HLw, .inr (by show ¬ notAfter l rate s (t - 1 + 1); rw [show t - 1 + 1 = t by have := HTS.out; omega]; exact HY.out), HB5⟩
            case measure => have h1 := HTI.out; have h2 := HTS.out; simp [intOf]; omega
        · obtain rfl : lo = hi := by omega
          go_wp2_with fail
          go_ret2
          exact ⟨((lo : Int), 0), rfl, by unfold OutT; rw [HX.out, if_neg (by simp), if_neg HGOOD.out]; exact ⟨lo, rfl, hhi, HLw.out, HUp.out⟩, HBA.out.trans (hb.out.mono HBA.out.size)⟩
  · have hxb : (x != 0) = true := by simpa using hx0
    go_wp2_with (first | (go_at_call 15; refine (RCHECKTEMPO_any _ _ _ _ _ _ l ms _ _ (Nat.le_refl _) HPW HPW').mono ?_; rintro e w1 ⟨rfl, hb1⟩; rw [HX.out]; have HB1 := Lib.hid hb1; have hz1 := pcell hb1; have hs1 := hb1.size; have hg1 : gx < w1.heap.size := (by omega); clear hb1) | (go_at_call 37; refine (RISRATE_any _ _).mono ?_; rintro e w2 ⟨rfl, rfl⟩; rw [HB.out]))
    go_ret2
    exact ⟨(0, x), rfl, by unfold OutT; rw [HX.out, if_pos hx0], HBW.out.trans (HB1.out.mono HBW.out.size)⟩
end Go.Proofs.YthjmhdnamhifjaaDoor
