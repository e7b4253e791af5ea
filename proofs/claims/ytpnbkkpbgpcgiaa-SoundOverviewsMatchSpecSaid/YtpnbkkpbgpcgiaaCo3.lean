/- Coarser, the reference's. -/
import Derived.Test.YtpnbkkpbgpcgiaaCo2
import Derived.RegionTactic
import Derived.BigRegion
import Derived.Test.YtpnbkkpbgpcgiaaRegion2
set_option linter.unusedSimpArgs false
set_option linter.unusedVariables false
namespace Go.Proofs.Ytpnbkkpbgpcgiaa
open Go.RowKit Go.Dw
theorem i64_over {x : Int} (h1 : 9223372036854775807 < x) (h2 : x ≤ 18446744073709551614) : IntKind.i64.wrap x < 0 := by
  unfold IntKind.wrap
  simp only [IntKind.signed, IntKind.bits]
  simp
  split <;> omega
set_option maxRecDepth 100000 in
set_option maxHeartbeats 8000000 in
theorem RCOARSER_ok (A : Option Addr) (n c q : Nat) (l : List Bn) (hq1 : 1 ≤ q) (hq2 : q ≤ 100000) (hn9 : n ≤ 5864062014634) (hlr : Hid (OkL l)) (w : World) (B : Nat) (hB : B ≤ w.heap.size) (hc9 : n ≤ c ∧ c ≤ maxLen) (hh : Hid (BnsAt w B A n l)) :
    Calls Try.prog 31 #[.slice A n c, .int .i64 q] w fun e w' => ∃ v f res, e = .returned (.tuple #[v, .int .i64 f]) ∧ OwnBns w' w.heap.size v res ∧ Below w.heap.size w w' ∧
      ((coChk l ≠ 0 ∧ f = coChk l ∧ res = []) ∨ (coChk l = 0 ∧ coK q l l.length = none ∧ f = 2 ∧ res = []) ∨ (coChk l = 0 ∧ coK q l l.length = some res ∧ f = 0)) := by
  have hl := Lib.hid hh.out.1
  have d1 : decide ((q : Int) < 1) = false := by simp; omega
  have d2 : decide (100000 < (q : Int)) = false := by simp; omega
  obtain ⟨hnc, hcm⟩ := hc9
  unfold maxLen at hcm
  go_enter Try.func31, Try.ntmps31
  go_wp2_with fail
  go_loopw [6] (fun i wr => ∃ k : Nat, k ≤ n ∧ i = .int .i64 k ∧ Hid (Below w.heap.size w wr) ∧ Hid (coChk l = coChk (l.drop k))) (fun i _ => n - (intOf i).toNat)
  case atStart => exact ⟨0, Nat.zero_le _, rfl, Below.refl _ _, rfl⟩
  case round =>
    obtain ⟨k, hk, rfl, hS, hC⟩ := hrel
    by_cases hlt : k < n
    · obtain ⟨bA, oA, rfl, hb, k1, k2, k3⟩ := (hh.out.below (hS.out.mono hB) (Nat.le_refl _)).2 k hlt
      have hkl : k < l.length := by rw [hl.out]; exact hlt
      have HD : Hid (coChk l = if (bnOf l k).2.1 < (bnOf l k).1 then 3 else if smpB (bnOf l k).1 = false ∨ smpB (bnOf l k).2.1 = false ∨ (bnOf l k).2.2 < 0 then 1 else coChk (l.drop (k + 1))) := by
        show _ = _; rw [hC.out, drop_bn hkl]; rfl
      obtain ⟨d, hd⟩ : ∃ d, bnOf l k = d := ⟨_, rfl⟩
      rw [hd] at k1 k2 k3 HD
      obtain ⟨x1, x2, x3⟩ := d
      dsimp only at k1 k2 k3 HD
      have hk0 : (0 : Int) ≤ (k : Int) := by omega
      have hkn : (k : Int) < (n : Int) := by omega
      clear hd
      have hsw := hS.out.size
      by_cases h1 : x2 < x1
      · have hC3 : coChk l = 3 := by rw [HD.out, if_pos h1]
        clear HD
        go_wp2_with fail
        go_quiet (fail)
        go_wp2_with fail
        go_ret2
        exact ⟨_, _, [], rfl, World.ownsRow_nil _ _ _ _, belowN hS.out _, .inl ⟨by rw [hC3]; omega, by rw [hC3], rfl⟩⟩
      have h1' : x1 ≤ x2 := by omega
      obtain ⟨wd, hwd9⟩ : ∃ wd : Nat → World, ∀ q, wd q = wr.drewN q := ⟨_, fun _ => rfl⟩
      clear hwd9 wd
      by_cases hbad : smpB x1 = false ∨ smpB x2 = false ∨ x3 < 0
      · have hC3 : coChk l = 1 := by rw [HD.out, if_neg h1, if_pos hbad]
        have hb5 : x1 < -8388608 ∨ (¬ x1 < -8388608 ∧ 8388607 < x2) ∨ (¬ x1 < -8388608 ∧ ¬ 8388607 < x2 ∧ 8388607 < x1) ∨ (¬ x1 < -8388608 ∧ ¬ 8388607 < x2 ∧ ¬ 8388607 < x1 ∧ x2 < -8388608) ∨ (¬ x1 < -8388608 ∧ ¬ 8388607 < x2 ∧ ¬ 8388607 < x1 ∧ ¬ x2 < -8388608 ∧ x3 < 0) := by
          rcases hbad with h | h | h
          · have := smpB_no h; omega
          · have := smpB_no h; omega
          · omega
        clear HD h1 hbad
        rcases hb5 with g1 | ⟨g1, g2⟩ | ⟨g1, g2, g3⟩ | ⟨g1, g2, g3, g4⟩ | ⟨g1, g2, g3, g4, g5⟩
        · have f1 : decide (x1 < -8388608) = true := by simpa using g1
          clear g1
          go_wp2_with fail
          go_quiet (fail)
          have j1 := ((belowN (Below.refl wr.heap.size wr) nq).cell (p := ⟨bA, oA + k * 3, none⟩) (by dsimp only; omega)).trans k1
          have j2 := ((belowN (Below.refl wr.heap.size wr) nq).cell (p := ⟨bA, oA + k * 3 + 1, none⟩) (by dsimp only; omega)).trans k2
          have j3 := ((belowN (Below.refl wr.heap.size wr) nq).cell (p := ⟨bA, oA + k * 3 + 2, none⟩) (by dsimp only; omega)).trans k3
          go_wp2_with fail
          go_ret2
          exact ⟨_, _, [], rfl, World.ownsRow_nil _ _ _ _, belowN hS.out _, .inl ⟨by rw [hC3]; omega, by rw [hC3], rfl⟩⟩
        · have f1 : decide (x1 < -8388608) = false := by simpa using g1
          have f2 : decide (8388607 < x2) = true := by simpa using g2
          clear g1 g2
          go_wp2_with fail
          go_quiet (fail)
          have j1 := ((belowN (Below.refl wr.heap.size wr) nq).cell (p := ⟨bA, oA + k * 3, none⟩) (by dsimp only; omega)).trans k1
          have j2 := ((belowN (Below.refl wr.heap.size wr) nq).cell (p := ⟨bA, oA + k * 3 + 1, none⟩) (by dsimp only; omega)).trans k2
          have j3 := ((belowN (Below.refl wr.heap.size wr) nq).cell (p := ⟨bA, oA + k * 3 + 2, none⟩) (by dsimp only; omega)).trans k3
          go_wp2_with fail
          go_ret2
          exact ⟨_, _, [], rfl, World.ownsRow_nil _ _ _ _, belowN hS.out _, .inl ⟨by rw [hC3]; omega, by rw [hC3], rfl⟩⟩
        · have f1 : decide (x1 < -8388608) = false := by simpa using g1
          have f2 : decide (8388607 < x2) = false := by simpa using g2
          have f3 : decide (8388607 < x1) = true := by simpa using g3
          clear g1 g2 g3
          go_wp2_with fail
          go_quiet (fail)
          have j1 := ((belowN (Below.refl wr.heap.size wr) nq).cell (p := ⟨bA, oA + k * 3, none⟩) (by dsimp only; omega)).trans k1
          have j2 := ((belowN (Below.refl wr.heap.size wr) nq).cell (p := ⟨bA, oA + k * 3 + 1, none⟩) (by dsimp only; omega)).trans k2
          have j3 := ((belowN (Below.refl wr.heap.size wr) nq).cell (p := ⟨bA, oA + k * 3 + 2, none⟩) (by dsimp only; omega)).trans k3
          go_wp2_with fail
          go_ret2
          exact ⟨_, _, [], rfl, World.ownsRow_nil _ _ _ _, belowN hS.out _, .inl ⟨by rw [hC3]; omega, by rw [hC3], rfl⟩⟩
        · have f1 : decide (x1 < -8388608) = false := by simpa using g1
          have f2 : decide (8388607 < x2) = false := by simpa using g2
          have f3 : decide (8388607 < x1) = false := by simpa using g3
          have f4 : decide (x2 < -8388608) = true := by simpa using g4
          clear g1 g2 g3 g4
          go_wp2_with fail
          go_quiet (fail)
          have j1 := ((belowN (Below.refl wr.heap.size wr) nq).cell (p := ⟨bA, oA + k * 3, none⟩) (by dsimp only; omega)).trans k1
          have j2 := ((belowN (Below.refl wr.heap.size wr) nq).cell (p := ⟨bA, oA + k * 3 + 1, none⟩) (by dsimp only; omega)).trans k2
          have j3 := ((belowN (Below.refl wr.heap.size wr) nq).cell (p := ⟨bA, oA + k * 3 + 2, none⟩) (by dsimp only; omega)).trans k3
          go_wp2_with fail
          go_ret2
          exact ⟨_, _, [], rfl, World.ownsRow_nil _ _ _ _, belowN hS.out _, .inl ⟨by rw [hC3]; omega, by rw [hC3], rfl⟩⟩
        · have f1 : decide (x1 < -8388608) = false := by simpa using g1
          have f2 : decide (8388607 < x2) = false := by simpa using g2
          have f3 : decide (8388607 < x1) = false := by simpa using g3
          have f4 : decide (x2 < -8388608) = false := by simpa using g4
          have f5 : decide (x3 < 0) = true := by simpa using g5
          clear g1 g2 g3 g4 g5
          go_wp2_with fail
          go_quiet (fail)
          have j1 := ((belowN (Below.refl wr.heap.size wr) nq).cell (p := ⟨bA, oA + k * 3, none⟩) (by dsimp only; omega)).trans k1
          have j2 := ((belowN (Below.refl wr.heap.size wr) nq).cell (p := ⟨bA, oA + k * 3 + 1, none⟩) (by dsimp only; omega)).trans k2
          have j3 := ((belowN (Below.refl wr.heap.size wr) nq).cell (p := ⟨bA, oA + k * 3 + 2, none⟩) (by dsimp only; omega)).trans k3
          go_wp2_with fail
          go_ret2
          exact ⟨_, _, [], rfl, World.ownsRow_nil _ _ _ _, belowN hS.out _, .inl ⟨by rw [hC3]; omega, by rw [hC3], rfl⟩⟩
      · have HC4 : Hid (coChk l = coChk (l.drop (k + 1))) := by show _ = _; rw [HD.out, if_neg h1, if_neg hbad]
        have hg : ¬ x1 < -8388608 ∧ ¬ 8388607 < x2 ∧ ¬ 8388607 < x1 ∧ ¬ x2 < -8388608 ∧ ¬ x3 < 0 := by
          have a1 : smpB x1 = true := by cases h : smpB x1 with | true => rfl | false => exact absurd (.inl h) hbad
          have a2 : smpB x2 = true := by cases h : smpB x2 with | true => rfl | false => exact absurd (.inr (.inl h)) hbad
          have := smpB_yes a1
          have := smpB_yes a2
          omega
        obtain ⟨g1, g2, g3, g4, g5⟩ := hg
        have f1 : decide (x1 < -8388608) = false := by simpa using g1
        have f2 : decide (8388607 < x2) = false := by simpa using g2
        have f3 : decide (8388607 < x1) = false := by simpa using g3
        have f4 : decide (x2 < -8388608) = false := by simpa using g4
        have f5 : decide (x3 < 0) = false := by simpa using g5
        clear HD h1 hbad g1 g2 g3 g4 g5
        go_wp2_with fail
        go_quiet (fail)
        have HS2 := Lib.hid (belowN hS.out nq)
        have j1 := ((belowN (Below.refl wr.heap.size wr) nq).cell (p := ⟨bA, oA + k * 3, none⟩) (by dsimp only; omega)).trans k1
        have j2 := ((belowN (Below.refl wr.heap.size wr) nq).cell (p := ⟨bA, oA + k * 3 + 1, none⟩) (by dsimp only; omega)).trans k2
        have j3 := ((belowN (Below.refl wr.heap.size wr) nq).cell (p := ⟨bA, oA + k * 3 + 2, none⟩) (by dsimp only; omega)).trans k3
        go_wp2_with fail
        go_roundw
        case rel => exact ⟨k + 1, by omega, by go_num, HS2, HC4⟩
        case measure => simp [intOf]; omega
    · obtain rfl : k = n := by omega
      have hC0 : Hid (coChk l = 0) := by show _ = _; rw [hC.out, List.drop_of_length_le (by rw [hl.out]; exact Nat.le_refl _)]; rfl
      have HNN := Lib.hid (coChk_zero hC0.out)
      have hq0 : ¬ (q : Int) = 0 := by omega
      clear hC
      go_wp2_with fail
      have HO0 : Hid (OwnBns wr w.heap.size (.slice none 0 0) []) := World.ownsRow_nil _ _ _ _
      have HK0 : Hid (coK q l 0 = some []) := rfl
      have HI0 : Hid (CoOk 0 []) := ⟨Nat.le_refl _, fun h => by omega, fun c hc => by cases hc⟩
      go_loopw [7, 8] (fun v i wr => ∃ (j : Nat) (acc : List Bn), j ≤ k ∧ i = .int .i64 j ∧ Hid (Below w.heap.size w wr) ∧ Hid (OwnBns wr w.heap.size v acc) ∧ Hid (coK q l j = some acc) ∧ Hid (CoOk j acc)) (fun _ i _ => k - (intOf i).toNat)
      case atStart => exact ⟨0, [], Nat.zero_le _, rfl, hS, HO0, HK0, HI0⟩
      case round =>
        obtain ⟨j, acc, hj, rfl, hS, ho, hKK, hI⟩ := hrel
        obtain ⟨A5, c5, rfl, hcc1, hcc2⟩ := own_form ho.out
        by_cases hjl : j < k
        · obtain ⟨bA, oA, rfl, hb, k1, k2, k3⟩ := (hh.out.below (hS.out.mono hB) (Nat.le_refl _)).2 j hjl
          have hjll : j < l.length := by rw [hl.out]; exact hjl
          have hmem := bnOf_mem hjll
          have hp0 := HNN.out _ hmem
          have hp1 := hlr.out.rng _ hmem
          have HST : Hid (coK q l (j + 1) = coStep q acc j (bnOf l j)) := by show (coK q l j).bind _ = _; rw [hKK.out]; rfl
          obtain ⟨d, hd⟩ : ∃ d, bnOf l j = d := ⟨_, rfl⟩
          rw [hd] at k1 k2 k3 hp0 hp1 HST
          have HIN := Lib.hid (fun acc' (h : coK q l (j + 1) = some acc') => coStep_ok hI.out ⟨hp0, hp1⟩ (HST.out.symm.trans h))
          obtain ⟨x1, x2, x3⟩ := d
          dsimp only at k1 k2 k3 hp0 hp1
          have hj0 : (0 : Int) ≤ (j : Int) := by omega
          have hjn : (j : Int) < (k : Int) := by omega
          have hle := hI.out.le
          have hle2 : acc.length ≤ 5864062014634 := by omega
          have hsb : w.heap.size ≤ wr.heap.size := hS.out.size
          clear hd hmem
          by_cases hmod : j % q = 0
          · have hmI : ((j : Int) % (q : Int) == 0) = true := by simp; omega
            have HST2 : Hid (coK q l (j + 1) = some (acc ++ [(x1, x2, x3)])) := by show _ = _; rw [HST.out]; unfold coStep; rw [if_pos hmod]
            have HI2 := Lib.hid (HIN.out _ HST2.out)
            go_wp2_with (with_reducible refine wpList_push_bin rfl (.tmp 81) (.tmp 86) rfl w.heap.size A5 acc.length c5 acc x1 x2 x3 wr.heap.size rfl rfl rfl ho.out hle2 hsb ?_; intro g5 cap5 w5 hown5 hb5)
            have HS5 := Lib.hid (hS.out.trans hb5)
            have HO5 := Lib.hid hown5
            clear hown5 hb5
            go_roundw
            case rel => exact ⟨j + 1, _, by omega, by go_num, HS5, HO5, HST2, HI2⟩
            case measure => simp [intOf]; omega
          · have hmI : ((j : Int) % (q : Int) == 0) = false := by simp; omega
            have hpos : 0 < acc.length := hI.out.pos (by rcases Nat.eq_zero_or_pos j with h0 | h0; (subst h0; simp at hmod); exact h0)
            obtain ⟨m, hm⟩ : ∃ m, m = acc.length - 1 := ⟨_, rfl⟩
            have hml : m < acc.length := by omega
            have hmw : IntKind.i64.wrap ((acc.length : Int) - 1) = (m : Int) := by rw [IntWalk.i64_in _ (by omega)]; omega
            obtain ⟨g5, cap5, hv5, hg5, hg5l, hcap1, hcap2, hcells⟩ := ho.out.slot hpos
            injection hv5 with e1 e2 e3
            subst e1 e3
            obtain ⟨⟨m1, m2, m3⟩, f1, f2, f3⟩ := hcells m hml
            obtain ⟨y4, y5⟩ := hI.out.rng _ (bnOf_mem hml)
            obtain ⟨d, hd⟩ : ∃ d, bnOf acc m = d := ⟨_, rfl⟩
            have HST2 : Hid (coK q l (j + 1) = if 9223372036854775807 - d.2.2 < x3 then none else some (acc.set m (jnB d (x1, x2, x3)))) := by
              show _ = _; rw [HST.out]; unfold coStep; rw [if_neg hmod, ← hm, hd]
            rw [hd] at m1 m2 m3 y4 y5
            have hm0 : (0 : Int) ≤ (m : Int) := by omega
            have hmn : (m : Int) < (acc.length : Int) := by omega
            obtain ⟨d1, d2, d3⟩ := d
            dsimp only at m1 m2 m3 y4 y5 HST2
            clear hd hm hcells
            by_cases hov : 9223372036854775807 - d3 < x3
            · rw [if_pos hov] at HST2
              obtain ⟨s, hs9⟩ : ∃ s, IntKind.i64.wrap (d3 + x3) = s := ⟨_, rfl⟩
              have hs0 : s < 0 := by rw [← hs9]; have := i64_over (x := d3 + x3) (by omega) (by omega); omega
              go_wp2_with fail
              go_quiet (fail)
              go_wp2_with fail
              go_ret2
              refine ⟨_, _, [], rfl, World.ownsRow_nil _ _ _ _, belowN hS.out _, .inr (.inl ⟨hC0.out, ?_, rfl, rfl⟩)⟩
              have := coK_none HST2.out (l.length - (j + 1))
              rw [show j + 1 + (l.length - (j + 1)) = l.length by omega] at this
              exact this
            · rw [if_neg hov] at HST2
              have HI2 := Lib.hid (HIN.out _ HST2.out)
              have hs9 := IntWalk.i64_in (d3 + x3) (by omega)
              have hs0 : ¬ d3 + x3 < 0 := by omega
              go_wp2_with fail
              go_quiet (fail)
              obtain ⟨w3, hw3⟩ : ∃ w3, w3 = wr.drewN nq := ⟨_, rfl⟩
              have hb3 : Below wr.heap.size wr w3 := by rw [hw3]; exact belowN (Below.refl _ _) nq
              have HS3 := Lib.hid (hS.out.trans (hb3.mono hsb))
              have ho3 := ho.out.below hb3
              have hbw : bA < wr.heap.size := by omega
              have j1 := (hb3.cell (p := ⟨bA, oA + j * 3, none⟩) hbw).trans k1
              have j2 := (hb3.cell (p := ⟨bA, oA + j * 3 + 1, none⟩) hbw).trans k2
              have j3 := (hb3.cell (p := ⟨bA, oA + j * 3 + 2, none⟩) hbw).trans k3
              have q1 := (hb3.cell (p := ⟨g5, m * 3, none⟩) hg5l).trans m1
              have q2 := (hb3.cell (p := ⟨g5, m * 3 + 1, none⟩) hg5l).trans m2
              have q3 := (hb3.cell (p := ⟨g5, m * 3 + 2, none⟩) hg5l).trans m3
              have p1 := (hb3.frozen (p := ⟨g5, m * 3, none⟩) hg5l).trans f1
              have p2 := (hb3.frozen (p := ⟨g5, m * 3 + 1, none⟩) hg5l).trans f2
              have p3 := (hb3.frozen (p := ⟨g5, m * 3 + 2, none⟩) hg5l).trans f3
              rw [← hw3]
              clear hw3 k1 k2 k3 m1 m2 m3 f1 f2 f3 hb3
              have HO8 : Hid (OwnBns (((w3.setCell ⟨g5, m * 3, none⟩ (.int .i64 (min d1 x1))).setCell ⟨g5, m * 3 + 1, none⟩ (.int .i64 (max d2 x2))).setCell ⟨g5, m * 3 + 2, none⟩ (.int .i64 (d3 + x3))).drew w.heap.size (.slice (some ⟨g5, 0, none⟩) acc.length c5) (acc.set m (jnB (d1, d2, d3) (x1, x2, x3)))) := ho3.set_ hml (min d1 x1, max d2 x2, d3 + x3)
              have HS8 := Lib.hid (((HS3.out.setCell (p := ⟨g5, m * 3, none⟩) hg5 (.int .i64 (min d1 x1))).setCell (p := ⟨g5, m * 3 + 1, none⟩) hg5 (.int .i64 (max d2 x2))).setCell (p := ⟨g5, m * 3 + 2, none⟩) hg5 (.int .i64 (d3 + x3)))
              have hsl : (acc.set m (jnB (d1, d2, d3) (x1, x2, x3))).length = acc.length := List.length_set ..
              have hgA : bA < g5 := by omega
              clear ho3
              go_wp2_with fail
              clear hS
              have hS : w3.cell? ⟨g5, m * 3, none⟩ = some (.int .i64 d1) ∧ w3.cell? ⟨g5, m * 3 + 1, none⟩ = some (.int .i64 d2) ∧ w3.cell? ⟨g5, m * 3 + 2, none⟩ = some (.int .i64 d3) ∧ w3.cell? ⟨bA, oA + j * 3, none⟩ = some (.int .i64 x1) ∧ w3.cell? ⟨bA, oA + j * 3 + 1, none⟩ = some (.int .i64 x2) ∧ w3.cell? ⟨bA, oA + j * 3 + 2, none⟩ = some (.int .i64 x3) := ⟨q1, q2, q3, j1, j2, j3⟩
              refine wp_region_text 33 (fun w' => w'.cell? ⟨g5, m * 3, none⟩ = some (.int .i64 d1) ∧ w'.cell? ⟨g5, m * 3 + 1, none⟩ = some (.int .i64 d2) ∧ w'.cell? ⟨g5, m * 3 + 2, none⟩ = some (.int .i64 d3) ∧ w'.cell? ⟨bA, oA + j * 3, none⟩ = some (.int .i64 x1) ∧ w'.cell? ⟨bA, oA + j * 3 + 1, none⟩ = some (.int .i64 x2) ∧ w'.cell? ⟨bA, oA + j * 3 + 2, none⟩ = some (.int .i64 x3)) (by kernel_rfl) (by kernel_rfl) ?_
              refine HT.take (i := 0) (oi := _) (v := ?_) rfl (by kernel_rfl) (by kernel_rfl) (by decide) (fun _ _ _ h => h) (Or.inl ⟨by rfl, ?_⟩) hS ?_
              rotate_left
              · intro wz
                go_simp
                try with_reducible rfl
              simp only [Act.put, List.setIfInBounds_toArray, List.set_cons_zero, List.set_cons_succ]
              refine HT.take (i := 1) (oi := _) (v := ?_) rfl (by kernel_rfl) (by kernel_rfl) (by decide) (fun _ _ _ h => h) (Or.inl ⟨by rfl, ?_⟩) hS ?_
              rotate_left
              · intro wz
                go_simp
                try with_reducible rfl
              simp only [Act.put, List.setIfInBounds_toArray, List.set_cons_zero, List.set_cons_succ]
              refine HT.take (i := 2) (oi := _) (v := ?_) rfl (by kernel_rfl) (by kernel_rfl) (by decide) (fun _ _ _ h => h) (Or.inl ⟨by rfl, ?_⟩) hS ?_
              rotate_left
              · intro wz
                go_simp
                try with_reducible rfl
              simp only [Act.put, List.setIfInBounds_toArray, List.set_cons_zero, List.set_cons_succ]
              refine HT.take (i := 3) (oi := _) (v := ?_) rfl (by kernel_rfl) (by kernel_rfl) (by decide) (fun _ _ _ h => h) (Or.inl ⟨by rfl, ?_⟩) hS ?_
              rotate_left
              · intro wz
                go_simp
                try with_reducible rfl
              simp only [Act.put, List.setIfInBounds_toArray, List.set_cons_zero, List.set_cons_succ]
              refine HT.take (i := 4) (oi := _) (v := ?_) rfl (by kernel_rfl) (by kernel_rfl) (by decide) (fun _ _ _ h => h) (Or.inl ⟨by rfl, ?_⟩) hS ?_
              rotate_left
              · intro wz
                go_simp
                try with_reducible rfl
              simp only [Act.put, List.setIfInBounds_toArray, List.set_cons_zero, List.set_cons_succ]
              refine HT.take (i := 5) (oi := _) (v := ?_) rfl (by kernel_rfl) (by kernel_rfl) (by decide) (fun _ _ _ h => h) (Or.inl ⟨by rfl, ?_⟩) hS ?_
              rotate_left
              · intro wz
                go_simp
                try with_reducible rfl
              simp only [Act.put, List.setIfInBounds_toArray, List.set_cons_zero, List.set_cons_succ]
              refine HT.load (i := 6) (oi := _) (v := ?_) rfl (by kernel_rfl) (by kernel_rfl) (by decide) (fun _ _ _ h => h) (by kernel_rfl) (Or.inl ⟨by rfl, ?_⟩) hS ?_
              rotate_left
              · intro wz hwz
                try dsimp only at hwz
                go_simp
                try with_reducible rfl
              simp only [Act.put, List.setIfInBounds_toArray, List.set_cons_zero, List.set_cons_succ]
              refine HT.take (i := 7) (oi := _) (v := ?_) rfl (by kernel_rfl) (by kernel_rfl) (by decide) (fun _ _ _ h => h) (Or.inl ⟨by rfl, ?_⟩) hS ?_
              rotate_left
              · intro wz
                go_simp
                try with_reducible rfl
              simp only [Act.put, List.setIfInBounds_toArray, List.set_cons_zero, List.set_cons_succ]
              refine HT.take (i := 8) (oi := _) (v := ?_) rfl (by kernel_rfl) (by kernel_rfl) (by decide) (fun _ _ _ h => h) (Or.inl ⟨by rfl, ?_⟩) hS ?_
              rotate_left
              · intro wz
                go_simp
                try with_reducible rfl
              simp only [Act.put, List.setIfInBounds_toArray, List.set_cons_zero, List.set_cons_succ]
              refine HT.take (i := 9) (oi := _) (v := ?_) rfl (by kernel_rfl) (by kernel_rfl) (by decide) (fun _ _ _ h => h) (Or.inl ⟨by rfl, ?_⟩) hS ?_
              rotate_left
              · intro wz
                go_simp
                try with_reducible rfl
              simp only [Act.put, List.setIfInBounds_toArray, List.set_cons_zero, List.set_cons_succ]
              refine HT.take (i := 10) (oi := _) (v := ?_) rfl (by kernel_rfl) (by kernel_rfl) (by decide) (fun _ _ _ h => h) (Or.inl ⟨by rfl, ?_⟩) hS ?_
              rotate_left
              · intro wz
                go_simp
                try with_reducible rfl
              simp only [Act.put, List.setIfInBounds_toArray, List.set_cons_zero, List.set_cons_succ]
              refine HT.load (i := 11) (oi := _) (v := ?_) rfl (by kernel_rfl) (by kernel_rfl) (by decide) (fun _ _ _ h => h) (by kernel_rfl) (Or.inl ⟨by rfl, ?_⟩) hS ?_
              rotate_left
              · intro wz hwz
                try dsimp only at hwz
                go_simp
                try with_reducible rfl
              simp only [Act.put, List.setIfInBounds_toArray, List.set_cons_zero, List.set_cons_succ]
              refine HT.take (i := 13) (oi := _) (v := ?_) rfl (by kernel_rfl) (by kernel_rfl) (by decide) (fun _ _ _ h => h) (Or.inl ⟨by rfl, ?_⟩) hS ?_
              rotate_left
              · intro wz
                go_simp
                try with_reducible rfl
              simp only [Act.put, List.setIfInBounds_toArray, List.set_cons_zero, List.set_cons_succ]
              refine HT.take (i := 14) (oi := _) (v := ?_) rfl (by kernel_rfl) (by kernel_rfl) (by decide) (fun _ _ _ h => h) (Or.inl ⟨by rfl, ?_⟩) hS ?_
              rotate_left
              · intro wz
                go_simp
                try with_reducible rfl
              simp only [Act.put, List.setIfInBounds_toArray, List.set_cons_zero, List.set_cons_succ]
              refine HT.take (i := 15) (oi := _) (v := ?_) rfl (by kernel_rfl) (by kernel_rfl) (by decide) (fun _ _ _ h => h) (Or.inl ⟨by rfl, ?_⟩) hS ?_
              rotate_left
              · intro wz
                go_simp
                try with_reducible rfl
              simp only [Act.put, List.setIfInBounds_toArray, List.set_cons_zero, List.set_cons_succ]
              refine HT.load (i := 16) (oi := _) (v := ?_) rfl (by kernel_rfl) (by kernel_rfl) (by decide) (fun _ _ _ h => h) (by kernel_rfl) (Or.inl ⟨by rfl, ?_⟩) hS ?_
              rotate_left
              · intro wz hwz
                try dsimp only at hwz
                go_simp
                try with_reducible rfl
              simp only [Act.put, List.setIfInBounds_toArray, List.set_cons_zero, List.set_cons_succ]
              refine HT.take (i := 17) (oi := _) (v := ?_) rfl (by kernel_rfl) (by kernel_rfl) (by decide) (fun _ _ _ h => h) (Or.inl ⟨by rfl, ?_⟩) hS ?_
              rotate_left
              · intro wz
                go_simp
                try with_reducible rfl
              simp only [Act.put, List.setIfInBounds_toArray, List.set_cons_zero, List.set_cons_succ]
              refine HT.take (i := 18) (oi := _) (v := ?_) rfl (by kernel_rfl) (by kernel_rfl) (by decide) (fun _ _ _ h => h) (Or.inl ⟨by rfl, ?_⟩) hS ?_
              rotate_left
              · intro wz
                go_simp
                try with_reducible rfl
              simp only [Act.put, List.setIfInBounds_toArray, List.set_cons_zero, List.set_cons_succ]
              refine HT.take (i := 19) (oi := _) (v := ?_) rfl (by kernel_rfl) (by kernel_rfl) (by decide) (fun _ _ _ h => h) (Or.inl ⟨by rfl, ?_⟩) hS ?_
              rotate_left
              · intro wz
                go_simp
                try with_reducible rfl
              simp only [Act.put, List.setIfInBounds_toArray, List.set_cons_zero, List.set_cons_succ]
              refine HT.take (i := 20) (oi := _) (v := ?_) rfl (by kernel_rfl) (by kernel_rfl) (by decide) (fun _ _ _ h => h) (Or.inl ⟨by rfl, ?_⟩) hS ?_
              rotate_left
              · intro wz
                go_simp
                try with_reducible rfl
              simp only [Act.put, List.setIfInBounds_toArray, List.set_cons_zero, List.set_cons_succ]
              refine HT.load (i := 21) (oi := _) (v := ?_) rfl (by kernel_rfl) (by kernel_rfl) (by decide) (fun _ _ _ h => h) (by kernel_rfl) (Or.inl ⟨by rfl, ?_⟩) hS ?_
              rotate_left
              · intro wz hwz
                try dsimp only at hwz
                go_simp
                try with_reducible rfl
              simp only [Act.put, List.setIfInBounds_toArray, List.set_cons_zero, List.set_cons_succ]
              refine HT.take (i := 23) (oi := _) (v := ?_) rfl (by kernel_rfl) (by kernel_rfl) (by decide) (fun _ _ _ h => h) (Or.inl ⟨by rfl, ?_⟩) hS ?_
              rotate_left
              · intro wz
                go_simp
                try with_reducible rfl
              simp only [Act.put, List.setIfInBounds_toArray, List.set_cons_zero, List.set_cons_succ]
              refine HT.take (i := 24) (oi := _) (v := ?_) rfl (by kernel_rfl) (by kernel_rfl) (by decide) (fun _ _ _ h => h) (Or.inl ⟨by rfl, ?_⟩) hS ?_
              rotate_left
              · intro wz
                go_simp
                try with_reducible rfl
              simp only [Act.put, List.setIfInBounds_toArray, List.set_cons_zero, List.set_cons_succ]
              refine HT.take (i := 25) (oi := _) (v := ?_) rfl (by kernel_rfl) (by kernel_rfl) (by decide) (fun _ _ _ h => h) (Or.inl ⟨by rfl, ?_⟩) hS ?_
              rotate_left
              · intro wz
                go_simp
                try with_reducible rfl
              simp only [Act.put, List.setIfInBounds_toArray, List.set_cons_zero, List.set_cons_succ]
              refine HT.load (i := 26) (oi := _) (v := ?_) rfl (by kernel_rfl) (by kernel_rfl) (by decide) (fun _ _ _ h => h) (by kernel_rfl) (Or.inl ⟨by rfl, ?_⟩) hS ?_
              rotate_left
              · intro wz hwz
                try dsimp only at hwz
                go_simp
                try with_reducible rfl
              simp only [Act.put, List.setIfInBounds_toArray, List.set_cons_zero, List.set_cons_succ]
              refine HT.take (i := 27) (oi := _) (v := ?_) rfl (by kernel_rfl) (by kernel_rfl) (by decide) (fun _ _ _ h => h) (Or.inl ⟨by rfl, ?_⟩) hS ?_
              rotate_left
              · intro wz
                go_simp
                try with_reducible rfl
              simp only [Act.put, List.setIfInBounds_toArray, List.set_cons_zero, List.set_cons_succ]
              refine HT.take (i := 28) (oi := _) (v := ?_) rfl (by kernel_rfl) (by kernel_rfl) (by decide) (fun _ _ _ h => h) (Or.inl ⟨by rfl, ?_⟩) hS ?_
              rotate_left
              · intro wz
                go_simp
                try with_reducible rfl
              simp only [Act.put, List.setIfInBounds_toArray, List.set_cons_zero, List.set_cons_succ]
              refine HT.take (i := 29) (oi := _) (v := ?_) rfl (by kernel_rfl) (by kernel_rfl) (by decide) (fun _ _ _ h => h) (Or.inl ⟨by rfl, ?_⟩) hS ?_
              rotate_left
              · intro wz
                go_simp
                try with_reducible rfl
              simp only [Act.put, List.setIfInBounds_toArray, List.set_cons_zero, List.set_cons_succ]
              refine HT.take (i := 30) (oi := _) (v := ?_) rfl (by kernel_rfl) (by kernel_rfl) (by decide) (fun _ _ _ h => h) (Or.inl ⟨by rfl, ?_⟩) hS ?_
              rotate_left
              · intro wz
                go_simp
                try with_reducible rfl
              simp only [Act.put, List.setIfInBounds_toArray, List.set_cons_zero, List.set_cons_succ]
              refine HT.load (i := 31) (oi := _) (v := ?_) rfl (by kernel_rfl) (by kernel_rfl) (by decide) (fun _ _ _ h => h) (by kernel_rfl) (Or.inl ⟨by rfl, ?_⟩) hS ?_
              rotate_left
              · intro wz hwz
                try dsimp only at hwz
                go_simp
                try with_reducible rfl
              simp only [Act.put, List.setIfInBounds_toArray, List.set_cons_zero, List.set_cons_succ]
              refine HT.take (i := 32) (oi := _) (v := ?_) rfl (by kernel_rfl) (by kernel_rfl) (by decide) (fun _ _ _ h => h) (Or.inl ⟨by rfl, ?_⟩) hS ?_
              rotate_left
              · intro wz
                go_simp
                try with_reducible rfl
              simp only [Act.put, List.setIfInBounds_toArray, List.set_cons_zero, List.set_cons_succ]
              have hlo : x1 < d1 ∨ ¬ x1 < d1 := by omega
              have hhi : d2 < x2 ∨ ¬ d2 < x2 := by omega
              rcases hlo with hlo | hlo <;> rcases hhi with hhi | hhi
              ·
                have e1 : min d1 x1 = x1 := by omega
                have e2 : max d2 x2 = x2 := by omega
                rw [e1, e2] at HO8 HS8
                clear e1 e2
                refine HT.take (i := 12) (oi := _) (v := ?_) rfl (by kernel_rfl) (by kernel_rfl) (by decide) (fun _ _ _ h => h) (Or.inl ⟨by rfl, ?_⟩) hS ?_
                rotate_left
                · intro wz
                  go_simp
                  try with_reducible rfl
                simp only [Act.put, List.setIfInBounds_toArray, List.set_cons_zero, List.set_cons_succ]
                refine HT.take (i := 22) (oi := _) (v := ?_) rfl (by kernel_rfl) (by kernel_rfl) (by decide) (fun _ _ _ h => h) (Or.inl ⟨by rfl, ?_⟩) hS ?_
                rotate_left
                · intro wz
                  go_simp
                  try with_reducible rfl
                simp only [Act.put, List.setIfInBounds_toArray, List.set_cons_zero, List.set_cons_succ]
                refine HT.done (by kernel_rfl) ?_
                clear hS
                simp only [List.drop_succ_cons, List.drop_zero]
                go_simp
                go_wp2_with fail
                go_roundw
                case rel => exact ⟨j + 1, _, by omega, by go_num, HS8.out.drew, HO8.out, HST2, HI2⟩
                case measure => simp [intOf]; omega
              ·
                have e1 : min d1 x1 = x1 := by omega
                have e2 : max d2 x2 = d2 := by omega
                rw [e1, e2] at HO8 HS8
                clear e1 e2
                refine HT.take (i := 12) (oi := _) (v := ?_) rfl (by kernel_rfl) (by kernel_rfl) (by decide) (fun _ _ _ h => h) (Or.inl ⟨by rfl, ?_⟩) hS ?_
                rotate_left
                · intro wz
                  go_simp
                  try with_reducible rfl
                simp only [Act.put, List.setIfInBounds_toArray, List.set_cons_zero, List.set_cons_succ]
                refine HT.take (i := 22) (oi := _) (v := ?_) rfl (by kernel_rfl) (by kernel_rfl) (by decide) (fun _ _ _ h => h) (Or.inl ⟨by rfl, ?_⟩) hS ?_
                rotate_left
                · intro wz
                  go_simp
                  try with_reducible rfl
                simp only [Act.put, List.setIfInBounds_toArray, List.set_cons_zero, List.set_cons_succ]
                refine HT.done (by kernel_rfl) ?_
                clear hS
                simp only [List.drop_succ_cons, List.drop_zero]
                go_simp
                go_wp2_with fail
                go_roundw
                case rel => exact ⟨j + 1, _, by omega, by go_num, HS8.out.drew, HO8.out, HST2, HI2⟩
                case measure => simp [intOf]; omega
              ·
                have e1 : min d1 x1 = d1 := by omega
                have e2 : max d2 x2 = x2 := by omega
                rw [e1, e2] at HO8 HS8
                clear e1 e2
                refine HT.take (i := 12) (oi := _) (v := ?_) rfl (by kernel_rfl) (by kernel_rfl) (by decide) (fun _ _ _ h => h) (Or.inl ⟨by rfl, ?_⟩) hS ?_
                rotate_left
                · intro wz
                  go_simp
                  try with_reducible rfl
                simp only [Act.put, List.setIfInBounds_toArray, List.set_cons_zero, List.set_cons_succ]
                refine HT.take (i := 22) (oi := _) (v := ?_) rfl (by kernel_rfl) (by kernel_rfl) (by decide) (fun _ _ _ h => h) (Or.inl ⟨by rfl, ?_⟩) hS ?_
                rotate_left
                · intro wz
                  go_simp
                  try with_reducible rfl
                simp only [Act.put, List.setIfInBounds_toArray, List.set_cons_zero, List.set_cons_succ]
                refine HT.done (by kernel_rfl) ?_
                clear hS
                simp only [List.drop_succ_cons, List.drop_zero]
                go_simp
                go_wp2_with fail
                go_roundw
                case rel => exact ⟨j + 1, _, by omega, by go_num, HS8.out.drew, HO8.out, HST2, HI2⟩
                case measure => simp [intOf]; omega
              ·
                have e1 : min d1 x1 = d1 := by omega
                have e2 : max d2 x2 = d2 := by omega
                rw [e1, e2] at HO8 HS8
                clear e1 e2
                refine HT.take (i := 12) (oi := _) (v := ?_) rfl (by kernel_rfl) (by kernel_rfl) (by decide) (fun _ _ _ h => h) (Or.inl ⟨by rfl, ?_⟩) hS ?_
                rotate_left
                · intro wz
                  go_simp
                  try with_reducible rfl
                simp only [Act.put, List.setIfInBounds_toArray, List.set_cons_zero, List.set_cons_succ]
                refine HT.take (i := 22) (oi := _) (v := ?_) rfl (by kernel_rfl) (by kernel_rfl) (by decide) (fun _ _ _ h => h) (Or.inl ⟨by rfl, ?_⟩) hS ?_
                rotate_left
                · intro wz
                  go_simp
                  try with_reducible rfl
                simp only [Act.put, List.setIfInBounds_toArray, List.set_cons_zero, List.set_cons_succ]
                refine HT.done (by kernel_rfl) ?_
                clear hS
                simp only [List.drop_succ_cons, List.drop_zero]
                go_simp
                go_wp2_with fail
                go_roundw
                case rel => exact ⟨j + 1, _, by omega, by go_num, HS8.out.drew, HO8.out, HST2, HI2⟩
                case measure => simp [intOf]; omega
        · obtain rfl : j = k := by omega
          go_wp2_with fail
          go_ret2
          exact ⟨_, _, acc, rfl, ho.out, hS.out, .inr (.inr ⟨hC0.out, by rw [hl.out]; exact hKK.out, rfl⟩)⟩
end Go.Proofs.Ytpnbkkpbgpcgiaa
