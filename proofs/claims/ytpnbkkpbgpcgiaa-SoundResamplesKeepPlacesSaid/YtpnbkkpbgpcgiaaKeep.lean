/- The law ResamplesKeepPlaces, walked. -/
import Derived.Test.YtpnbkkpbgpcgiaaRes4
import Derived.Test.YtpnbkkpbgpcgiaaLong
import Derived.Test.YtpnbkkpbgpcgiaaPeak
import Derived.Test.YtpnbkkpbgpcgiaaLift
import Derived.Test.YtpnbkkpbgpcgiaaSpecC
set_option linter.unusedSimpArgs false
set_option linter.unusedVariables false
namespace Go.Proofs.Ytpnbkkpbgpcgiaa
open Go.ChangeShapes Go.WideShapes Go.ChangeAt Go.RowKit Go.Dw

set_option maxHeartbeats 800000 in
theorem keep_out (r : Int) (A : Option Addr) (n c : Nat) (b : Int) (xss : List (List Int)) (w : World) (hb : b < 1 ∨ 20 < b) :
    Calls Try.prog 3 #[.agg #[.int .i64 r, .slice A n c], .int .i64 b] w fun e w' => e = .returned (.bool true) ∧ Below w.heap.size w w' := by
  by_cases h1 : b < 1
  · have d1 : decide (b < 1) = true := by simpa using h1
    clear hb
    go_enter Try.func3, Try.ntmps3
    go_wp2_with fail
    refine calls_later (w.heap.size + 1) ?_
    intro W hW hsW
    obtain ⟨hcW, hfW⟩ := bcell hW
    simp only [World.size_alloc] at hsW
    have hbW : Below w.heap.size w W := ((Below.refl _ w).alloc (Nat.le_refl _) _).trans (hW.mono (by omega))
    refine (AWAKE_any _).mono ?_
    rintro e w4 ⟨rfl, hb4⟩
    go_wp2_with fail
    go_ret
    exact ⟨rfl, hbW.trans (hb4.mono (by omega))⟩
  · have d1 : decide (b < 1) = false := by simpa using h1
    have d2 : decide (20 < b) = true := by simp; omega
    clear hb
    go_enter Try.func3, Try.ntmps3
    go_wp2_with fail
    refine calls_later (w.heap.size + 1) ?_
    intro W hW hsW
    obtain ⟨hcW, hfW⟩ := bcell hW
    simp only [World.size_alloc] at hsW
    have hbW : Below w.heap.size w W := ((Below.refl _ w).alloc (Nat.le_refl _) _).trans (hW.mono (by omega))
    refine (AWAKE_any _).mono ?_
    rintro e w4 ⟨rfl, hb4⟩
    go_wp2_with fail
    go_ret
    exact ⟨rfl, hbW.trans (hb4.mono (by omega))⟩
set_option maxHeartbeats 800000 in
theorem keep_err (r : Int) (A : Option Addr) (n c : Nat) (b q F : Int) (xss : List (List Int)) (w : World) (hh : Hid (RowsAt w w.heap.size A n xss)) (hb1 : 1 ≤ b) (hb2 : b ≤ 20) (hq : Hid (wrap64 (r * b) = q)) (hE : Hid (rsS r xss q = (0, [], F))) (hF : F ≠ 0) :
    Calls Try.prog 3 #[.agg #[.int .i64 r, .slice A n c], .int .i64 b] w fun e w' => e = .returned (.bool true) ∧ Below w.heap.size w w' := by
  have d1 : decide (b < 1) = false := by simp; omega
  have d2 : decide (20 < b) = false := by simp; omega
  have d3 : (F != 0) = true := by simpa using hF
  go_enter Try.func3, Try.ntmps3
  go_wp2_with fail
  refine calls_later (w.heap.size + 1) ?_
  intro W hW hsW
  obtain ⟨hcW, hfW⟩ := bcell hW
  simp only [World.size_alloc] at hsW
  have hbW : Below w.heap.size w W := ((Below.refl _ w).alloc (Nat.le_refl _) _).trans (hW.mono (by omega))
  rw [hq.out]
  refine (RESAMPLE_any r A n c q xss _ w.heap.size (by omega) (hh.out.below hbW (Nat.le_refl _))).mono ?_
  rw [hE.out]
  rintro e w1 ⟨v1, rfl, ho1, hb1⟩
  obtain ⟨A1, c1, rfl, _, _⟩ := ho1.form
  have hz1 := pcell (hb1.mono hsW)
  have hs1 := hb1.size
  have hbw1 := hbW.trans (hb1.mono (show w.heap.size ≤ W.heap.size by omega))
  have hlt0 : w.heap.size < w1.heap.size := by omega
  have hl0 : ([] : List (List Int)).length = 0 := rfl
  go_wp2_with fail
  refine (AWAKE_any _).mono ?_
  rintro e w4 ⟨rfl, hb4⟩
  go_wp2_with fail
  go_ret
  exact ⟨rfl, (hbw1.trans ((Below.refl _ _).alloc (by omega) _)).trans (hb4.mono (by simp; omega))⟩

set_option maxRecDepth 100000 in
set_option maxHeartbeats 4000000 in
theorem keep_ok (r : Int) (ad : Addr) (n c : Nat) (b q : Int) (m : Nat) (xss : List (List Int)) (w : World) (hh : Hid (RowsAt w w.heap.size (some ad) n xss)) (hok : Hid (OkS r xss)) (hb1 : 1 ≤ b) (hb2 : b ≤ 20) (hq : Hid (wrap64 (r * b) = q)) (hE : Hid (rsS r xss q = (q, genS (rsV r q) m xss, 0))) (hm : Hid (IntKind.i64.wrap ((len0 xss : Int) * b) = (m : Int))) (hm2 : Hid ((len0 xss : Int) * b = m)) (hm9 : m ≤ 100000) (hrq : Hid (q = r * b)) :
    Calls Try.prog 3 #[.agg #[.int .i64 r, .slice (some ad) n c], .int .i64 b] w fun e w' => e = .returned (.bool true) ∧ Below w.heap.size w w' := by
  have d1 : decide (b < 1) = false := by simp; omega
  have d2 : decide (20 < b) = false := by simp; omega
  have hl := Lib.hid hh.out.1
  have hn16 : n ≤ 16 := by have := hok.out.few; have := hl.out; omega
  have hn : 0 < n := by have := hok.out.some; have := hl.out; omega
  have hYl := Lib.hid ((genS_length (g := rsV r q) (m := m) (xss := xss)).trans hl.out)
  have hY0 : Hid (len0 (genS (rsV r q) m xss) = m) := genS_len (g := rsV r q) (m := m) (by rw [hl.out]; exact hn)
  go_enter Try.func3, Try.ntmps3
  go_wp2_with fail
  refine calls_later (w.heap.size + 1) ?_
  intro W hW hsW
  obtain ⟨hcW, hfW⟩ := bcell hW
  simp only [World.size_alloc] at hsW
  have hbW : Below w.heap.size w W := ((Below.refl _ w).alloc (Nat.le_refl _) _).trans (hW.mono (by omega))
  rw [hq.out]
  refine (RESAMPLE_any r (some ad) n c q xss _ w.heap.size (by omega) (hh.out.below hbW (Nat.le_refl _))).mono ?_
  rw [hE.out]
  rintro e w1 ⟨v1, rfl, ho1, hb1⟩
  obtain ⟨A1, c1, rfl, _, _⟩ := ho1.form
  have hz1 := pcell (hb1.mono hsW)
  have hs1 := hb1.size
  have hbw1 := hbW.trans (hb1.mono (show w.heap.size ≤ W.heap.size by omega))
  have hlt0 : w.heap.size < w1.heap.size := by omega
  dsimp only at ho1 ⊢
  rw [hYl.out]
  have HA := ho1.rows
  rw [hYl.out] at HA
  have HA' := Lib.hid HA
  clear HA ho1
  go_wp2_with fail
  obtain ⟨g, hg⟩ : ∃ g, g = w1.heap.size := ⟨_, rfl⟩
  rw [← hg] at hlt0 HA' ⊢
  refine wp_later (g + 1) ?_
  intro W2 hW2 hsW2
  simp only [World.size_alloc, ← hg] at hsW2
  have hbW2 : Below w.heap.size w W2 := (hbw1.trans ((Below.refl _ _).alloc (by omega) _)).trans (hW2.mono (by omega))
  have hcs0 : W2.cell? ⟨w.heap.size, 0, none⟩ = some (.int .i64 r) := by
    rw [(bcell hW2).1 _ _ (by omega), World.cell?_alloc_lt _ _ _ (by simp; omega), hz1 _ (by simp), hcW _ _ (by omega)]; simp [go_sem]
  have hcs1 : W2.cell? ⟨w.heap.size, 1, none⟩ = some (.slice (some ad) n c) := by
    rw [(bcell hW2).1 _ _ (by omega), World.cell?_alloc_lt _ _ _ (by simp; omega), hz1 _ (by simp), hcW _ _ (by omega)]; simp [go_sem]
  have hca0 : W2.cell? ⟨g, 0, none⟩ = some (.int .i64 q) := by
    rw [(bcell hW2).1 _ _ (by omega), hg]; simp [go_sem]
  have hca1 : W2.cell? ⟨g, 1, none⟩ = some (.slice A1 n c1) := by
    rw [(bcell hW2).1 _ _ (by omega), hg]; simp [go_sem]
  have HS := Lib.hid (hh.out.below hbW2 (Nat.le_refl _))
  have HY := Lib.hid ((HA'.out.below (show Below g w1 (w1.alloc (.cells #[.int .i64 q, .slice A1 n c1] 24)) from (Below.refl _ _).alloc (by omega) _) (Nat.le_refl _)).below (hW2.mono (by omega)) (Nat.le_refl _))
  have hgs : w.heap.size < g + 1 := by omega
  clear hW2 hz1 hcW hfW hW HA' hb1 hE hq hs1 hsW hbW hg hlt0
  go_region_held3 (fun w' => Below (g + 1) W2 w' ∧ ∀ z : Addr, z.block < g + 1 → w'.cell? z = W2.cell? z)
    ((refine (fun h => ⟨h, pcell h⟩) ?_; repeat (first | assumption | exact Below.refl _ _ | (refine Below.drew ?_) | (refine Below.alloc ?_ (by first | omega | (simp; omega) | exact Nat.le_trans hsW (Below.size (by assumption)) | (simp only [World.size_drew, World.size_alloc]; exact Nat.le_trans hsW (Nat.le_succ_of_le (Below.size (by assumption))))) _) | (refine Below.setCell ?_ (by first | omega | (simp; omega) | exact Nat.le_trans hsW (Below.size (by assumption))) _))))
    (first
      | (go_at_call 21; (with_reducible refine (LLONG_any q A1 n c1 (genS (rsV r q) m xss) _ g ?_ ?_).mono ?_); (exact Below.ge ‹Below (g + 1) W2 _ ∧ _› hsW2 (by omega)); (exact HY.out.below ((‹Below (g + 1) W2 _ ∧ _›).1.mono (show g ≤ g + 1 by omega)) (Nat.le_refl _)); rw [hY0.out]; rintro e w2 ⟨rfl, hb2⟩; have hbS := Below.next (‹Below (g + 1) W2 _ ∧ _›).1 hsW2 hb2)
      | (go_at_call 21; (with_reducible refine (LLONG_any r (some ad) n c xss _ w.heap.size ?_ ?_).mono ?_); (exact Below.ge ‹Below (g + 1) W2 _ ∧ _› hsW2 (by omega)); (exact HS.out.below ((‹Below (g + 1) W2 _ ∧ _›).1.mono (show w.heap.size ≤ g + 1 by omega)) (Nat.le_refl _)); rintro e w2 ⟨rfl, hb2⟩; have hbS := Below.next (‹Below (g + 1) W2 _ ∧ _›).1 hsW2 hb2))
  rw [hm.out]
  rw [show ((m : Int) != (m : Int)) = false by simp]
  clear hb2
  have hbS' := Lib.hid hbS
  have hb1' : ¬ b = 0 := by omega
  clear hbS
  go_wp2_with fail
  go_loopw [7] (fun i wr => ∃ k : Nat, k ≤ n ∧ i = .int .i64 k ∧ Hid (Below (g + 1) W2 wr)) (fun i _ => n - (intOf i).toNat)
  case atStart => exact ⟨0, Nat.zero_le _, rfl, hbS'⟩
  case round =>
    obtain ⟨k, hk, rfl, HB⟩ := hrel
    have hz := pcell HB.out
    by_cases hlt : k < n
    · have hkx : Hid (k < xss.length) := by show _ < _; have := hl.out; omega
      obtain ⟨A', n', c', hadB, hcell, hn', hc', hi⟩ := HS.out.row hlt
      obtain rfl : n' = len0 xss := hi.1.symm.trans (hok.out.row hkx.out).1
      obtain ⟨ay, rfl⟩ := HY.out.addr hn
      obtain ⟨AY, nY, cY, hayB, hcellY, hnY, hcY, hiY⟩ := HY.out.row hlt
      obtain rfl : nY = m := hiY.1.symm.trans (genS_len hkx.out)
      have hi' := Lib.hid hi
      have hiY' := Lib.hid hiY
      have hadk : (ad.add k).block < g + 1 := by rw [block_of_add]; omega
      have hayk : (ay.add k).block < g + 1 := by rw [block_of_add]; omega
      clear hi hiY
      unfold maxLen at hc' hcY
      have hk0 : (0 : Int) ≤ (k : Int) := by omega
      have hkn : (k : Int) < (n : Int) := by omega
      go_wp2_with fail
      go_loopw [8] (fun i wr => ∃ j : Nat, j ≤ nY ∧ i = .int .i64 j ∧ Hid (Below (g + 1) W2 wr)) (fun i _ => nY - (intOf i).toNat)
      case atStart => exact ⟨0, Nat.zero_le _, rfl, HB⟩
      case round =>
        obtain ⟨j, hj, rfl, HB2⟩ := hrel
        have hz := pcell HB2.out
        by_cases hjl : j < nY
        · have hi0 := Int.ediv_nonneg (a := (j : Int)) (b := b) (by omega) (by omega)
          have hil0 : (j : Int) / b < (len0 xss : Int) := Int.ediv_lt_of_lt_mul (by omega) (by rw [hm2.out]; omega)
          obtain ⟨i, hi⟩ := Int.eq_ofNat_of_zero_le hi0
          have Hi := Lib.hid hi
          have hil : i < len0 xss := by omega
          obtain ⟨ad', rfl⟩ := hi'.out.addr (by omega)
          obtain ⟨ay', rfl⟩ := hiY'.out.addr (by omega)
          have hci := (hi'.out.at_ hil).2
          have hcy := (hiY'.out.at_ hjl).2
          have hb' := (hi'.out.at_ hil).1
          have hby := (hiY'.out.at_ hjl).1
          clear hi hi0 hil0
          go_wp2_with fail
          (with_reducible refine (LLONG_any q (some ay) n c1 (genS (rsV r q) nY xss) _ g ?_ ?_).mono ?_)
          · exact Nat.le_trans (by omega) HB2.out.size
          · exact HY.out.below (HB2.out.mono (by omega)) (Nat.le_refl _)
          rw [hY0.out]
          rintro e w3 ⟨rfl, hb3⟩
          have HB3 := Lib.hid (Below.next HB2.out hsW2 hb3)
          clear hz hb3 HB2
          have hz := pcell HB3.out
          go_wp2_with fail
          have hj0 : (0 : Int) ≤ (j : Int) := by omega
          have hi00 : (0 : Int) ≤ (i : Int) := by omega
          have hiln : (i : Int) < (len0 xss : Int) := by omega
          have hQ := Hi.out
          have hzi := (pcell HB3.out (ad'.add i) (by rw [block_of_add]; omega)).trans hci
          go_quiet (fail)
          go_wp2_with fail
          obtain ⟨wd, hwd⟩ : ∃ wd, wd = w3.drewN nq := ⟨_, rfl⟩
          have hbd : Below (g + 1) W2 wd := by rw [hwd]; exact belowN HB3.out nq
          rw [← hwd]
          have HL := rs_keep (xs := rowOf xss k) (k := j) (r := r) (b := b) (rateB_yes hok.out.rate).1 hb1
          rw [← hrq.out, Hi.out, Int.toNat_natCast, (hok.out.row hkx.out).1, ← genS_el (g := rsV r q) (m := nY) hkx.out hjl] at HL
          obtain ⟨z, hz0⟩ : ∃ z, elOf (rowOf (genS (rsV r q) nY xss) k) j = z := ⟨_, rfl⟩
          obtain ⟨x, hx0⟩ : ∃ x, elOf (rowOf xss k) i = x := ⟨_, rfl⟩
          rw [hx0]
          rw [hz0] at hcy
          rw [hz0, hx0] at HL
          have HL' := Lib.hid HL
          clear hwd hzi hz0 hx0 hQ hz HL
          have HW1 := Lib.hid (IntWalk.i64_in (i : Int) (by omega))
          have HW2 := Lib.hid (IntWalk.i64_in ((i : Int) + 1) (by omega))
          have hQ := Hi.out
          by_cases hlast : i + 1 < len0 xss
          · have hci1 := (hi'.out.at_ hlast).2
            obtain ⟨y, hy0⟩ : ∃ y, elOf (rowOf xss k) (i + 1) = y := ⟨_, rfl⟩
            rw [hy0] at HL' hci1
            clear hy0
            have hLo := (HL'.out.2.1 hlast).1
            have hHi := (HL'.out.2.1 hlast).2
            obtain ⟨i1, hi1⟩ : ∃ i1, i1 = i + 1 := ⟨_, rfl⟩
            have hi1' : (i : Int) + 1 = (i1 : Int) := by omega
            rw [hi1'] at HW2
            rw [← hi1] at hci1
            have hi2 : (i1 : Int) < (len0 xss : Int) := by omega
            have hi3 : (0 : Int) ≤ (i1 : Int) := by omega
            clear hi1
            go_region_held3 (fun w' => Below (g + 1) W2 w' ∧ ∀ z : Addr, z.block < g + 1 → w'.cell? z = W2.cell? z)
              ((refine (fun h => ⟨h, pcell h⟩) ?_; repeat (first | assumption | exact Below.refl _ _ | (refine Below.drew ?_) | (refine Below.alloc ?_ (by first | omega | (simp; omega) | exact Nat.le_trans hsW (Below.size (by assumption)) | (simp only [World.size_drew, World.size_alloc]; exact Nat.le_trans hsW (Nat.le_succ_of_le (Below.size (by assumption))))) _) | (refine Below.setCell ?_ (by first | omega | (simp; omega) | exact Nat.le_trans hsW (Below.size (by assumption))) _))))
              ((go_at_call 21; (with_reducible refine (LLONG_any r (some ad) n c xss _ w.heap.size ?_ ?_).mono ?_); (exact Below.ge ‹Below (g + 1) W2 _ ∧ _› hsW2 (by omega)); (exact HS.out.below ((‹Below (g + 1) W2 _ ∧ _›).1.mono (show w.heap.size ≤ g + 1 by omega)) (Nat.le_refl _)); rintro e w2 ⟨rfl, hb2⟩; have hbS := Below.next (‹Below (g + 1) W2 _ ∧ _›).1 hsW2 hb2))
            rw [HW1.out, hi1', HW2.out]
            have HB4 := Lib.hid hbS
            have hzi := (pcell hbS (ad'.add i1) (by rw [block_of_add]; omega)).trans hci1
            have hz := pcell hbS
            have HW3 := HW1.out
            have HW4 := HW2.out
            clear hbS hb2
            go_wp2_with fail
            go_quiet (fail)
            have hzj := (pcell HB4.out (ay'.add j) (by rw [block_of_add]; omega)).trans hcy
            have hHL := Lib.hid (show (j : Int) % b = 0 → z = x from HL'.out.1)
            have hex : x < y ∨ x = y ∨ y < x := by omega
            rcases hex with hxy | hxy | hxy
            · have e1 := eq_true hxy
              have e2 := eq_false (show ¬ y < x by omega)
              have l1 : x ≤ z := by omega
              have l2 : z ≤ y := by omega
              clear hLo hHi hxy HL' hQ HW3 HW4 hci hcy hzi hi1' hcell
              by_cases hr0 : (j : Int) % b = 0
              · obtain rfl : z = x := hHL.out hr0
                have hr1 : ((j : Int) % b == 0) = true := by simp [hr0]
                clear hr0 hHL
                go_wp2_with fail
                go_roundw
                case rel => exact ⟨j + 1, by omega, by go_num, belowN HB4.out _⟩
                case measure => simp [intOf]; omega
              · have hr1 : ((j : Int) % b == 0) = false := by simpa using hr0
                clear hr0 hHL
                go_wp2_with fail
                go_roundw
                case rel => exact ⟨j + 1, by omega, by go_num, belowN HB4.out _⟩
                case measure => simp [intOf]; omega
            · obtain rfl : z = x := by omega
              obtain rfl : z = y := hxy
              clear hLo hHi HL' hQ HW3 HW4 hci hcy hzi hi1' hcell hHL
              by_cases hr0 : (j : Int) % b = 0
              · have hr1 : ((j : Int) % b == 0) = true := by simp [hr0]
                clear hr0
                go_wp2_with fail
                go_roundw
                case rel => exact ⟨j + 1, by omega, by go_num, belowN HB4.out _⟩
                case measure => simp [intOf]; omega
              · have hr1 : ((j : Int) % b == 0) = false := by simpa using hr0
                clear hr0
                go_wp2_with fail
                go_roundw
                case rel => exact ⟨j + 1, by omega, by go_num, belowN HB4.out _⟩
                case measure => simp [intOf]; omega
            · have e1 := eq_true hxy
              have e2 := eq_false (show ¬ x < y by omega)
              have l1 : y ≤ z := by omega
              have l2 : z ≤ x := by omega
              clear hLo hHi hxy HL' hQ HW3 HW4 hci hcy hzi hi1' hcell
              by_cases hr0 : (j : Int) % b = 0
              · obtain rfl : z = x := hHL.out hr0
                have hr1 : ((j : Int) % b == 0) = true := by simp [hr0]
                clear hr0 hHL
                go_wp2_with fail
                go_roundw
                case rel => exact ⟨j + 1, by omega, by go_num, belowN HB4.out _⟩
                case measure => simp [intOf]; omega
              · have hr1 : ((j : Int) % b == 0) = false := by simpa using hr0
                clear hr0 hHL
                go_wp2_with fail
                go_roundw
                case rel => exact ⟨j + 1, by omega, by go_num, belowN HB4.out _⟩
                case measure => simp [intOf]; omega
          · have hx0 : z = x := HL'.out.2.2 hlast
            subst hx0
            have hi2 : ¬ (i : Int) + 1 < (len0 xss : Int) := by omega
            go_region_held3 (fun w' => Below (g + 1) W2 w' ∧ ∀ z : Addr, z.block < g + 1 → w'.cell? z = W2.cell? z)
              ((refine (fun h => ⟨h, pcell h⟩) ?_; repeat (first | assumption | exact Below.refl _ _ | (refine Below.drew ?_) | (refine Below.alloc ?_ (by first | omega | (simp; omega) | exact Nat.le_trans hsW (Below.size (by assumption)) | (simp only [World.size_drew, World.size_alloc]; exact Nat.le_trans hsW (Nat.le_succ_of_le (Below.size (by assumption))))) _) | (refine Below.setCell ?_ (by first | omega | (simp; omega) | exact Nat.le_trans hsW (Below.size (by assumption))) _))))
              ((go_at_call 21; (with_reducible refine (LLONG_any r (some ad) n c xss _ w.heap.size ?_ ?_).mono ?_); (exact Below.ge ‹Below (g + 1) W2 _ ∧ _› hsW2 (by omega)); (exact HS.out.below ((‹Below (g + 1) W2 _ ∧ _›).1.mono (show w.heap.size ≤ g + 1 by omega)) (Nat.le_refl _)); rintro e w2 ⟨rfl, hb2⟩; have hbS := Below.next (‹Below (g + 1) W2 _ ∧ _›).1 hsW2 hb2))
            rw [HW1.out, HW2.out]
            have HB4 := Lib.hid hbS
            have hz := pcell hbS
            have hzj := (pcell HB4.out (ay'.add j) (by rw [block_of_add]; omega)).trans hcy
            clear hbS hb2 HL' hQ hci hcy hcell
            by_cases hr0 : (j : Int) % b = 0
            · have hr1 : ((j : Int) % b == 0) = true := by simp [hr0]
              clear hr0
              go_wp2_with fail
              go_roundw
              case rel => exact ⟨j + 1, by omega, by go_num, HB4⟩
              case measure => simp [intOf]; omega
            · have hr1 : ((j : Int) % b == 0) = false := by simpa using hr0
              clear hr0
              go_wp2_with fail
              go_roundw
              case rel => exact ⟨j + 1, by omega, by go_num, HB4⟩
              case measure => simp [intOf]; omega
        · obtain rfl : j = nY := by omega
          go_wp2_with fail
          (with_reducible refine (LLONG_any q (some ay) n c1 (genS (rsV r q) j xss) _ g ?_ ?_).mono ?_)
          · exact Nat.le_trans (by omega) HB2.out.size
          · exact HY.out.below (HB2.out.mono (by omega)) (Nat.le_refl _)
          rw [hY0.out]
          rintro e w3 ⟨rfl, hb3⟩
          have HB3 := Lib.hid (Below.next HB2.out hsW2 hb3)
          clear hz hb3 HB2
          go_wp2_with fail
          go_roundw
          case rel => exact ⟨k + 1, by omega, by go_num, HB3⟩
          case measure => simp [intOf]; omega
    · obtain rfl : k = n := by omega
      go_wp2_with fail
      refine (AWAKE_any _).mono ?_
      rintro e w4 ⟨rfl, hb4⟩
      go_wp2_with fail
      go_ret
      exact ⟨rfl, hbW2.trans ((HB.out.mono (by omega)).trans (hb4.mono (Nat.le_trans (by omega) HB.out.size)))⟩
theorem lawKeep_walk (r : Int) (A : Option Addr) (n c : Nat) (b : Int) (xss : List (List Int)) (w : World) (hh : Hid (RowsAt w w.heap.size A n xss)) :
    Calls Try.prog 3 #[.agg #[.int .i64 r, .slice A n c], .int .i64 b] w fun e w' => e = .returned (.bool true) ∧ Below w.heap.size w w' := by
  by_cases hb : b < 1 ∨ 20 < b
  · exact keep_out r A n c b xss w hb
  · obtain ⟨q, hq⟩ : ∃ q, wrap64 (r * b) = q := ⟨_, rfl⟩
    by_cases hc : chkS r xss = 0
    · have hok := chkS_ok hc
      obtain ⟨r1, r2⟩ := rateB_yes hok.rate
      have p1 : r * b ≤ 1000000 * 20 := Int.mul_le_mul r2 (by omega) (by omega) (by omega)
      have p2 : 0 ≤ r * b := Int.mul_nonneg (by omega) (by omega)
      have hqr : q = r * b := by rw [← hq]; exact IntWalk.wrap64_in _ ⟨by omega, by omega⟩
      cases hr : rateB q with
      | false => exact keep_err r A n c b q 1 xss w hh (by omega) (by omega) hq (show _ = _ by unfold rsS; rw [if_neg (by simp [hc]), if_pos hr]) (by omega)
      | true =>
        by_cases hl : 100000 < rsN (len0 xss) r q
        · exact keep_err r A n c b q 2 xss w hh (by omega) (by omega) hq (show _ = _ by unfold rsS; rw [if_neg (by simp [hc]), if_neg (by simp [hr]), if_pos hl]) (by omega)
        · have hE : rsS r xss q = (q, genS (rsV r q) (rsN (len0 xss) r q).toNat xss, 0) := by unfold rsS; rw [if_neg (by simp [hc]), if_neg (by simp [hr]), if_neg hl]
          have hN := rsN_times (m := len0 xss) (b := b) r1
          rw [← hqr] at hN
          have p3 : 0 ≤ (len0 xss : Int) * b := Int.mul_nonneg (by omega) (by omega)
          obtain ⟨m, hm⟩ := Int.eq_ofNat_of_zero_le p3
          have hM : (rsN (len0 xss) r q).toNat = m := by rw [hN, hm]; rfl
          rw [hM] at hE
          have hn : 0 < n := by have := hok.some; have := hh.out.1; omega
          obtain ⟨ad, rfl⟩ := hh.out.addr hn
          exact keep_ok r ad n c b q m xss w hh hok (by omega) (by omega) hq hE (show _ = _ by rw [hm]; exact IntWalk.i64_in _ (by omega)) hm (by omega) hqr
    · exact keep_err r A n c b q (chkS r xss) xss w hh (by omega) (by omega) hq (show _ = _ by unfold rsS; rw [if_pos hc]) hc
end Go.Proofs.Ytpnbkkpbgpcgiaa
