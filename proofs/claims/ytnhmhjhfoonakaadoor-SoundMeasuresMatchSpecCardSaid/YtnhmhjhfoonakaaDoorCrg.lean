/- Crossings on both sides. -/
import Derived.Test.YtnhmhjhfoonakaaDoorPeak
import Derived.Test.YtnhmhjhfoonakaaDoorMsp
import Derived.Deep.RegionHeld3
set_option linter.unusedSimpArgs false
set_option linter.unusedVariables false
namespace Go.Proofs.YtnhmhjhfoonakaaDoor
open Go.RowKit Go.Dw
/-- what Crossings returns -/
def croS (r : Int) (xss : List (List Int)) (t : Int) : Int × Int :=
  if chkS r xss ≠ 0 then (0, chkS r xss) else if t < 0 ∨ (xss.length : Int) ≤ t then (0, 1) else ((stR crU (0, 0) (rowOf xss t.toNat)).1, 0)
set_option maxHeartbeats 800000 in
theorem CROSSINGS_chk (r : Int) (A : Option Addr) (n c : Nat) (t : Int) (xss : List (List Int)) (hc : chkS r xss ≠ 0) (w : World) (B : Nat) (hB : B ≤ w.heap.size) (hh : Hid (RowsAt w B A n xss)) :
    Calls Tryd.prog 16 #[.agg #[.int .i64 r, .slice A n c], .int .i64 t] w fun e w' => e = .returned (.tuple #[.int .i64 0, .int .i64 (chkS r xss)]) ∧ Below w.heap.size w w' := by
  have hq : (chkS r xss != 0) = true := by simpa using hc
  clear hc
  go_enter Tryd.func16, Tryd.ntmps16
  go_wp2_with fail
  refine calls_later (w.heap.size + 1) ?_
  intro W hW hsW
  obtain ⟨hcW, hfW⟩ := bcell hW
  simp only [World.size_alloc] at hsW
  have hbW : Below w.heap.size w W := ((Below.refl _ w).alloc (Nat.le_refl _) _).trans (hW.mono (by omega))
  go_wp2_with (go_at_call 18; refine (CHECK_any r A n c xss _ B (by omega) (hh.out.below hbW hB)).mono ?_; rintro e w1 ⟨rfl, hb1⟩; have hz1 := pcell (hb1.mono hsW))
  go_ret2
  exact ⟨rfl, hbW.trans (hb1.mono (by omega))⟩
set_option maxHeartbeats 1600000 in
theorem CROSSINGS_bad (r : Int) (A : Option Addr) (n c : Nat) (t : Int) (xss : List (List Int)) (hc : Hid (chkS r xss = 0)) (hbad : t < 0 ∨ (n : Int) ≤ t) (w : World) (B : Nat) (hB : B ≤ w.heap.size) (hh : Hid (RowsAt w B A n xss)) :
    Calls Tryd.prog 16 #[.agg #[.int .i64 r, .slice A n c], .int .i64 t] w fun e w' => e = .returned (.tuple #[.int .i64 0, .int .i64 1]) ∧ Below w.heap.size w w' := by
  have hq : (chkS r xss != 0) = false := by rw [hc.out]; rfl
  by_cases h1 : t < 0
  · have d1 : decide (t < 0) = true := by simpa using h1
    clear h1 hbad
    go_enter Tryd.func16, Tryd.ntmps16
    go_wp2_with fail
    refine calls_later (w.heap.size + 1) ?_
    intro W hW hsW
    obtain ⟨hcW, hfW⟩ := bcell hW
    simp only [World.size_alloc] at hsW
    have hbW : Below w.heap.size w W := ((Below.refl _ w).alloc (Nat.le_refl _) _).trans (hW.mono (by omega))
    go_wp2_with (go_at_call 18; refine (CHECK_any r A n c xss _ B (by omega) (hh.out.below hbW hB)).mono ?_; rintro e w1 ⟨rfl, hb1⟩; have hz1 := pcell (hb1.mono hsW))
    go_ret2
    exact ⟨rfl, hbW.trans (hb1.mono (by omega))⟩
  · have d1 : decide (t < 0) = false := by simpa using h1
    have d2 : decide ((n : Int) ≤ t) = true := by simp; omega
    clear h1 hbad
    go_enter Tryd.func16, Tryd.ntmps16
    go_wp2_with fail
    refine calls_later (w.heap.size + 1) ?_
    intro W hW hsW
    obtain ⟨hcW, hfW⟩ := bcell hW
    simp only [World.size_alloc] at hsW
    have hbW : Below w.heap.size w W := ((Below.refl _ w).alloc (Nat.le_refl _) _).trans (hW.mono (by omega))
    go_wp2_with (go_at_call 18; refine (CHECK_any r A n c xss _ B (by omega) (hh.out.below hbW hB)).mono ?_; rintro e w1 ⟨rfl, hb1⟩; have hz1 := pcell (hb1.mono hsW))
    go_ret2
    exact ⟨rfl, hbW.trans (hb1.mono (by omega))⟩
set_option maxHeartbeats 800000 in
theorem RCROSSINGS_chk (r : Int) (A : Option Addr) (n c : Nat) (t : Int) (xss : List (List Int)) (hc : chkS r xss ≠ 0) (w : World) (B : Nat) (hB : B ≤ w.heap.size) (hh : Hid (RowsAt w B A n xss)) :
    Calls Tryd.prog 17 #[.agg #[.int .i64 r, .slice A n c], .int .i64 t] w fun e w' => e = .returned (.tuple #[.int .i64 0, .int .i64 (chkS r xss)]) ∧ Below w.heap.size w w' := by
  have hq : (chkS r xss != 0) = true := by simpa using hc
  clear hc
  go_enter Tryd.func17, Tryd.ntmps17
  go_wp2_with fail
  refine calls_later (w.heap.size + 1) ?_
  intro W hW hsW
  obtain ⟨hcW, hfW⟩ := bcell hW
  simp only [World.size_alloc] at hsW
  have hbW : Below w.heap.size w W := ((Below.refl _ w).alloc (Nat.le_refl _) _).trans (hW.mono (by omega))
  go_wp2_with (go_at_call 24; refine (RCHECK_any r A n c xss _ B (by omega) (hh.out.below hbW hB)).mono ?_; rintro e w1 ⟨rfl, hb1⟩; have hz1 := pcell (hb1.mono hsW))
  go_ret2
  exact ⟨rfl, hbW.trans (hb1.mono (by omega))⟩
set_option maxHeartbeats 1600000 in
theorem RCROSSINGS_bad (r : Int) (A : Option Addr) (n c : Nat) (t : Int) (xss : List (List Int)) (hc : Hid (chkS r xss = 0)) (hbad : t < 0 ∨ (n : Int) ≤ t) (w : World) (B : Nat) (hB : B ≤ w.heap.size) (hh : Hid (RowsAt w B A n xss)) :
    Calls Tryd.prog 17 #[.agg #[.int .i64 r, .slice A n c], .int .i64 t] w fun e w' => e = .returned (.tuple #[.int .i64 0, .int .i64 1]) ∧ Below w.heap.size w w' := by
  have hq : (chkS r xss != 0) = false := by rw [hc.out]; rfl
  by_cases h1 : t < 0
  · have d1 : decide (t < 0) = true := by simpa using h1
    clear h1 hbad
    go_enter Tryd.func17, Tryd.ntmps17
    go_wp2_with fail
    refine calls_later (w.heap.size + 1) ?_
    intro W hW hsW
    obtain ⟨hcW, hfW⟩ := bcell hW
    simp only [World.size_alloc] at hsW
    have hbW : Below w.heap.size w W := ((Below.refl _ w).alloc (Nat.le_refl _) _).trans (hW.mono (by omega))
    go_wp2_with (go_at_call 24; refine (RCHECK_any r A n c xss _ B (by omega) (hh.out.below hbW hB)).mono ?_; rintro e w1 ⟨rfl, hb1⟩; have hz1 := pcell (hb1.mono hsW))
    go_ret2
    exact ⟨rfl, hbW.trans (hb1.mono (by omega))⟩
  · have d1 : decide (t < 0) = false := by simpa using h1
    have d2 : decide ((n : Int) ≤ t) = true := by simp; omega
    clear h1 hbad
    go_enter Tryd.func17, Tryd.ntmps17
    go_wp2_with fail
    refine calls_later (w.heap.size + 1) ?_
    intro W hW hsW
    obtain ⟨hcW, hfW⟩ := bcell hW
    simp only [World.size_alloc] at hsW
    have hbW : Below w.heap.size w W := ((Below.refl _ w).alloc (Nat.le_refl _) _).trans (hW.mono (by omega))
    go_wp2_with (go_at_call 24; refine (RCHECK_any r A n c xss _ B (by omega) (hh.out.below hbW hB)).mono ?_; rintro e w1 ⟨rfl, hb1⟩; have hz1 := pcell (hb1.mono hsW))
    go_ret2
    exact ⟨rfl, hbW.trans (hb1.mono (by omega))⟩
set_option maxRecDepth 100000 in
set_option maxHeartbeats 4000000 in
theorem CROSSINGS_ok (r : Int) (ad : Addr) (n c t : Nat) (xss : List (List Int)) (hc : Hid (chkS r xss = 0)) (hok : Hid (OkS r xss)) (ht : t < n) (w : World) (B : Nat) (hB : B ≤ w.heap.size) (hh : Hid (RowsAt w B (some ad) n xss)) :
    Calls Tryd.prog 16 #[.agg #[.int .i64 r, .slice (some ad) n c], .int .i64 t] w fun e w' => e = .returned (.tuple #[.int .i64 (stR crU (0, 0) (rowOf xss t)).1, .int .i64 0]) ∧ Below w.heap.size w w' := by
  have hl := Lib.hid hh.out.1
  have hn16 : n ≤ 16 := by have := hok.out.few; have := hl.out; omega
  have hn : 0 < n := by omega
  have hm := hok.out.long
  have hq : (chkS r xss != 0) = false := by rw [hc.out]; rfl
  have d1 : decide ((t : Int) < 0) = false := by simp
  have d2 : decide (n ≤ t) = false := by simp; omega
  have hkx : Hid (t < xss.length) := by show _ < _; have := hl.out; omega
  go_enter Tryd.func16, Tryd.ntmps16
  go_wp2_with fail
  refine calls_later (w.heap.size + 1) ?_
  intro W hW hsW
  obtain ⟨hcW, hfW⟩ := bcell hW
  simp only [World.size_alloc] at hsW
  have hbW : Below w.heap.size w W := ((Below.refl _ w).alloc (Nat.le_refl _) _).trans (hW.mono (by omega))
  have HRx : Hid (RowsAt W B (some ad) n xss) := hh.out.below hbW hB
  refine (CHECK_any r (some ad) n c xss _ B (by omega) (hh.out.below hbW hB)).mono ?_
  rintro e w1 ⟨rfl, hb1⟩
  have hS1 : Below (w.heap.size + 1) W w1 := hb1.mono hsW
  have hz1 := pcell hS1
  obtain ⟨A', n', c', hadB, hcell, hn', hc', hi⟩ := hh.out.row ht
  obtain rfl : n' = len0 xss := hi.1.symm.trans (hok.out.row hkx.out).1
  have hi' := Lib.hid hi
  have hbr : Below B w w1 := (hbW.mono hB).trans (hS1.mono (by omega))
  have hca := (hbr.cell (p := ad.add t) (by rw [block_of_add]; omega)).trans hcell
  have ht0 : (0 : Int) ≤ (t : Int) := by omega
  have htn : (t : Int) < (n : Int) := by omega
  unfold maxLen at hc'
  clear hb1 hi hbr
  go_wp2_with fail
  have HS1 := Lib.hid hS1
  have HCL := Lib.hid hcell
  clear hz1 hS1 hcell
  have HRL := Lib.hid (hok.out.row hkx.out).1
  have HSM := Lib.hid (hok.out.smpRow hkx.out)
  have HTK : Hid ((rowOf xss t).take (len0 xss) = rowOf xss t) := List.take_of_length_le (by rw [HRL.out]; omega)
  obtain ⟨row, hrow⟩ : ∃ row, rowOf xss t = row := ⟨_, rfl⟩
  rw [hrow] at HRL HSM HTK hi'
  have HRW := Lib.hid hrow
  clear hrow
  clear hca
  go_loopw [7, 8, 31] (fun v l i wr => ∃ j : Nat, j ≤ len0 xss ∧ i = .int .i64 j ∧ v = .int .i64 (stR crU (0, 0) (row.take j)).1 ∧ l = .int .i64 (stR crU (0, 0) (row.take j)).2 ∧ wr = w1) (fun _ _ i _ => len0 xss - (intOf i).toNat)
  case atStart => exact ⟨0, Nat.zero_le _, rfl, rfl, rfl, rfl⟩
  case round =>
    obtain ⟨j, hj, rfl, rfl, rfl, rfl⟩ := hrel
    have hbd := cr_take_bd HSM.out (by rw [HRL.out]; exact hm) j
    by_cases hjl : j < len0 xss
    · obtain ⟨ad', rfl⟩ := hi'.out.addr (by omega)
      have hbr : Below B w wr := (hbW.mono hB).trans (HS1.out.mono (by omega))
      have hcx := ((hi'.out.below hbr (Nat.le_refl _)).at_ hjl).2
      have HST := Lib.hid (stR_take (u := crU) (s := (0, 0)) (xs := row) (j := j) (by rw [HRL.out]; exact hjl))
      obtain ⟨x, hx⟩ : ∃ x, elOf row j = x := ⟨_, rfl⟩
      rw [hx] at hcx HST
      obtain ⟨⟨m, l⟩, hs⟩ : ∃ s, stR crU (0, 0) (row.take j) = s := ⟨_, rfl⟩
      rw [hs] at hbd HST ⊢
      dsimp only at hbd ⊢
      obtain ⟨b1, b2, b3, b4⟩ := hbd
      have hj0 : (0 : Int) ≤ (j : Int) := by omega
      have hjn : (j : Int) < (len0 xss : Int) := by omega
      clear hx hbr hs
      rcases Int.lt_trichotomy x 0 with hx | hx | hx
      · rcases Int.lt_trichotomy l 0 with hl9 | hl9 | hl9
        ·
          rw [crU_keep (by omega) (.inr (by simp; omega))] at HST
          have e1 : decide (0 < x) = false := by simp; omega
          have e2 : decide (0 < l) = false := by simp; omega
          go_wp2_with fail
          go_roundw
          case rel => exact ⟨j + 1, by omega, by go_num, by rw [HST.out], by rw [HST.out], trivial⟩
          case measure => simp [intOf]; omega
        · subst hl9
          rw [crU_keep (by omega) (.inl rfl)] at HST
          go_wp2_with fail
          go_roundw
          case rel => exact ⟨j + 1, by omega, by go_num, by rw [HST.out], by rw [HST.out], trivial⟩
          case measure => simp [intOf]; omega
        ·
          rw [crU_up (by omega) (by omega) (by simp; omega)] at HST
          have e1 : decide (0 < x) = false := by simp; omega
          have e2 : decide (0 < l) = true := by simp; omega
          go_wp2_with fail
          go_roundw
          case rel => exact ⟨j + 1, by omega, by go_num, by rw [HST.out], by rw [HST.out], trivial⟩
          case measure => simp [intOf]; omega
      · subst hx
        rcases Int.lt_trichotomy l 0 with hl9 | hl9 | hl9
        ·
          rw [crU_zero] at HST
          go_wp2_with fail
          go_roundw
          case rel => exact ⟨j + 1, by omega, by go_num, by rw [HST.out], by rw [HST.out], trivial⟩
          case measure => simp [intOf]; omega
        · subst hl9
          rw [crU_zero] at HST
          go_wp2_with fail
          go_roundw
          case rel => exact ⟨j + 1, by omega, by go_num, by rw [HST.out], by rw [HST.out], trivial⟩
          case measure => simp [intOf]; omega
        ·
          rw [crU_zero] at HST
          go_wp2_with fail
          go_roundw
          case rel => exact ⟨j + 1, by omega, by go_num, by rw [HST.out], by rw [HST.out], trivial⟩
          case measure => simp [intOf]; omega
      · rcases Int.lt_trichotomy l 0 with hl9 | hl9 | hl9
        ·
          rw [crU_up (by omega) (by omega) (by simp; omega)] at HST
          have e1 : decide (0 < x) = true := by simp; omega
          have e2 : decide (0 < l) = false := by simp; omega
          go_wp2_with fail
          go_roundw
          case rel => exact ⟨j + 1, by omega, by go_num, by rw [HST.out], by rw [HST.out], trivial⟩
          case measure => simp [intOf]; omega
        · subst hl9
          rw [crU_keep (by omega) (.inl rfl)] at HST
          go_wp2_with fail
          go_roundw
          case rel => exact ⟨j + 1, by omega, by go_num, by rw [HST.out], by rw [HST.out], trivial⟩
          case measure => simp [intOf]; omega
        ·
          rw [crU_keep (by omega) (.inr (by simp; omega))] at HST
          have e1 : decide (0 < x) = true := by simp; omega
          have e2 : decide (0 < l) = true := by simp; omega
          go_wp2_with fail
          go_roundw
          case rel => exact ⟨j + 1, by omega, by go_num, by rw [HST.out], by rw [HST.out], trivial⟩
          case measure => simp [intOf]; omega
    · obtain rfl : j = len0 xss := by omega
      rw [HTK.out]
      go_wp2_with fail
      go_ret2
      exact ⟨by rw [HRW.out]; rfl, hbW.trans (HS1.out.mono (by omega))⟩
theorem CROSSINGS_any (r : Int) (A : Option Addr) (n c : Nat) (t : Int) (xss : List (List Int)) (w : World) (B : Nat) (hB : B ≤ w.heap.size) (hh : RowsAt w B A n xss) :
    Calls Tryd.prog 16 #[.agg #[.int .i64 r, .slice A n c], .int .i64 t] w fun e w' => e = .returned (.tuple #[.int .i64 (croS r xss t).1, .int .i64 (croS r xss t).2]) ∧ Below w.heap.size w w' := by
  unfold croS
  by_cases hc : chkS r xss = 0
  · have hok := chkS_ok hc
    have hl := hh.1
    have hn : 0 < n := by have := hok.some; omega
    obtain ⟨ad, rfl⟩ := hh.addr hn
    rw [if_neg (by simp [hc])]
    by_cases hb : t < 0 ∨ (xss.length : Int) ≤ t
    · rw [if_pos hb]
      rw [hl] at hb
      exact CROSSINGS_bad r (some ad) n c t xss hc hb w B hB hh
    · rw [if_neg hb]
      obtain ⟨t', rfl⟩ := Int.eq_ofNat_of_zero_le (show 0 ≤ t by omega)
      exact CROSSINGS_ok r ad n c t' xss hc hok (by omega) w B hB hh
  · rw [if_pos hc]
    exact CROSSINGS_chk r A n c t xss hc w B hB hh
set_option maxRecDepth 100000 in
set_option maxHeartbeats 4000000 in
theorem RCROSSINGS_ok (r : Int) (ad : Addr) (n c t : Nat) (xss : List (List Int)) (hc : Hid (chkS r xss = 0)) (hok : Hid (OkS r xss)) (ht : t < n) (w : World) (B : Nat) (hB : B ≤ w.heap.size) (hh : Hid (RowsAt w B (some ad) n xss)) :
    Calls Tryd.prog 17 #[.agg #[.int .i64 r, .slice (some ad) n c], .int .i64 t] w fun e w' => e = .returned (.tuple #[.int .i64 (stR crU (0, 0) (rowOf xss t)).1, .int .i64 0]) ∧ Below w.heap.size w w' := by
  have hl := Lib.hid hh.out.1
  have hn16 : n ≤ 16 := by have := hok.out.few; have := hl.out; omega
  have hn : 0 < n := by omega
  have hm := hok.out.long
  have hq : (chkS r xss != 0) = false := by rw [hc.out]; rfl
  have d1 : decide ((t : Int) < 0) = false := by simp
  have d2 : decide (n ≤ t) = false := by simp; omega
  have hkx : Hid (t < xss.length) := by show _ < _; have := hl.out; omega
  go_enter Tryd.func17, Tryd.ntmps17
  go_wp2_with fail
  refine calls_later (w.heap.size + 1) ?_
  intro W hW hsW
  obtain ⟨hcW, hfW⟩ := bcell hW
  simp only [World.size_alloc] at hsW
  have hbW : Below w.heap.size w W := ((Below.refl _ w).alloc (Nat.le_refl _) _).trans (hW.mono (by omega))
  have HRx : Hid (RowsAt W B (some ad) n xss) := hh.out.below hbW hB
  refine (RCHECK_any r (some ad) n c xss _ B (by omega) (hh.out.below hbW hB)).mono ?_
  rintro e w1 ⟨rfl, hb1⟩
  have hS1 : Below (w.heap.size + 1) W w1 := hb1.mono hsW
  have hz1 := pcell hS1
  obtain ⟨A', n', c', hadB, hcell, hn', hc', hi⟩ := hh.out.row ht
  obtain rfl : n' = len0 xss := hi.1.symm.trans (hok.out.row hkx.out).1
  have hi' := Lib.hid hi
  have hbr : Below B w w1 := (hbW.mono hB).trans (hS1.mono (by omega))
  have hca := (hbr.cell (p := ad.add t) (by rw [block_of_add]; omega)).trans hcell
  have ht0 : (0 : Int) ≤ (t : Int) := by omega
  have htn : (t : Int) < (n : Int) := by omega
  unfold maxLen at hc'
  clear hb1 hi hbr
  clear hca
  go_wp2_with fail
  have HS1 := Lib.hid hS1
  have HCL := Lib.hid hcell
  clear hz1 hS1 hcell
  have HRL := Lib.hid (hok.out.row hkx.out).1
  have HSM := Lib.hid (hok.out.smpRow hkx.out)
  have HTK : Hid ((rowOf xss t).take (len0 xss) = rowOf xss t) := List.take_of_length_le (by rw [HRL.out]; omega)
  obtain ⟨row, hrow⟩ : ∃ row, rowOf xss t = row := ⟨_, rfl⟩
  rw [hrow] at HRL HSM HTK hi'
  have HRW := Lib.hid hrow
  clear hrow
  go_loopw [7, 8, 9] (fun l v i wr => ∃ j : Nat, j ≤ len0 xss ∧ i = .int .i64 j ∧ v = .int .i64 (stR crU (0, 0) (row.take j)).1 ∧ l = .int .i64 (stR crU (0, 0) (row.take j)).2 ∧ Hid (Below (w.heap.size + 1) W wr)) (fun _ _ i _ => len0 xss - (intOf i).toNat)
  case atStart => exact ⟨0, Nat.zero_le _, rfl, rfl, rfl, HS1⟩
  case round =>
    obtain ⟨j, hj, rfl, rfl, rfl, hS⟩ := hrel
    have hbd := cr_take_bd HSM.out (by rw [HRL.out]; exact hm) j
    have hz := pcell hS.out
    go_wp2_with fail
    refine (RLONG_any r (some ad) n c xss _ B (by have := hS.out.size; omega) (HRx.out.below (hS.out.mono (by omega)) (Nat.le_refl _)) hn).mono ?_
    rintro e w4 ⟨rfl, hb4⟩
    have HS4 := Lib.hid (Below.next hS.out hsW hb4)
    clear hz hb4 hS
    have hz := pcell HS4.out
    by_cases hjl : j < len0 xss
    · obtain ⟨ad', rfl⟩ := hi'.out.addr (by omega)
      have hbr : Below B w w4 := (hbW.mono hB).trans (HS4.out.mono (by omega))
      have hca := (hbr.cell (p := ad.add t) (by rw [block_of_add]; omega)).trans HCL.out
      have hcx := ((hi'.out.below hbr (Nat.le_refl _)).at_ hjl).2
      have HST := Lib.hid (stR_take (u := crU) (s := (0, 0)) (xs := row) (j := j) (by rw [HRL.out]; exact hjl))
      obtain ⟨x, hx⟩ : ∃ x, elOf row j = x := ⟨_, rfl⟩
      rw [hx] at hcx HST
      obtain ⟨⟨m, l⟩, hs⟩ : ∃ s, stR crU (0, 0) (row.take j) = s := ⟨_, rfl⟩
      rw [hs] at hbd HST ⊢
      dsimp only at hbd ⊢
      obtain ⟨b1, b2, b3, b4⟩ := hbd
      have hj0 : (0 : Int) ≤ (j : Int) := by omega
      have hjn : (j : Int) < (len0 xss : Int) := by omega
      clear hx hbr hs
      rcases Int.lt_trichotomy x 0 with hx | hx | hx
      · rcases Int.lt_trichotomy l 0 with hl9 | hl9 | hl9
        ·
          rw [crU_keep (by omega) (.inr (by simp; omega))] at HST
          go_wp2_with fail
          go_roundw
          case rel => exact ⟨j + 1, by omega, by go_num, by (rw [HST.out]; try rfl), by (rw [HST.out]; try rfl), HS4⟩
          case measure => simp [intOf]; omega
        · subst hl9
          rw [crU_keep (by omega) (.inl rfl)] at HST
          go_wp2_with fail
          go_roundw
          case rel => exact ⟨j + 1, by omega, by go_num, by (rw [HST.out]; try rfl), by (rw [HST.out]; try rfl), HS4⟩
          case measure => simp [intOf]; omega
        ·
          rw [crU_up (by omega) (by omega) (by simp; omega)] at HST
          go_wp2_with fail
          go_roundw
          case rel => exact ⟨j + 1, by omega, by go_num, by (rw [HST.out]; try rfl), by (rw [HST.out]; try rfl), HS4⟩
          case measure => simp [intOf]; omega
      · subst hx
        rcases Int.lt_trichotomy l 0 with hl9 | hl9 | hl9
        ·
          rw [crU_zero] at HST
          go_wp2_with fail
          go_roundw
          case rel => exact ⟨j + 1, by omega, by go_num, by (rw [HST.out]; try rfl), by (rw [HST.out]; try rfl), HS4⟩
          case measure => simp [intOf]; omega
        · subst hl9
          rw [crU_zero] at HST
          go_wp2_with fail
          go_roundw
          case rel => exact ⟨j + 1, by omega, by go_num, by (rw [HST.out]; try rfl), by (rw [HST.out]; try rfl), HS4⟩
          case measure => simp [intOf]; omega
        ·
          rw [crU_zero] at HST
          go_wp2_with fail
          go_roundw
          case rel => exact ⟨j + 1, by omega, by go_num, by (rw [HST.out]; try rfl), by (rw [HST.out]; try rfl), HS4⟩
          case measure => simp [intOf]; omega
      · rcases Int.lt_trichotomy l 0 with hl9 | hl9 | hl9
        ·
          rw [crU_up (by omega) (by omega) (by simp; omega)] at HST
          go_wp2_with fail
          go_roundw
          case rel => exact ⟨j + 1, by omega, by go_num, by (rw [HST.out]; try rfl), by (rw [HST.out]; try rfl), HS4⟩
          case measure => simp [intOf]; omega
        · subst hl9
          rw [crU_keep (by omega) (.inl rfl)] at HST
          go_wp2_with fail
          go_roundw
          case rel => exact ⟨j + 1, by omega, by go_num, by (rw [HST.out]; try rfl), by (rw [HST.out]; try rfl), HS4⟩
          case measure => simp [intOf]; omega
        ·
          rw [crU_keep (by omega) (.inr (by simp; omega))] at HST
          go_wp2_with fail
          go_roundw
          case rel => exact ⟨j + 1, by omega, by go_num, by (rw [HST.out]; try rfl), by (rw [HST.out]; try rfl), HS4⟩
          case measure => simp [intOf]; omega
    · obtain rfl : j = len0 xss := by omega
      rw [HTK.out]
      go_wp2_with fail
      go_ret2
      exact ⟨by rw [HRW.out]; rfl, hbW.trans (HS4.out.mono (by omega))⟩
theorem RCROSSINGS_any (r : Int) (A : Option Addr) (n c : Nat) (t : Int) (xss : List (List Int)) (w : World) (B : Nat) (hB : B ≤ w.heap.size) (hh : RowsAt w B A n xss) :
    Calls Tryd.prog 17 #[.agg #[.int .i64 r, .slice A n c], .int .i64 t] w fun e w' => e = .returned (.tuple #[.int .i64 (croS r xss t).1, .int .i64 (croS r xss t).2]) ∧ Below w.heap.size w w' := by
  unfold croS
  by_cases hc : chkS r xss = 0
  · have hok := chkS_ok hc
    have hl := hh.1
    have hn : 0 < n := by have := hok.some; omega
    obtain ⟨ad, rfl⟩ := hh.addr hn
    rw [if_neg (by simp [hc])]
    by_cases hb : t < 0 ∨ (xss.length : Int) ≤ t
    · rw [if_pos hb]
      rw [hl] at hb
      exact RCROSSINGS_bad r (some ad) n c t xss hc hb w B hB hh
    · rw [if_neg hb]
      obtain ⟨t', rfl⟩ := Int.eq_ofNat_of_zero_le (show 0 ≤ t by omega)
      exact RCROSSINGS_ok r ad n c t' xss hc hok (by omega) w B hB hh
  · rw [if_pos hc]
    exact RCROSSINGS_chk r A n c t xss hc w B hB hh
end Go.Proofs.YtnhmhjhfoonakaaDoor
