/- What the reference's Check returns: chkS. -/
import Derived.Test.YtnhmhjhfoonakaaDoorCheck
import Derived.Deep.RegionHeld3
import Derived.Deep.QuietTactic
import Derived.BigQuiet
set_option linter.unusedSimpArgs false
set_option linter.unusedVariables false
namespace Go.Proofs.YtnhmhjhfoonakaaDoor
open Go.RowKit Go.Dw

set_option maxHeartbeats 400000 in
theorem RCHECK_none (r : Int) (A : Option Addr) (n c : Nat) (xss : List (List Int)) (hr : Hid (rateB r = false)) (w : World) :
    Calls Tryd.prog 24 #[.agg #[.int .i64 r, .slice A n c]] w fun e w' => e = .returned (.int .i64 (chkS r xss)) ∧ Below w.heap.size w w' := by
  go_enter Tryd.func24, Tryd.ntmps24
  go_wp2_with (go_at_call 34; refine (RISRATE_eq _ _ hr _).mono ?_; rintro e w' ⟨rfl, rfl⟩)
  go_ret
  exact ⟨ret_int (chkS_rate hr.out).symm, (Below.refl _ _).alloc (Nat.le_refl _) _⟩

set_option maxHeartbeats 400000 in
theorem RCHECK_zero (r : Int) (A : Option Addr) (c : Nat) (xss : List (List Int)) (hr : Hid (rateB r = true)) (hl : Hid (xss.length = 0)) (w : World) :
    Calls Tryd.prog 24 #[.agg #[.int .i64 r, .slice A 0 c]] w fun e w' => e = .returned (.int .i64 (chkS r xss)) ∧ Below w.heap.size w w' := by
  go_enter Tryd.func24, Tryd.ntmps24
  go_wp2_with (go_at_call 34; refine (RISRATE_eq _ _ hr _).mono ?_; rintro e w' ⟨rfl, rfl⟩)
  go_ret
  exact ⟨ret_int (chkS_none hr.out hl.out).symm, (Below.refl _ _).alloc (Nat.le_refl _) _⟩

set_option maxHeartbeats 400000 in
theorem RCHECK_many (r : Int) (A : Option Addr) (n c : Nat) (xss : List (List Int)) (hr : Hid (rateB r = true)) (hl : Hid (xss.length = n)) (hn : 16 < n) (w : World) :
    Calls Tryd.prog 24 #[.agg #[.int .i64 r, .slice A n c]] w fun e w' => e = .returned (.int .i64 (chkS r xss)) ∧ Below w.heap.size w w' := by
  have hq0 : (((n : Int)) == 0) = false := by simp; omega
  have hq16 : (16 : Int) < (n : Int) := by omega
  go_enter Tryd.func24, Tryd.ntmps24
  go_wp2_with (go_at_call 34; refine (RISRATE_eq _ _ hr _).mono ?_; rintro e w' ⟨rfl, rfl⟩)
  go_ret
  exact ⟨ret_int (chkS_big hr.out (by rw [hl.out]; omega) (by rw [hl.out]; exact .inl hn)).symm, (Below.refl _ _).alloc (Nat.le_refl _) _⟩

set_option maxHeartbeats 400000 in
theorem RCHECK_long (r : Int) (ad : Addr) (n c : Nat) (xss : List (List Int)) (hr : Hid (rateB r = true)) (hn0 : 0 < n) (hn : n ≤ 16) (hm : 100000 < len0 xss) (w : World) (B : Nat) (hB : B ≤ w.heap.size) (hh : Hid (RowsAt w B (some ad) n xss)) :
    Calls Tryd.prog 24 #[.agg #[.int .i64 r, .slice (some ad) n c]] w fun e w' => e = .returned (.int .i64 (chkS r xss)) ∧ Below w.heap.size w w' := by
  have hl := Lib.hid hh.out.1
  have hq0 : (((n : Int)) == 0) = false := by simp; omega
  have hq16 : ¬ (16 : Int) < (n : Int) := by omega
  have hn0' : (0 : Int) < (n : Int) := by omega
  have hqm : (100000 : Int) < (len0 xss : Int) := by omega
  obtain ⟨A', n', c', hadB, hcell, hn', hc', hi⟩ := (hh.out.below ((Below.refl B w).alloc hB (.cells #[.int .i64 r, .slice (some ad) n c] 24)) (Nat.le_refl _)).row hn0
  obtain rfl : n' = len0 xss := hi.1.symm
  rw [add_zero] at hcell
  clear hi hc'
  go_enter Tryd.func24, Tryd.ntmps24
  go_wp2_with (go_at_call 34; refine (RISRATE_eq _ _ hr _).mono ?_; rintro e w' ⟨rfl, rfl⟩)
  go_ret
  exact ⟨ret_int (chkS_big hr.out (by rw [hl.out]; omega) (.inr hm)).symm, (Below.refl _ _).alloc (Nat.le_refl _) _⟩

set_option maxHeartbeats 1600000 in
theorem RCHECK_rows (r : Int) (ad : Addr) (n c : Nat) (xss : List (List Int)) (hr : Hid (rateB r = true)) (hn0 : 0 < n) (hn : n ≤ 16) (hm : len0 xss ≤ 100000) (w : World) (B : Nat) (hB : B ≤ w.heap.size) (hh : Hid (RowsAt w B (some ad) n xss)) :
    Calls Tryd.prog 24 #[.agg #[.int .i64 r, .slice (some ad) n c]] w fun e w' => e = .returned (.int .i64 (chkS r xss)) ∧ Below w.heap.size w w' := by
  have hl := Lib.hid hh.out.1
  have hchk : Hid (chkS r xss = chkT (len0 xss) xss) := chkS_rows hr.out (by rw [hl.out]; exact hn0) (by rw [hl.out]; omega) hm
  have hq0 : (((n : Int)) == 0) = false := by simp; omega
  have hq16 : ¬ (16 : Int) < (n : Int) := by omega
  have hqm : ¬ (100000 : Int) < (len0 xss : Int) := by omega
  have hn0' : (0 : Int) < (n : Int) := by omega
  go_enter Tryd.func24, Tryd.ntmps24
  go_wp2_with fail
  refine calls_later (w.heap.size + 1) ?_
  intro W hW hsW
  obtain ⟨hcW, hfW⟩ := bcell hW
  simp only [World.size_alloc] at hsW
  have hbB : Below B w W := ((Below.refl B w).alloc hB _).trans (hW.mono (by omega))
  have hbW : Below w.heap.size w W := ((Below.refl _ w).alloc (Nat.le_refl _) _).trans (hW.mono (by omega))
  obtain ⟨A0, n0, c0, hadB, hcell0, hn0x, hc0x, hi0⟩ := (hh.out.below hbB (Nat.le_refl _)).row hn0
  obtain rfl : n0 = len0 xss := hi0.1.symm
  rw [add_zero] at hcell0
  clear hi0 hc0x
  go_wp2_with (go_at_call 34; refine (RISRATE_eq _ _ hr _).mono ?_; rintro e w' ⟨rfl, rfl⟩)
  go_loopw [3] (fun i wr => ∃ k : Nat, k ≤ n ∧ i = .int .i64 k ∧ Hid (chkT (len0 xss) (xss.drop k) = chkT (len0 xss) xss) ∧ Below (w.heap.size + 1) W wr) (fun i _ => n - (intOf i).toNat)
  case atStart => exact ⟨0, Nat.zero_le _, rfl, rfl, Below.refl _ _⟩
  case round =>
    obtain ⟨k, hk, rfl, HC, hb⟩ := hrel
    have hz := pcell hb
    by_cases hlt : k < n
    · obtain ⟨A', n', c', _, hcell, hn', hc', hi⟩ := (hh.out.below hbB (Nat.le_refl _)).row hlt
      have hil : Hid ((rowOf xss k).length = n') := hi.1
      have hi' := Lib.hid hi
      unfold maxLen at hc'
      have hkx : Hid (k < xss.length) := by show _ < _; have := hl.out; omega
      have hk0 : (0 : Int) ≤ (k : Int) := by omega
      have hkn : (k : Int) < (n : Int) := by omega
      have hadk : (ad.add k).block < w.heap.size + 1 := by rw [block_of_add]; omega
      have had0 : ad.block < w.heap.size + 1 := by omega
      clear hi
      by_cases hnl : n' = len0 xss
      · subst hnl
        go_wp2
        go_quiet (fail)
        clear hcell0 hz
        obtain ⟨wo, hwo⟩ : ∃ wo, wo = wr.drewN nq := ⟨_, rfl⟩
        have hbo : Below (w.heap.size + 1) W wo := by rw [hwo]; exact belowN hb _
        rw [← hwo]
        clear hwo hb
        go_wp2
        go_loopw [4] (fun i wi => ∃ j : Nat, j ≤ len0 xss ∧ i = .int .i64 j ∧ Hid (((rowOf xss k).take j).all smpB = true) ∧ Below (w.heap.size + 1) W wi) (fun i _ => len0 xss - (intOf i).toNat)
        case atStart => exact ⟨0, Nat.zero_le _, rfl, by simp [Hid], hbo⟩
        case round =>
          obtain ⟨j, hj, rfl, HA, hbi⟩ := hrel
          have hz := pcell hbi
          by_cases hjl : j < len0 xss
          · obtain ⟨ad', rfl⟩ := hi'.out.addr (by omega)
            obtain ⟨hB', hcell2⟩ := hi'.out.at_ hjl
            have hadj : (ad'.add j).block < w.heap.size + 1 := by rw [block_of_add]; omega
            have hj0 : (0 : Int) ≤ (j : Int) := by omega
            have hjn : (j : Int) < (len0 xss : Int) := by omega
            cases hs : smpB (elOf (rowOf xss k) j) with
            | true =>
              have HS := Lib.hid hs
              have hd1 : decide (elOf (rowOf xss k) j < -8388608) = false := by have := smpB_yes hs; simp; omega
              have hd2 : decide (8388607 < elOf (rowOf xss k) j) = false := by have := smpB_yes hs; simp; omega
              clear hs
              go_wp2
              go_roundw
              case rel => exact ⟨j + 1, by omega, by go_num, all_take HA.out (by rw [hil.out]; exact hjl) HS.out, hbi⟩
              case measure => simp [intOf]; omega
            | false =>
              have HS := Lib.hid hs
              have hfin : Hid (chkS r xss = 1) := by show _ = _; rw [hchk.out, ← HC.out, chkT_bad hkx.out hil.out (by rw [hil.out]; exact hjl) HS.out]
              by_cases hx : elOf (rowOf xss k) j < -8388608
              · have hd1 : decide (elOf (rowOf xss k) j < -8388608) = true := by simpa using hx
                clear hs hx
                go_wp2
                go_ret
                exact ⟨ret_int hfin.out.symm, hbW.trans (hbi.mono (by omega))⟩
              · have hd1 : decide (elOf (rowOf xss k) j < -8388608) = false := by simpa using hx
                have hd2 : decide (8388607 < elOf (rowOf xss k) j) = true := by have := smpB_no hs; simp; omega
                clear hs hx
                go_wp2
                go_ret
                exact ⟨ret_int hfin.out.symm, hbW.trans (hbi.mono (by omega))⟩
          · obtain rfl : j = len0 xss := by omega
            go_wp2
            go_roundw
            case rel => exact ⟨k + 1, by omega, by go_num, (chkT_step hkx.out hil.out (by have := HA.out; rwa [List.take_of_length_le (by rw [hil.out]; omega)] at this)).trans HC.out, hbi⟩
            case measure => simp [intOf]; omega
      · have hq : ((n' : Int) != (len0 xss : Int)) = true := by simp; omega
        go_wp2
        go_quiet (fail)
        go_wp2
        go_ret
        exact ⟨ret_int (by rw [hchk.out, ← HC.out, chkT_len hkx.out (by rw [hil.out]; exact hnl)]), hbW.trans (belowN (hb.mono (by omega)) _)⟩
    · obtain rfl : k = n := by omega
      go_wp2
      go_ret
      exact ⟨ret_int (by rw [hchk.out, ← HC.out, ← hl.out, List.drop_length]; rfl), hbW.trans (hb.mono (by omega))⟩
theorem RCHECK_any (r : Int) (A : Option Addr) (n c : Nat) (xss : List (List Int)) (w : World) (B : Nat) (hB : B ≤ w.heap.size) (h : RowsAt w B A n xss) :
    Calls Tryd.prog 24 #[.agg #[.int .i64 r, .slice A n c]] w fun e w' => e = .returned (.int .i64 (chkS r xss)) ∧ Below w.heap.size w w' := by
  cases hr : rateB r with
  | false => exact RCHECK_none r A n c xss hr w
  | true =>
    have hl := h.1
    by_cases hn : n = 0
    · subst hn; exact RCHECK_zero r A c xss hr hl w
    · obtain ⟨ad, rfl⟩ := h.addr (by omega)
      by_cases hn16 : 16 < n
      · exact RCHECK_many r _ n c xss hr hl hn16 w
      · by_cases hm : 100000 < len0 xss
        · exact RCHECK_long r ad n c xss hr (by omega) (by omega) hm w B hB h
        · exact RCHECK_rows r ad n c xss hr (by omega) (by omega) (by omega) w B hB h
end Go.Proofs.YtnhmhjhfoonakaaDoor

