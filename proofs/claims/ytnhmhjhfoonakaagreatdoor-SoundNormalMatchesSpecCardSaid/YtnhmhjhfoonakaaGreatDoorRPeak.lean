/- Peak, the reference's. -/
import Derived.Test.YtnhmhjhfoonakaaGreatDoorWb
set_option linter.unusedSimpArgs false
set_option linter.unusedVariables false
namespace Go.Proofs.YtnhmhjhfoonakaaGreatDoor
open Go.RowKit Go.Dw
set_option maxHeartbeats 400000 in
theorem RSIZE_any (x : Int) (h1 : -8388608 ≤ x) (h2 : x ≤ 8388607) (w : World) : Calls Tryz.prog 78 #[.int .i64 x] w fun e w' => e = .returned (.int .i64 (absI x)) ∧ w = w' := by
  by_cases h : x < 0
  · go_enter Tryz.func78, Tryz.ntmps78
    go_wp2
    go_ret
    exact ⟨ret_int (by unfold absI; omega), rfl⟩
  · go_enter Tryz.func78, Tryz.ntmps78
    go_wp2
    go_ret
    exact ⟨ret_int (by unfold absI; omega), rfl⟩
set_option maxHeartbeats 400000 in
theorem RPEAK_chk (r : Int) (A : Option Addr) (n c : Nat) (xss : List (List Int)) (hc : chkS r xss ≠ 0) (w : World) (B : Nat) (hB : B ≤ w.heap.size) (hh : Hid (RowsAt w B A n xss)) :
    Calls Tryz.prog 38 #[.agg #[.int .i64 r, .slice A n c]] w fun e w' => e = .returned (.tuple #[.int .i64 0, .int .i64 (chkS r xss)]) ∧ Below w.heap.size w w' := by
  have hq : (chkS r xss != 0) = true := by simpa using hc
  clear hc
  go_enter Tryz.func38, Tryz.ntmps38
  go_wp2_with fail
  refine calls_later (w.heap.size + 1) ?_
  intro W hW hsW
  obtain ⟨hcW, hfW⟩ := bcell hW
  simp only [World.size_alloc] at hsW
  have hbW : Below w.heap.size w W := ((Below.refl _ w).alloc (Nat.le_refl _) _).trans (hW.mono (by omega))
  go_wp2_with (go_at_call 18; refine (RCHECK_any r A n c xss _ B (by omega) (hh.out.below hbW hB)).mono ?_; rintro e w1 ⟨rfl, hb1⟩; have hz1 := pcell (hb1.mono hsW))
  go_ret2
  exact ⟨rfl, hbW.trans (hb1.mono (by omega))⟩
set_option maxHeartbeats 2000000 in
theorem RPEAK_ok (r : Int) (ad : Addr) (n c : Nat) (xss : List (List Int)) (hc : Hid (chkS r xss = 0)) (hok : Hid (OkS r xss)) (w : World) (B : Nat) (hB : B ≤ w.heap.size) (hh : Hid (RowsAt w B (some ad) n xss)) :
    Calls Tryz.prog 38 #[.agg #[.int .i64 r, .slice (some ad) n c]] w fun e w' => e = .returned (.tuple #[.int .i64 (pkS 0 xss), .int .i64 0]) ∧ Below w.heap.size w w' := by
  have hl := Lib.hid hh.out.1
  have hn16 : n ≤ 16 := by have := hok.out.few; have := hl.out; omega
  have hn : 0 < n := by have := hok.out.some; have := hl.out; omega
  have hm := hok.out.long
  have hq : (chkS r xss != 0) = false := by rw [hc.out]; rfl
  go_enter Tryz.func38, Tryz.ntmps38
  go_wp2_with fail
  refine calls_later (w.heap.size + 1) ?_
  intro W hW hsW
  obtain ⟨hcW, hfW⟩ := bcell hW
  simp only [World.size_alloc] at hsW
  have hbW : Below w.heap.size w W := ((Below.refl _ w).alloc (Nat.le_refl _) _).trans (hW.mono (by omega))
  have HRx : Hid (RowsAt W B (some ad) n xss) := hh.out.below hbW hB
  refine (RCHECK_any r (some ad) n c xss _ B (by omega) (hh.out.below hbW hB)).mono ?_
  rintro e w1 ⟨rfl, hb1⟩
  have HS1 : Hid (Below (w.heap.size + 1) W w1) := hb1.mono hsW
  clear hb1
  go_wp2_with fail
  go_loopw [5, 6] (fun t i wr => ∃ k : Nat, k ≤ n ∧ i = .int .i64 k ∧ t = .int .i64 (pkS 0 (xss.take k)) ∧ Hid (Below (w.heap.size + 1) W wr)) (fun _ i _ => n - (intOf i).toNat)
  case atStart => exact ⟨0, Nat.zero_le _, rfl, rfl, HS1⟩
  case round =>
    obtain ⟨k, hk, rfl, rfl, hS⟩ := hrel
    have hz := pcell hS.out
    by_cases hlt : k < n
    · have hkx : Hid (k < xss.length) := by show _ < _; have := hl.out; omega
      obtain ⟨A', n', c', hadB, hcell, hn', hc', hi⟩ := hh.out.row hlt
      obtain rfl : n' = len0 xss := hi.1.symm.trans (hok.out.row hkx.out).1
      have hi' := Lib.hid hi
      have HCL := Lib.hid hcell
      clear hi hcell
      unfold maxLen at hc'
      have hk0 : (0 : Int) ≤ (k : Int) := by omega
      have hkn : (k : Int) < (n : Int) := by omega
      go_wp2_with fail
      clear hz
      go_loopw [5, 7] (fun t i wr => ∃ j : Nat, j ≤ len0 xss ∧ i = .int .i64 j ∧ t = .int .i64 (pkRow (pkS 0 (xss.take k)) ((rowOf xss k).take j)) ∧ Hid (Below (w.heap.size + 1) W wr)) (fun _ i _ => len0 xss - (intOf i).toNat)
      case atStart => exact ⟨0, Nat.zero_le _, rfl, rfl, hS⟩
      case round =>
        obtain ⟨j, hj, rfl, rfl, hS⟩ := hrel
        have hz := pcell hS.out
        go_wp2_with fail
        refine (RLONG_any r (some ad) n c xss _ B (by have := hS.out.size; omega) (HRx.out.below (hS.out.mono (by omega)) (Nat.le_refl _)) hn).mono ?_
        rintro e w4 ⟨rfl, hb4⟩
        have HS4 := Lib.hid (Below.next hS.out hsW hb4)
        clear hz hb4 hS
        have hz := pcell HS4.out
        by_cases hjl : j < len0 xss
        · obtain ⟨ad', rfl⟩ := hi'.out.addr (by omega)
          have hbr : Below B w w4 := (hbW.mono hB).trans (HS4.out.mono (by omega))
          have hca := (hbr.cell (p := ad.add k) (by rw [block_of_add]; omega)).trans HCL.out
          have hcx := ((hi'.out.below hbr (Nat.le_refl _)).at_ hjl).2
          obtain ⟨x1, x2⟩ := hok.out.el hkx.out hjl
          have hstep := Lib.hid (pkRow_take (m := pkS 0 (xss.take k)) (xs := rowOf xss k) (j := j) (by rw [(hok.out.row hkx.out).1]; exact hjl))
          obtain ⟨x, hx⟩ : ∃ x, elOf (rowOf xss k) j = x := ⟨_, rfl⟩
          rw [hx] at hcx x1 x2 hstep
          have HSZ := Lib.hid (fun w => RSIZE_any x x1 x2 w)
          have hj0 : (0 : Int) ≤ (j : Int) := by omega
          have hjn : (j : Int) < (len0 xss : Int) := by omega
          clear hx hbr x1 x2
          go_wp2_with fail
          refine (HSZ.out _).mono ?_
          rintro e w' ⟨rfl, rfl⟩
          go_wp2_with fail
          go_roundw
          case rel => exact ⟨j + 1, by omega, by go_num, by rw [hstep.out]; exact val_int (by omega), HS4⟩
          case measure => simp [intOf]; omega
        · obtain rfl : j = len0 xss := by omega
          go_wp2_with fail
          go_roundw
          case rel => exact ⟨k + 1, by omega, by go_num, by rw [pkS_take hkx.out, List.take_of_length_le (l := rowOf xss k) (by rw [(hok.out.row hkx.out).1]; omega)], HS4⟩
          case measure => simp [intOf]; omega
    · obtain rfl : k = n := by omega
      go_wp2_with fail
      go_ret2
      exact ⟨by rw [List.take_of_length_le (by rw [hl.out]; omega)]; rfl, hbW.trans (hS.out.mono (by omega))⟩
theorem RPEAK_any (r : Int) (A : Option Addr) (n c : Nat) (xss : List (List Int)) (w : World) (B : Nat) (hB : B ≤ w.heap.size) (hh : RowsAt w B A n xss) :
    Calls Tryz.prog 38 #[.agg #[.int .i64 r, .slice A n c]] w fun e w' => e = .returned (.tuple #[.int .i64 (peakS r xss).1, .int .i64 (peakS r xss).2]) ∧ Below w.heap.size w w' := by
  unfold peakS
  by_cases hc : chkS r xss = 0
  · have hn : 0 < n := by have := (chkS_ok hc).some; have := hh.1; omega
    obtain ⟨ad, rfl⟩ := hh.addr hn
    rw [if_neg (by simp [hc])]
    exact RPEAK_ok r ad n c xss hc (chkS_ok hc) w B hB hh
  · rw [if_pos hc]
    exact RPEAK_chk r A n c xss hc w B hB hh
end Go.Proofs.YtnhmhjhfoonakaaGreatDoor
