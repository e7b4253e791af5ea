/- Peak on both sides; awake. -/
import Derived.Test.YtnhmhjhfoonakaaDoorRCheck
import Derived.Test.YtnhmhjhfoonakaaDoorEnds
set_option linter.unusedSimpArgs false
set_option linter.unusedVariables false
namespace Go.Proofs.YtnhmhjhfoonakaaDoor
open Go.RowKit Go.Dw

set_option maxHeartbeats 800000 in
theorem PEAKU_ok (r : Int) (ad : Addr) (n c : Nat) (xss : List (List Int)) (hn : 0 < n) (hok : Hid (OkS r xss)) (w : World) (B : Nat) (hB : B ≤ w.heap.size) (hh : Hid (RowsAt w B (some ad) n xss)) :
    Calls Tryd.prog 55 #[.agg #[.int .i64 r, .slice (some ad) n c]] w fun e w' => e = .returned (.int .i64 (pkS 0 xss)) ∧ Below w.heap.size w w' := by
  have hl := Lib.hid hh.out.1
  have hn16 : n ≤ 16 := by have := hok.out.few; have := hl.out; omega
  go_enter Tryd.func55, Tryd.ntmps55
  go_wp2_with fail
  refine wp_later (w.heap.size + 1) ?_
  intro W hW hsW
  obtain ⟨hcW, hfW⟩ := bcell hW
  simp only [World.size_alloc] at hsW
  have hbB : Below B w W := ((Below.refl B w).alloc hB _).trans (hW.mono (by omega))
  have hbW : Below w.heap.size w W := ((Below.refl _ w).alloc (Nat.le_refl _) _).trans (hW.mono (by omega))
  go_wp2
  go_loop [3, 11] (fun t i => ∃ k : Nat, k ≤ n ∧ i = .int .i64 k ∧ t = .int .i64 (pkS 0 (xss.take k))) (fun _ i => n - (intOf i).toNat)
  case atStart => exact ⟨0, Nat.zero_le _, rfl, rfl⟩
  case round =>
    obtain ⟨k, hk, rfl, rfl⟩ := hrel
    by_cases hlt : k < n
    · have hkx : Hid (k < xss.length) := by show _ < _; have := hl.out; omega
      obtain ⟨A', n', c', hadB, hcell, hn', hc', hi⟩ := (hh.out.below hbB (Nat.le_refl _)).row hlt
      obtain rfl : n' = len0 xss := hi.1.symm.trans (hok.out.row hkx.out).1
      have hi' := Lib.hid hi
      clear hi
      unfold maxLen at hc'
      have hm := hok.out.long
      go_wp2
      go_loop [3, 17] (fun t i => ∃ j : Nat, j ≤ len0 xss ∧ i = .int .i64 j ∧ t = .int .i64 (pkRow (pkS 0 (xss.take k)) ((rowOf xss k).take j))) (fun _ i => len0 xss - (intOf i).toNat)
      case atStart => exact ⟨0, Nat.zero_le _, rfl, rfl⟩
      case round =>
        obtain ⟨j, hj, rfl, rfl⟩ := hrel
        by_cases hjl : j < len0 xss
        · obtain ⟨ad', rfl⟩ := hi'.out.addr (by omega)
          have hcell2 := (hi'.out.at_ hjl).2
          have hel := hok.out.el hkx.out hjl
          have hlo := hel.1
          have hhi := hel.2
          have hstep := Lib.hid (pkRow_take (m := pkS 0 (xss.take k)) (xs := rowOf xss k) (j := j) (by rw [(hok.out.row hkx.out).1]; exact hjl))
          clear hel
          go_wp2
          go_round
          case rel => exact ⟨j + 1, by omega, by go_num, val_int (by rw [hstep.out]; unfold absI; omega)⟩
          case measure => simp [intOf]; omega
        · obtain rfl : j = len0 xss := by omega
          go_wp2
          go_round
          case rel => exact ⟨k + 1, by omega, by go_num, by rw [pkS_take hkx.out, List.take_of_length_le (l := rowOf xss k) (by rw [(hok.out.row hkx.out).1]; omega)]⟩
          case measure => simp [intOf]; omega
    · obtain rfl : k = n := by omega
      go_wp2
      go_ret
      exact ⟨ret_int (by rw [List.take_of_length_le (by rw [hl.out]; omega)]), hbW⟩

theorem peakS_ok {r : Int} {xss : List (List Int)} (h : OkS r xss) : 0 < xss.length := h.some
/-- what Peak returns -/
def peakS (r : Int) (xss : List (List Int)) : Int × Int := if chkS r xss ≠ 0 then (0, chkS r xss) else (pkS 0 xss, 0)
set_option maxHeartbeats 400000 in
theorem PEAK_chk (r : Int) (A : Option Addr) (n c : Nat) (xss : List (List Int)) (hc : chkS r xss ≠ 0) (w : World) (B : Nat) (hB : B ≤ w.heap.size) (hh : Hid (RowsAt w B A n xss)) :
    Calls Tryd.prog 38 #[.agg #[.int .i64 r, .slice A n c]] w fun e w' => e = .returned (.tuple #[.int .i64 0, .int .i64 (chkS r xss)]) ∧ Below w.heap.size w w' := by
  have hq : (chkS r xss != 0) = true := by simpa using hc
  clear hc
  go_enter Tryd.func38, Tryd.ntmps38
  go_wp2_with fail
  refine calls_later (w.heap.size + 1) ?_
  intro W hW hsW
  obtain ⟨hcW, hfW⟩ := bcell hW
  simp only [World.size_alloc] at hsW
  have hbW : Below w.heap.size w W := ((Below.refl _ w).alloc (Nat.le_refl _) _).trans (hW.mono (by omega))
  go_wp2_with (go_at_call 18; refine (CHECK_any r A n c xss _ B (by omega) (hh.out.below hbW hB)).mono ?_; rintro e w1 ⟨rfl, hb1⟩; have hz1 := pcell (hb1.mono hsW))
  go_ret2
  exact ⟨rfl, hbW.trans (hb1.mono (by omega))⟩
set_option maxHeartbeats 400000 in
theorem PEAK_ok (r : Int) (ad : Addr) (n c : Nat) (xss : List (List Int)) (hn : 0 < n) (hc : Hid (chkS r xss = 0)) (w : World) (B : Nat) (hB : B ≤ w.heap.size) (hh : Hid (RowsAt w B (some ad) n xss)) :
    Calls Tryd.prog 38 #[.agg #[.int .i64 r, .slice (some ad) n c]] w fun e w' => e = .returned (.tuple #[.int .i64 (pkS 0 xss), .int .i64 0]) ∧ Below w.heap.size w w' := by
  have hq : (chkS r xss != 0) = false := by rw [hc.out]; rfl
  go_enter Tryd.func38, Tryd.ntmps38
  go_wp2_with fail
  refine calls_later (w.heap.size + 1) ?_
  intro W hW hsW
  obtain ⟨hcW, hfW⟩ := bcell hW
  simp only [World.size_alloc] at hsW
  have hbW : Below w.heap.size w W := ((Below.refl _ w).alloc (Nat.le_refl _) _).trans (hW.mono (by omega))
  go_wp2_with (go_at_call 18; refine (CHECK_any r (some ad) n c xss _ B (by omega) (hh.out.below hbW hB)).mono ?_; rintro e w1 ⟨rfl, hb1⟩; have hz1 := pcell (hb1.mono hsW); have hs1 := hb1.size)
  refine (PEAKU_ok r ad n c xss hn (chkS_ok hc.out) _ B (by omega) (hh.out.below (hbW.trans (hb1.mono (by omega))) hB)).mono ?_
  rintro e w2 ⟨rfl, hb2⟩
  go_wp2_with fail
  go_ret2
  exact ⟨rfl, hbW.trans ((hb1.trans (hb2.mono hs1)).mono (by omega))⟩
theorem PEAK_any (r : Int) (A : Option Addr) (n c : Nat) (xss : List (List Int)) (w : World) (B : Nat) (hB : B ≤ w.heap.size) (hh : RowsAt w B A n xss) :
    Calls Tryd.prog 38 #[.agg #[.int .i64 r, .slice A n c]] w fun e w' => e = .returned (.tuple #[.int .i64 (peakS r xss).1, .int .i64 (peakS r xss).2]) ∧ Below w.heap.size w w' := by
  unfold peakS
  by_cases hc : chkS r xss = 0
  · have hn : 0 < n := by have := (chkS_ok hc).some; have := hh.1; omega
    obtain ⟨ad, rfl⟩ := hh.addr hn
    rw [if_neg (by simp [hc])]
    exact PEAK_ok r ad n c xss hn hc w B hB hh
  · rw [if_pos hc]
    exact PEAK_chk r A n c xss hc w B hB hh

theorem awake_rows (w : World) : RowsAt ((w.alloc (.cells #[.int .i64 3, .int .i64 (-5), .int .i64 2] 3)).alloc (.cells #[.slice (some ⟨w.heap.size, 0, none⟩) 3 3] 49)) (w.heap.size + 2) (some ⟨w.heap.size + 1, 0, none⟩) 1 [[3, -5, 2]] := by
  refine ⟨rfl, by simp [maxLen], fun k hk => ?_⟩
  obtain rfl : k = 0 := by omega
  refine ⟨_, rfl, by simp, some ⟨w.heap.size, 0, none⟩, 3, 3, ?_, Nat.le_refl _, by simp [maxLen], rfl, fun j hj => ⟨_, rfl, by simp, ?_⟩⟩
  · simp [Addr.add, go_sem]
  · have h : j = 0 ∨ j = 1 ∨ j = 2 := by omega
    rcases h with rfl | rfl | rfl <;> simp [Addr.add, go_sem, elOf, rowOf]
set_option maxHeartbeats 400000 in
theorem AWAKE_any (w : World) : Calls Tryd.prog 13 #[] w fun e w' => e = .returned (.bool true) ∧ Below w.heap.size w w' := by
  go_enter Tryd.func13, Tryd.ntmps13
  go_wp2_with fail
  refine (PEAK_any 1 (some ⟨w.heap.size + 1, 0, none⟩) 1 1 [[3, -5, 2]] _ (w.heap.size + 2) (by simp) (awake_rows w)).mono ?_
  rintro e w1 ⟨rfl, hb1⟩
  have h1 : (peakS 1 [[3, -5, 2]]).1 = 5 := by decide
  have h2 : (peakS 1 [[3, -5, 2]]).2 = 0 := by decide
  rw [h1, h2]
  clear h1 h2
  go_wp2_with fail
  go_ret
  exact ⟨rfl, (((Below.refl _ _).alloc (Nat.le_refl _) _).alloc (by simp) _).trans (hb1.mono (by simp; omega))⟩
end Go.Proofs.YtnhmhjhfoonakaaDoor
