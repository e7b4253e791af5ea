/- num.Nat: Div, where the divisor is greater, or has one word, or both numbers are small. -/
import Derived.Test.YtcjdmffflepplaaDoorNstep
import Derived.Test.YtcjdmffflepplaaDoorRegion2
import Derived.Deep.RegionHeld3
set_option linter.unusedSimpArgs false
set_option linter.unusedVariables false
namespace Go.Proofs.YtcjdmffflepplaaDoor
open Go.RowKit Go.Dw

set_option maxHeartbeats 1000000 in
theorem NDIV_lt (A A' : Option Addr) (n c x n' c' y : Nat) (hxy : x < y) (w : World) (B : Nat) (hB : B ≤ w.heap.size) (hh : Hid (NumAt .u32 73 4294967296 w B A n c x)) (hh' : Hid (NumAt .u32 73 4294967296 w B A' n' c' y)) :
    Calls Tryd.prog 48 #[.slice A n c, .slice A' n' c'] w (OutN2 w (x / y) (x % y) n n) := by
  go_enter Tryd.func48, Tryd.ntmps48
  go_wp2_with fail
  refine (NCMP_below A A' n c x n' c' y _ B hh hh').mono ?_
  rintro e w1 ⟨rfl, hb1⟩
  rw [cmpN_lt hxy]
  have HB1 := Lib.hid hb1
  have HXY := Lib.hid hxy
  clear hb1 hxy
  go_wp2_with fail
  go_ret2
  refine ⟨none, 0, 0, A, n, c, rfl, ?_, ?_, Nat.zero_le _, Nat.le_refl _, HB1.out⟩
  · rw [Nat.div_eq_of_lt HXY.out]; exact NumAt.nil _ _ _ _ _
  · rw [Nat.mod_eq_of_lt HXY.out]; exact hh.out.to HB1.out hB (Nat.le_trans hB HB1.out.size)
theorem NATOF_eq (x : Nat) (z : Int) (hz : z = (x : Int)) (hx : x < 18446744073709551616) (w : World) : Calls Tryd.prog 49 #[.int .u64 z] w (OutN w x 2) := by subst hz; exact NATOF_any x hx w
set_option maxRecDepth 100000 in
set_option maxHeartbeats 2000000 in
theorem NDIV_small (A A' : Option Addr) (n c x n' c' y : Nat) (hy0 : 0 < y) (hyx : y ≤ x) (hx : x < 18446744073709551616) (w : World) (B : Nat) (hB : B ≤ w.heap.size) (hh : Hid (NumAt .u32 73 4294967296 w B A n c x)) (hh' : Hid (NumAt .u32 73 4294967296 w B A' n' c' y)) :
    Calls Tryd.prog 48 #[.slice A n c, .slice A' n' c'] w (OutN2 w (x / y) (x % y) 2 2) := by
  have hc0 : decide (cmpN x y < 0) = false := by unfold cmpN; rw [if_neg (by omega)]; split <;> simp
  obtain ⟨z, hz⟩ : ∃ z, cmpN x y = z := ⟨_, rfl⟩
  rw [hz] at hc0
  have HZ := Lib.hid hz
  clear hz
  have hy9 : y < 18446744073709551616 := by omega
  go_enter Tryd.func48, Tryd.ntmps48
  go_wp2_with fail
  refine (NCMP_below A A' n c x n' c' y _ B hh hh').mono ?_
  rintro e w1 ⟨rfl, hb1⟩
  rw [HZ.out]
  have HB1 := Lib.hid hb1
  clear hb1
  go_wp2_with fail
  refine (NSMALL_yes A n c x hx _ B (Lib.hid (hh.out.below HB1.out hB))).mono ?_
  rintro e w2 ⟨rfl, hb2⟩
  have HB2 := Lib.hid (HB1.out.trans (hb2.mono HB1.out.size))
  clear hb2
  go_wp2_with fail
  refine (NSMALL_yes A' n' c' y hy9 _ B (Lib.hid (hh'.out.below HB2.out hB))).mono ?_
  rintro e w3 ⟨rfl, hb3⟩
  have HB3 := Lib.hid (HB2.out.trans (hb3.mono HB2.out.size))
  clear hb3 hc0
  have hyi : ((y : Int) == 0) = false := by simp; omega
  have hyn : ¬ y = 0 := by omega
  have hq : x / y < 18446744073709551616 := Nat.lt_of_le_of_lt (Nat.div_le_self x y) hx
  have hr : x % y < 18446744073709551616 := Nat.lt_of_le_of_lt (Nat.mod_le x y) hx
  obtain ⟨q, hq1⟩ : ∃ q, x / y = q := ⟨_, rfl⟩
  obtain ⟨r, hr1⟩ : ∃ q, x % y = q := ⟨_, rfl⟩
  rw [hq1] at hq
  rw [hr1] at hr
  have hq2 : (x : Int) / (y : Int) = (q : Int) := by rw [← hq1]; exact (Int.natCast_ediv x y).symm
  have hr2 : (x : Int) % (y : Int) = (r : Int) := by rw [← hr1]; exact (Int.natCast_emod x y).symm
  have hr3 : (x : Int).tmod (y : Int) = (r : Int) := by rw [← hr2]; exact Int.tmod_eq_emod_of_nonneg (by omega)
  have hqw : IntKind.u64.wrap (q : Int) = (q : Int) := IntWalk.u64_in _ (by omega)
  have hrw : IntKind.u64.wrap (r : Int) = (r : Int) := IntWalk.u64_in _ (by omega)
  have HQ := Lib.hid hq1
  have HR := Lib.hid hr1
  have HQ9 := Lib.hid hq
  have HR9 := Lib.hid hr
  clear hyx hq1 hr1
  go_wp2_with fail
  go_region_held3 (fun w' => Below w3.heap.size w3 w' ∧ True)
    (exact ⟨(by first | assumption | exact Below.refl _ _ | exact (Below.refl _ _).drew), trivial⟩)
    (first
      | (go_at_call 49; (with_reducible refine (NATOF_eq q _ ?_ HQ9.out _).mono ?_); (exact rfl); rintro e w4 ⟨A4, n4, c4, rfl, h4, k4, b4⟩; have hbS := (‹Below w3.heap.size w3 _ ∧ True›).1.trans (b4.mono (‹Below w3.heap.size w3 _ ∧ True›).1.size))
      | (go_at_call 49; (with_reducible refine (NATOF_eq r _ ?_ HR9.out _).mono ?_); (exact rfl); rintro e w5 ⟨A5, n5, c5, rfl, h5, k5, b5⟩; have hbT := (‹Below w3.heap.size w3 _ ∧ True›).1.trans (b5.mono (‹Below w3.heap.size w3 _ ∧ True›).1.size)))
  all_goals
    have H4 := Lib.hid (h4.to b5 (Nat.le_refl _) b5.size)
    have H5 := Lib.hid h5
    have HT := Lib.hid hbT
    clear h4 h5 hbT hbS b4 b5 hq2 hr2 hr3 hqw hrw
    go_wp2_with fail
    go_ret2
    exact ⟨_, _, _, _, _, _, rfl, by rw [HQ.out]; exact H4.out, by rw [HR.out]; exact H5.out, k4, k5, HB3.out.trans (HT.out.mono HB3.out.size)⟩
set_option maxRecDepth 100000 in
set_option maxHeartbeats 2000000 in
theorem NDIV_word (A A' : Option Addr) (n c x c' y : Nat) (hn : n ≤ 1000000000000) (hyx : y ≤ x) (hx : 18446744073709551616 ≤ x) (w : World) (B : Nat) (hB : B ≤ w.heap.size) (hh : Hid (NumAt .u32 73 4294967296 w B A n c x)) (hh' : Hid (NumAt .u32 73 4294967296 w B A' 1 c' y)) :
    Calls Tryd.prog 48 #[.slice A n c, .slice A' 1 c'] w (OutN2 w (x / y) (x % y) n 2) := by
  obtain ⟨n', hn'⟩ : ∃ n' : Nat, n' = 1 := ⟨_, rfl⟩
  have hy0 : 0 < y := (hh'.out.pos_iff (by omega)).1 (by omega)
  have hy9 : y < 4294967296 := by have := hh'.out.lt_pow; rwa [Nat.pow_one] at this
  obtain ⟨hc1', hc2', ys, hx', hv', hr'⟩ := hh'.out
  obtain ⟨d, rfl⟩ : ∃ d, ys = [d] := by
    match ys, hr'.1 with
    | [d], _ => exact ⟨d, rfl⟩
  obtain rfl : d = y := by rw [← hv', valB_single]
  obtain ⟨q, o, rfl, hq⟩ := hr'.addr (by omega)
  have HR := Lib.hid hr'
  clear hx' hv' hr' hn' hc2'
  have hc0 : decide (cmpN x d < 0) = false := by unfold cmpN; rw [if_neg (by omega)]; split <;> simp
  obtain ⟨z, hz⟩ : ∃ z, cmpN x d = z := ⟨_, rfl⟩
  rw [hz] at hc0
  have HZ := Lib.hid hz
  clear hz
  go_enter Tryd.func48, Tryd.ntmps48
  go_wp2_with fail
  refine (NCMP_below A (some ⟨q, o, none⟩) n c x 1 c' d _ B hh hh').mono ?_
  rintro e w1 ⟨rfl, hb1⟩
  rw [HZ.out]
  have HB1 := Lib.hid hb1
  clear hb1
  go_wp2_with fail
  refine (NSMALL_no A n c x hx _ B (Lib.hid (hh.out.below HB1.out hB))).mono ?_
  rintro e w2 ⟨rfl, hb2⟩
  have HB2 := Lib.hid (HB1.out.trans (hb2.mono HB1.out.size))
  clear hb2
  clear hc0 hx hyx
  have hcell : w2.cell? ⟨q, o, none⟩ = some (.int .u32 d) := (HR.out.below HB2.out hB).cell (i := 0) (by omega)
  go_wp2_with fail
  clear hcell
  refine (NDIVW_any A n c x d hn hy0 hy9 _ B (Nat.le_trans hB HB2.out.size) (Lib.hid (hh.out.below HB2.out hB))).mono ?_
  rintro e w3 ⟨A1, n1, c1, A2, n2, c2, rfl, h1, h2, k1, k2, hb⟩
  have H1 := Lib.hid h1
  have H2 := Lib.hid h2
  have HB3 := Lib.hid (HB2.out.trans (hb.mono HB2.out.size))
  clear h1 h2 hb
  go_wp2_with fail
  go_ret2
  exact ⟨_, _, _, _, _, _, rfl, H1.out, H2.out, k1, k2, HB3.out⟩
end Go.Proofs.YtcjdmffflepplaaDoor
