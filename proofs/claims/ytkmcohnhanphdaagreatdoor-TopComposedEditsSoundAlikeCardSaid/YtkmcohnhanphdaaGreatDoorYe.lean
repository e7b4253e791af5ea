/- num.Nat: Div, where the divisor is greater, or has one word, or both numbers are small. -/
import Derived.Test.YtkmcohnhanphdaaGreatDoorYd
import Derived.Test.YtkmcohnhanphdaaGreatDoorXa
import Derived.Deep.RegionHeld3
import Derived.Test.YtkmcohnhanphdaaGreatDoorYa
import Derived.Deep.LoopGhost
set_option linter.unusedSimpArgs false
set_option linter.unusedVariables false
namespace Go.Proofs.YtkmcohnhanphdaaGreatDoor
open Go.RowKit Go.Dw
set_option maxHeartbeats 1000000 in
theorem NDIV_lt (A A' : Option Addr) (n c x n' c' y : Nat) (hxy : x < y) (w : World) (B : Nat) (hB : B ≤ w.heap.size) (hh : Hid (NumAt .u32 164 4294967296 w B A n c x)) (hh' : Hid (NumAt .u32 164 4294967296 w B A' n' c' y)) :
    Calls Tryz.prog 111 #[.slice A n c, .slice A' n' c'] w (OutN2 w (x / y) (x % y) n n) := by
  go_enter Tryz.func111, Tryz.ntmps111
  go_wp2_with fail
  refine (NCMP_below A A' n c x n' c' y _ B hh hh').mono ?_
  rintro e w1 ⟨rfl, hb1⟩
  rw [cmpN_lt hxy]
  have HB1 := Lib.hid hb1
  have HXY := Lib.hid hxy
  clear hb1 hxy
  go_wp2_with fail
  go_ret2
  refine ⟨none, 0, 0, A, n, c, rfl, ?_, ?_, Nat.zero_le _, Nat.le_refl _, HB1.out⟩
  · rw [Nat.div_eq_of_lt HXY.out]; exact NumAt.nil _ _ _ _ _
  · rw [Nat.mod_eq_of_lt HXY.out]; exact hh.out.to HB1.out hB (Nat.le_trans hB HB1.out.size)
theorem NATOF_eq (x : Nat) (z : Int) (hz : z = (x : Int)) (hx : x < 18446744073709551616) (w : World) : Calls Tryz.prog 73 #[.int .u64 z] w (OutN w x 2) := by subst hz; exact NATOF_any x hx w
set_option maxRecDepth 100000 in
set_option maxHeartbeats 2000000 in
theorem NDIV_small (A A' : Option Addr) (n c x n' c' y : Nat) (hy0 : 0 < y) (hyx : y ≤ x) (hx : x < 18446744073709551616) (w : World) (B : Nat) (hB : B ≤ w.heap.size) (hh : Hid (NumAt .u32 164 4294967296 w B A n c x)) (hh' : Hid (NumAt .u32 164 4294967296 w B A' n' c' y)) :
    Calls Tryz.prog 111 #[.slice A n c, .slice A' n' c'] w (OutN2 w (x / y) (x % y) 2 2) := by
  have hc0 : decide (cmpN x y < 0) = false := by unfold cmpN; rw [if_neg (by omega)]; split <;> simp
  obtain ⟨z, hz⟩ : ∃ z, cmpN x y = z := ⟨_, rfl⟩
  rw [hz] at hc0
  have HZ := Lib.hid hz
  clear hz
  have hy9 : y < 18446744073709551616 := by omega
  go_enter Tryz.func111, Tryz.ntmps111
  go_wp2_with fail
  refine (NCMP_below A A' n c x n' c' y _ B hh hh').mono ?_
  rintro e w1 ⟨rfl, hb1⟩
  rw [HZ.out]
  have HB1 := Lib.hid hb1
  clear hb1
  go_wp2_with fail
  refine (NSMALL_yes A n c x hx _ B (Lib.hid (hh.out.below HB1.out hB))).mono ?_
  rintro e w2 ⟨rfl, hb2⟩
  have HB2 := Lib.hid (HB1.out.trans (hb2.mono HB1.out.size))
  clear hb2
  go_wp2_with fail
  refine (NSMALL_yes A' n' c' y hy9 _ B (Lib.hid (hh'.out.below HB2.out hB))).mono ?_
  rintro e w3 ⟨rfl, hb3⟩
  have HB3 := Lib.hid (HB2.out.trans (hb3.mono HB2.out.size))
  clear hb3 hc0
  have hyi : ((y : Int) == 0) = false := by simp; omega
  have hyn : ¬ y = 0 := by omega
  have hq : x / y < 18446744073709551616 := Nat.lt_of_le_of_lt (Nat.div_le_self x y) hx
  have hr : x % y < 18446744073709551616 := Nat.lt_of_le_of_lt (Nat.mod_le x y) hx
  obtain ⟨q, hq1⟩ : ∃ q, x / y = q := ⟨_, rfl⟩
  obtain ⟨r, hr1⟩ : ∃ q, x % y = q := ⟨_, rfl⟩
  rw [hq1] at hq
  rw [hr1] at hr
  have hq2 : (x : Int) / (y : Int) = (q : Int) := by rw [← hq1]; exact (Int.natCast_ediv x y).symm
  have hr2 : (x : Int) % (y : Int) = (r : Int) := by rw [← hr1]; exact (Int.natCast_emod x y).symm
  have hr3 : (x : Int).tmod (y : Int) = (r : Int) := by rw [← hr2]; exact Int.tmod_eq_emod_of_nonneg (by omega)
  have hqw : IntKind.u64.wrap (q : Int) = (q : Int) := IntWalk.u64_in _ (by omega)
  have hrw : IntKind.u64.wrap (r : Int) = (r : Int) := IntWalk.u64_in _ (by omega)
  have HQ := Lib.hid hq1
  have HR := Lib.hid hr1
  have HQ9 := Lib.hid hq
  have HR9 := Lib.hid hr
  clear hyx hq1 hr1
  go_wp2_with fail
  go_region_held3 (fun w' => Below w3.heap.size w3 w' ∧ True)
    (exact ⟨(by first | assumption | exact Below.refl _ _ | exact (Below.refl _ _).drew), trivial⟩)
    (first
      | (go_at_call 73; (with_reducible refine (NATOF_eq q _ ?_ HQ9.out _).mono ?_); (exact rfl); rintro e w4 ⟨A4, n4, c4, rfl, h4, k4, b4⟩; have hbS := (‹Below w3.heap.size w3 _ ∧ True›).1.trans (b4.mono (‹Below w3.heap.size w3 _ ∧ True›).1.size))
      | (go_at_call 73; (with_reducible refine (NATOF_eq r _ ?_ HR9.out _).mono ?_); (exact rfl); rintro e w5 ⟨A5, n5, c5, rfl, h5, k5, b5⟩; have hbT := (‹Below w3.heap.size w3 _ ∧ True›).1.trans (b5.mono (‹Below w3.heap.size w3 _ ∧ True›).1.size)))
  all_goals
    have H4 := Lib.hid (h4.to b5 (Nat.le_refl _) b5.size)
    have H5 := Lib.hid h5
    have HT := Lib.hid hbT
    clear h4 h5 hbT hbS b4 b5 hq2 hr2 hr3 hqw hrw
    go_wp2_with fail
    go_ret2
    exact ⟨_, _, _, _, _, _, rfl, by rw [HQ.out]; exact H4.out, by rw [HR.out]; exact H5.out, k4, k5, HB3.out.trans (HT.out.mono HB3.out.size)⟩
set_option maxRecDepth 100000 in
set_option maxHeartbeats 2000000 in
theorem NDIV_word (A A' : Option Addr) (n c x c' y : Nat) (hn : n ≤ 1000000000000) (hyx : y ≤ x) (hx : 18446744073709551616 ≤ x) (w : World) (B : Nat) (hB : B ≤ w.heap.size) (hh : Hid (NumAt .u32 164 4294967296 w B A n c x)) (hh' : Hid (NumAt .u32 164 4294967296 w B A' 1 c' y)) :
    Calls Tryz.prog 111 #[.slice A n c, .slice A' 1 c'] w (OutN2 w (x / y) (x % y) n 2) := by
  obtain ⟨n', hn'⟩ : ∃ n' : Nat, n' = 1 := ⟨_, rfl⟩
  have hy0 : 0 < y := (hh'.out.pos_iff (by omega)).1 (by omega)
  have hy9 : y < 4294967296 := by have := hh'.out.lt_pow; rwa [Nat.pow_one] at this
  obtain ⟨hc1', hc2', ys, hx', hv', hr'⟩ := hh'.out
  obtain ⟨d, rfl⟩ : ∃ d, ys = [d] := by
    match ys, hr'.1 with
    | [d], _ => exact ⟨d, rfl⟩
  obtain rfl : d = y := by rw [← hv', valB_single]
  obtain ⟨q, o, rfl, hq⟩ := hr'.addr (by omega)
  have HR := Lib.hid hr'
  clear hx' hv' hr' hn' hc2'
  have hc0 : decide (cmpN x d < 0) = false := by unfold cmpN; rw [if_neg (by omega)]; split <;> simp
  obtain ⟨z, hz⟩ : ∃ z, cmpN x d = z := ⟨_, rfl⟩
  rw [hz] at hc0
  have HZ := Lib.hid hz
  clear hz
  go_enter Tryz.func111, Tryz.ntmps111
  go_wp2_with fail
  refine (NCMP_below A (some ⟨q, o, none⟩) n c x 1 c' d _ B hh hh').mono ?_
  rintro e w1 ⟨rfl, hb1⟩
  rw [HZ.out]
  have HB1 := Lib.hid hb1
  clear hb1
  go_wp2_with fail
  refine (NSMALL_no A n c x hx _ B (Lib.hid (hh.out.below HB1.out hB))).mono ?_
  rintro e w2 ⟨rfl, hb2⟩
  have HB2 := Lib.hid (HB1.out.trans (hb2.mono HB1.out.size))
  clear hb2
  clear hc0 hx hyx
  have hcell : w2.cell? ⟨q, o, none⟩ = some (.int .u32 d) := (HR.out.below HB2.out hB).cell (i := 0) (by omega)
  go_wp2_with fail
  clear hcell
  refine (NDIVW_any A n c x d hn hy0 hy9 _ B (Nat.le_trans hB HB2.out.size) (Lib.hid (hh.out.below HB2.out hB))).mono ?_
  rintro e w3 ⟨A1, n1, c1, A2, n2, c2, rfl, h1, h2, k1, k2, hb⟩
  have H1 := Lib.hid h1
  have H2 := Lib.hid h2
  have HB3 := Lib.hid (HB2.out.trans (hb.mono HB2.out.size))
  clear h1 h2 hb
  go_wp2_with fail
  go_ret2
  exact ⟨_, _, _, _, _, _, rfl, H1.out, H2.out, k1, k2, HB3.out⟩
end Go.Proofs.YtkmcohnhanphdaaGreatDoor
/- num.Nat: Div, long division. -/
namespace Go.Proofs.YtkmcohnhanphdaaGreatDoor
open Go.RowKit Go.Dw
theorem bitLenAux_spec : ∀ (f k x : Nat), x < 2 ^ k → k ≤ f → x < 2 ^ (Lib.bitLenAux f x) ∧ Lib.bitLenAux f x ≤ k
  | 0, k, x, hx, hk => by
    obtain rfl : k = 0 := by omega
    exact ⟨by simpa [Lib.bitLenAux] using hx, Nat.zero_le _⟩
  | f + 1, k, x, hx, hk => by
    by_cases h0 : x = 0
    · subst h0
      simp [Lib.bitLenAux]
    · simp only [Lib.bitLenAux, if_neg h0]
      obtain ⟨j, rfl⟩ : ∃ j, k = j + 1 := ⟨k - 1, by rcases k with _ | k; simp at hx; omega; omega⟩
      have h1 := bitLenAux_spec f j (x / 2) (by rw [Nat.pow_succ] at hx; omega) (by omega)
      refine ⟨?_, by omega⟩
      rw [Nat.add_comm 1, Nat.pow_succ]
      omega
theorem LZ32_any (d : Nat) (h0 : 0 < d) (h1 : d < 4294967296) (w : World) : Calls Tryz.prog 148 #[.int .u32 d] w fun e w' => (∃ s : Nat, s < 32 ∧ (d + 1) * 2 ^ s ≤ 4294967296 ∧ e = .returned (.int .i64 s)) ∧ w = w' := by
  refine (Tryz.bits_LeadingZeros32 d w (by omega) (by omega)).mono fun e w' ⟨h2, h3⟩ => ⟨?_, h3.symm⟩
  obtain ⟨h4, h5⟩ := bitLenAux_spec 64 32 d (by omega) (by omega)
  rw [Int.toNat_natCast] at h2
  have e1 : Lib.bitLen d = Lib.bitLenAux 64 d := rfl
  obtain ⟨l, hl⟩ : ∃ l, Lib.bitLenAux 64 d = l := ⟨_, rfl⟩
  rw [e1, hl] at h2
  rw [hl] at h4 h5
  have hl0 : 0 < l := by
    rcases Nat.eq_zero_or_pos l with h | h
    · subst h; simp at h4; omega
    · exact h
  refine ⟨32 - l, by omega, ?_, by rw [h2]; congr 2; omega⟩
  have h6 := Nat.mul_le_mul_right (2 ^ (32 - l)) (show d + 1 ≤ 2 ^ l from h4)
  rw [← Nat.pow_add, show l + (32 - l) = 32 by omega] at h6
  exact h6
theorem norm_lt {m s y : Nat} {ys : List Nat} (hl : ys.length = m + 1) (dY : DigN 4294967296 ys) (hv : valB 4294967296 ys = y) (hs : (ys.getD m 0 + 1) * 2 ^ s ≤ 4294967296) : y * 2 ^ s < 4294967296 ^ (m + 1) := by
  have h1 := valB_split 4294967296 ys (k := m) (by omega)
  rw [valB_drop 4294967296 ys (by omega), List.drop_of_length_le (by omega), hv] at h1
  simp only [valB, Nat.mul_zero, Nat.add_zero] at h1
  have h2 := valB_lt (dY.take m)
  rw [List.length_take, Nat.min_eq_left (by omega)] at h2
  have h3 : y < 4294967296 ^ m * (ys.getD m 0 + 1) := by rw [Nat.mul_add]; omega
  have h4 := Nat.mul_lt_mul_of_pos_right h3 (Nat.two_pow_pos s)
  rw [Nat.mul_assoc] at h4
  have h5 := Nat.mul_le_mul_left (4294967296 ^ m) hs
  rw [Nat.pow_succ]
  omega
theorem grown_below' {a w : World} {g B : Nat} (h : a.grownBy w (some g)) (hB : B ≤ a.heap.size) (hg : B ≤ g) : Below B a w := (Below.refl B a).grown h hB (fun k hk => by injection hk with hk; omega)
theorem run_cutN (g n c p q : Nat) (hp : p ≤ q) (hq : q ≤ c) (hc : p < c) (W : World) :
    (Instr.slice 80 (.slice (some ⟨g, 0, none⟩) n c) (some (.int .i64 p)) (some (.int .i64 q)) none).run Tryz.prog W = .ok (.slice (some ⟨g, p, none⟩) (q - p) (c - p)) W := by
  obtain ⟨i, hi, hz0, hz1, hz2⟩ := info_parts u32_info
  have he : Tryz.prog.elem 80 = 164 := by simp [Program.elem, Tryz.underlying80]
  rw [run_slice_lh (P := Tryz.prog) (w := W) 80 (some ⟨g, 0, none⟩) n c (by rw [he]; exact Tryz.underlying80) .i64 .i64 p q (by omega) (by omega) (by omega)]
  rw [he]
  have hne : ¬ c = p := by omega
  have ha : (⟨g, 0, none⟩ : Addr).add p = ⟨g, p, none⟩ := by unfold Addr.add; split <;> simp_all
  simp [sizeOf, typeInfo, hi, hz1, sliced, hne, ha, go_sem]
set_option maxRecDepth 100000 in
set_option maxHeartbeats 4000000 in
theorem NDIV_long (A A' : Option Addr) (n c x n' c' y : Nat) (hn : n ≤ 100000000) (hn1 : 1 < n') (hyx : y ≤ x) (hx : 18446744073709551616 ≤ x) (w : World) (B : Nat) (hB : B ≤ w.heap.size) (hh : Hid (NumAt .u32 164 4294967296 w B A n c x)) (hh' : Hid (NumAt .u32 164 4294967296 w B A' n' c' y)) :
    Calls Tryz.prog 111 #[.slice A n c, .slice A' n' c'] w (OutN2 w (x / y) (x % y) n n') := by
  have hy0 : 0 < y := (hh'.out.pos_iff (by omega)).1 (by omega)
  have hnn : n' ≤ n := hh'.out.len_mono (by omega) hh.out hyx
  obtain ⟨hc1, hc2, xs, hxs, hv, hr⟩ := hh.out
  obtain ⟨hc1', hc2', ys, hys, hv', hr'⟩ := hh'.out
  have HX := Lib.hid hxs
  have HV := Lib.hid hv
  have HR := Lib.hid hr
  have HX' := Lib.hid hys
  have HV' := Lib.hid hv'
  have HR' := Lib.hid hr'
  have HXL := Lib.hid hh.out.lt_pow
  obtain ⟨m, hm⟩ : ∃ m, n' = m + 1 := ⟨n' - 1, by omega⟩
  have htop := can_last hys (k := m) (by rw [hr'.1, hm])
  have hlow := hys.ge (by intro e; rw [e] at hr'; have := hr'.1; simp at this; omega)
  rw [hr'.1, hv'] at hlow
  have HLOW := Lib.hid hlow
  have hdt := hys.1.get (by omega) m
  obtain ⟨q, o, rfl, hq⟩ := hr'.addr (by omega)
  obtain ⟨d, hd1⟩ : ∃ d, ys.getD m 0 = d := ⟨_, rfl⟩
  rw [hd1] at htop hdt
  have HD := Lib.hid hd1
  have HM := Lib.hid hm
  have HY0 := Lib.hid hy0
  unfold maxLen at hc2 hc2'
  clear hxs hv hr hys hv' hr' hlow hd1 hm hy0
  have hc0 : decide (cmpN x y < 0) = false := by unfold cmpN; rw [if_neg (by omega)]; split <;> simp
  obtain ⟨z, hz⟩ : ∃ z, cmpN x y = z := ⟨_, rfl⟩
  rw [hz] at hc0
  have HZ := Lib.hid hz
  clear hz
  go_enter Tryz.func111, Tryz.ntmps111
  go_wp2_with fail
  refine (NCMP_below A (some ⟨q, o, none⟩) n c x n' c' y _ B hh hh').mono ?_
  rintro e w1 ⟨rfl, hb1⟩
  rw [HZ.out]
  have HB1 := Lib.hid hb1
  clear hb1
  go_wp2_with fail
  refine (NSMALL_no A n c x hx _ B (Lib.hid (hh.out.below HB1.out hB))).mono ?_
  rintro e w2 ⟨rfl, hb2⟩
  have HB2 := Lib.hid (HB1.out.trans (hb2.mono HB1.out.size))
  clear hb2
  clear hc0 hx hyx
  have hcell : w2.cell? ⟨q, o + m, none⟩ = some (.int .u32 d) := by rw [← HD.out]; exact (HR'.out.below HB2.out hB).cell (i := m) (by have := HM.out; omega)
  have hnm : (n' : Int) - 1 = (m : Int) := by have := HM.out; omega
  have hm9 : m < n' := by have := HM.out; omega
  have hn1b : ((n' : Int) == 1) = false := by simp; omega
  go_wp2_with fail
  clear hcell hnm
  refine (LZ32_any d (by omega) hdt _).mono ?_
  rintro e w3 ⟨⟨s, hs32, hs2, rfl⟩, rfl⟩
  have HS2 := Lib.hid hs2
  clear hs2
  go_wp2_with fail
  refine (NLEFT_any A n c x s (by omega) hs32 xs HX HV _ B (Nat.le_trans hB HB2.out.size) (Lib.hid (HR.out.below HB2.out hB))).mono ?_
  rintro e w4 ⟨g1, L1, rfl, hL1, hl1, hd1, hv1, hg1, hb4⟩
  have HL1 := Lib.hid hL1
  have Hl1 := Lib.hid hl1
  have Hd1 := Lib.hid hd1
  have Hv1 := Lib.hid hv1
  have HB4 := Lib.hid (HB2.out.trans (hb4.mono HB2.out.size))
  have Hg1 := Lib.hid (Nat.le_trans HB2.out.size hg1)
  clear hL1 hl1 hd1 hv1 hg1 hb4
  go_wp2_with fail
  refine (NLEFT_any _ n' c' y s (by omega) hs32 ys HX' HV' _ B (Nat.le_trans hB HB4.out.size) (Lib.hid (HR'.out.below HB4.out hB))).mono ?_
  rintro e w5 ⟨g2, L2, rfl, hL2, hl2, hd2, hv2, hg2, hb5⟩
  have hg12 : g1 < g2 := Nat.lt_of_lt_of_le HL1.out.lt hg2
  have HL15 := Lib.hid (HL1.out.below hb5 HL1.out.lt)
  have HL2 := Lib.hid hL2
  have Hl2 := Lib.hid hl2
  have Hd2 := Lib.hid hd2
  have HB5 := Lib.hid (HB4.out.trans (hb5.mono HB4.out.size))
  have HVV := Lib.hid (norm_lt (s := s) (by rw [HR'.out.1, HM.out]) HX'.out.1 HV'.out (by rw [HD.out]; exact HS2.out))
  have HV2 : Hid (valB 4294967296 (L2.take n') = y * 2 ^ s) := by
    have h1 := valB_split 4294967296 L2 (k := n') (by omega)
    have h2 := HVV.out
    rw [← HM.out] at h2
    rw [hv2] at h1
    show _ = _
    rcases Nat.eq_zero_or_pos (valB 4294967296 (L2.drop n')) with h3 | h3
    · rw [h3] at h1; omega
    · have := Nat.mul_le_mul_left (4294967296 ^ n') (show 1 ≤ valB 4294967296 (L2.drop n') from h3)
      omega
  have HSTART := Lib.hid (div_start (b := 4294967296) (n := n) (m := n') (s := s) (x := x) (y := y) (L := L1) (by omega) hnn (by omega) Hl1.out Hv1.out HXL.out HLOW.out)
  clear HL1 hL2 hl2 hd2 hv2 hg2 hb5 HXL HLOW HS2
  obtain ⟨dn, hdn⟩ : ∃ d, n - n' = d := ⟨_, rfl⟩
  have hdi : (n : Int) - (n' : Int) = (dn : Int) := by omega
  rw [hdn] at HSTART
  have HDN := Lib.hid (show n = dn + n' by omega)
  have hdn9 : dn ≤ n := by omega
  have hmk := mkNat1 dn (by omega)
  clear hdn
  go_wp2_with fail
  obtain ⟨g3, hg3⟩ : ∃ g, g = w5.heap.size := ⟨_, rfl⟩
  rw [← hg3]
  have hg13 : g1 < g3 := by rw [hg3]; exact HL15.out.lt
  have hg23 : g2 < g3 := by rw [hg3]; exact HL2.out.lt
  obtain ⟨W, hW⟩ : ∃ W, W = w5.alloc (.cells (cellsN .u32 (List.replicate (dn + 1) 0)) 164) := ⟨_, rfl⟩
  have HB0 : Hid (BlkN .u32 164 W g3 (List.replicate (dn + 1) 0)) := by rw [hW, hg3]; exact BlkN.mk _ _ _ _
  have HU0 : Hid (BlkN .u32 164 W g1 L1) := by rw [hW]; exact HL15.out.alloc _
  have HV0 : Hid (BlkN .u32 164 W g2 L2) := by rw [hW]; exact HL2.out.alloc _
  have HW0 : Hid (Below w.heap.size w W) := by show Below _ _ _; rw [hW]; exact HB5.out.alloc HB5.out.size _
  rw [← hW]
  obtain ⟨V, hV⟩ : ∃ V, y * 2 ^ s = V := ⟨_, rfl⟩
  rw [hV] at HV2 HVV HSTART
  have HVE := Lib.hid hV
  have HV00 : Hid (0 < V) := by show 0 < V; rw [← hV]; exact Nat.mul_pos HY0.out (Nat.two_pow_pos s)
  clear hW hg3 hmk hV HL15 HL2 hdi
  have hdig : ∃ dn1, dn1 = dn + 1 := ⟨_, rfl⟩
  go_loopw [15] (fun i wr => ∃ (k : Nat) (zz : Int) (U Q : List Nat), k ≤ dn + 1 ∧ i = .int .i64 zz ∧ Hid (zz = (k : Int) - 1) ∧ Hid (U.length = n + 1) ∧ Hid (DigN 4294967296 U) ∧ Hid (Q.length = dn + 1) ∧ Hid (DigN 4294967296 Q) ∧ Hid (valB 4294967296 U + V * (4294967296 ^ k * valB 4294967296 (Q.drop k)) = x * 2 ^ s) ∧ Hid (valB 4294967296 (U.drop k) < V) ∧ Hid (BlkN .u32 164 wr g1 U) ∧ Hid (BlkN .u32 164 wr g2 L2) ∧ Hid (BlkN .u32 164 wr g3 Q) ∧ Hid (Below w.heap.size w wr)) (fun i _ => (intOf i + 1).toNat)
  case atStart => exact ⟨dn + 1, _, L1, _, Nat.le_refl _, by go_num, by show _ = _; omega, Hl1, Hd1, by show _ = _; simp, DigN.zeros (by omega) _, (by show _ = _; rw [List.drop_of_length_le (by simp), show valB 4294967296 [] = 0 from rfl, Nat.mul_zero, Nat.mul_zero, Nat.add_zero]; exact Hv1.out), HSTART, HU0, HV0, HB0, HW0⟩
  case round =>
    clear HSTART HU0 HB0 HV0 HW0 Hl1 Hd1 Hv1
    obtain ⟨k, zz, U, Q, hk, rfl, hz, hul, hud, hql, hqd, hI, hI2, hbu, hbv, hbq, hw⟩ := hrel
    by_cases h0 : 0 < k
    · obtain ⟨j, rfl⟩ : ∃ j, k = j + 1 := ⟨k - 1, by omega⟩
      obtain rfl : zz = (j : Int) := by have := hz.out; omega
      have hnj : j + n' ≤ n := by have := HDN.out; omega
      obtain ⟨e, he⟩ : ∃ e, j + n' = e := ⟨_, rfl⟩
      have hei : (j : Int) + (n' : Int) = (e : Int) := by omega
      obtain ⟨W2, hW2⟩ : ∃ W2, valB 4294967296 ((U.drop j).take (n' + 1)) = W2 := ⟨_, rfl⟩
      have HWIN := Lib.hid (div_window (b := 4294967296) (j := j) (m := n') (V := V) (U := U) (by omega) hud.out (by rw [hul.out]; omega) (by rw [HM.out]; exact HVV.out) hI2.out)
      rw [hW2] at HWIN
      have hsl1 : ∀ W, (Instr.slice 80 (.slice (some ⟨g1, 0, none⟩) (n + 1) (n + 1)) (some (.int .i64 (j : Int))) (some (.int .i64 ((e : Int) + 1))) none).run Tryz.prog W = .ok (.slice (some ⟨g1, j, none⟩) (n' + 1) (n + 1 - j)) W := fun W => by
        have h1 := run_cutN g1 (n + 1) (n + 1) j (e + 1) (by omega) (by omega) (by omega) W
        rw [show ((e + 1 : Nat) : Int) = (e : Int) + 1 by omega, show e + 1 - j = n' + 1 by omega] at h1
        exact h1
      have HE := Lib.hid he
      have HWW := Lib.hid hW2
      have HSTEP := Lib.hid (fun (Wx : World) (h1 : BlkN .u32 164 Wx g1 U) (h2 : BlkN .u32 164 Wx g2 L2) => NSTEP_any g1 j n' (n + 1 - j) g2 (n' + 1) U L2 W2 V (by omega) (by unfold maxLen; omega) (by unfold maxLen; omega) (by omega) Wx h1 h2 (by omega) hud Hd2 (by show _ ≤ _; rw [hul.out]; omega) (by show _ ≤ _; rw [Hl2.out]; omega) HWW HV2 (by show _ < _; have a1 := HWIN.out.1; have a2 := HWIN.out.2.1; omega))
      have hwe : IntKind.i64.wrap (e : Int) = (e : Int) := IntWalk.i64_in _ (by omega)
      have hwe1 : IntKind.i64.wrap ((e : Int) + 1) = (e : Int) + 1 := IntWalk.i64_in _ (by omega)
      have hnn1 : (n' : Int) ≤ (n' : Int) + 1 := by omega
      clear he hW2
      go_wp2_with fail
      refine wp_region_text 13 (fun _ => True) (by kernel_rfl) (by kernel_rfl) ?_
      have hS : True := trivial
      refine HT.take (i := 0) (oi := _) (v := ?_) rfl (by kernel_rfl) (by kernel_rfl) (by decide) (fun _ _ _ h => h) (Or.inl ⟨by rfl, ?_⟩) hS ?_
      rotate_left
      · intro wz
        go_simp
        try with_reducible rfl
      simp only [zA, zB, zC, Act.put, zD, zE, zF]
      refine HT.take (i := 1) (oi := _) (v := ?_) rfl (by kernel_rfl) (by kernel_rfl) (by decide) (fun _ _ _ h => h) (Or.inl ⟨by rfl, ?_⟩) hS ?_
      rotate_left
      · intro wz
        go_simp
        try with_reducible rfl
      simp only [zA, zB, zC, Act.put, zD, zE, zF]
      refine HT.take (i := 2) (oi := _) (v := ?_) rfl (by kernel_rfl) (by kernel_rfl) (by decide) (fun _ _ _ h => h) (Or.inl ⟨by rfl, ?_⟩) hS ?_
      rotate_left
      · intro wz
        go_simp
        try with_reducible rfl
      simp only [zA, zB, zC, Act.put, zD, zE, zF]
      refine HT.take (i := 3) (oi := _) (v := ?_) rfl (by kernel_rfl) (by kernel_rfl) (by decide) (fun _ _ _ h => h) (Or.inl ⟨by rfl, ?_⟩) hS ?_
      rotate_left
      · intro wz
        go_simp
        try with_reducible rfl
      simp only [zA, zB, zC, Act.put, zD, zE, zF]
      refine HT.take (i := 4) (oi := _) (v := ?_) rfl (by kernel_rfl) (by kernel_rfl) (by decide) (fun _ _ _ h => h) (Or.inl ⟨by rfl, ?_⟩) hS ?_
      rotate_left
      · intro wz
        go_simp
        try with_reducible rfl
      simp only [zA, zB, zC, Act.put, zD, zE, zF]
      refine HT.take (i := 5) (oi := _) (v := ?_) rfl (by kernel_rfl) (by kernel_rfl) (by decide) (fun _ _ _ h => h) (Or.inl ⟨by rfl, ?_⟩) hS ?_
      rotate_left
      · intro wz
        go_simp
        try with_reducible rfl
      simp only [zA, zB, zC, Act.put, zD, zE, zF]
      refine HT.take (i := 6) (oi := _) (v := ?_) rfl (by kernel_rfl) (by kernel_rfl) (by decide) (fun _ _ _ h => h) (Or.inl ⟨by rfl, ?_⟩) hS ?_
      rotate_left
      · intro wz
        go_simp
        try with_reducible rfl
      simp only [zA, zB, zC, Act.put, zD, zE, zF]
      refine HT.take (i := 7) (oi := _) (v := ?_) rfl (by kernel_rfl) (by kernel_rfl) (by decide) (fun _ _ _ h => h) (Or.inl ⟨by rfl, ?_⟩) hS ?_
      rotate_left
      · intro wz
        go_simp
        try with_reducible rfl
      simp only [zA, zB, zC, Act.put, zD, zE, zF]
      refine HT.take (i := 8) (oi := _) (v := ?_) rfl (by kernel_rfl) (by kernel_rfl) (by decide) (fun _ _ _ h => h) (Or.inl ⟨by rfl, ?_⟩) hS ?_
      rotate_left
      · intro wz
        go_simp
        try with_reducible rfl
      simp only [zA, zB, zC, Act.put, zD, zE, zF]
      refine HT.take (i := 9) (oi := _) (v := ?_) rfl (by kernel_rfl) (by kernel_rfl) (by decide) (fun _ _ _ h => h) (Or.inl ⟨by rfl, ?_⟩) hS ?_
      rotate_left
      · intro wz
        go_simp
        try with_reducible rfl
      simp only [zA, zB, zC, Act.put, zD, zE, zF]
      refine HT.take (i := 10) (oi := _) (v := ?_) rfl (by kernel_rfl) (by kernel_rfl) (by decide) (fun _ _ _ h => h) (Or.inl ⟨by rfl, ?_⟩) hS ?_
      rotate_left
      · intro wz
        go_simp
        try with_reducible rfl
      simp only [zA, zB, zC, Act.put, zD, zE, zF]
      refine HT.take (i := 11) (oi := _) (v := ?_) rfl (by kernel_rfl) (by kernel_rfl) (by decide) (fun _ _ _ h => h) (Or.inl ⟨by rfl, ?_⟩) hS ?_
      rotate_left
      · intro wz
        go_simp
        try with_reducible rfl
      simp only [zA, zB, zC, Act.put, zD, zE, zF]
      refine HT.one (i := 12) (o := _) rfl (by kernel_rfl) (by decide) (by rfl) ?_
      intro K hK
      go_simp
      refine (HSTEP.out _ hbu.out.drew hbv.out.drew).mono ?_
      rintro e9 w6 ⟨rfl, M, hM1, hM2, hM3, hM4, hg7⟩
      have hg6 : wr.grownBy w6 (some g1) := ⟨hg7.os, hg7.tape, hg7.output, hg7.size, hg7.block⟩
      clear hg7
      refine hK.out _ _ hS ?_
      try simp only [zA, zB, zC, Act.put, zD, zE, zF]
      clear hK K
      obtain ⟨t, ht⟩ : ∃ t, W2 / V = t := ⟨_, rfl⟩
      rw [ht]
      have hbv6 : BlkN .u32 164 w6 g2 L2 := (hg6.block g2 hbv.out.lt (by simp; omega)).trans hbv.out
      have hbq6 : BlkN .u32 164 w6 g3 Q := (hg6.block g3 hbq.out.lt (by simp; omega)).trans hbq.out
      have hw6 : Below w.heap.size w w6 := hw.out.trans (grown_below' hg6 hw.out.size Hg1.out)
      have hold := hbq6.cell (i := j) (by rw [hql.out]; omega)
      have hfr := hbq6.frozen j
      have HDIG := Lib.hid (div_digit (b := 4294967296) (j := j) (m := n') (V := V) (W := W2) (X := x * 2 ^ s) (U := U) (Q := Q) (M := M) (by rw [hul.out]; omega) (by rw [hql.out]; omega) hM1 hM3 HV00.out HWW.out HWIN.out.2.2 hI.out)
      rw [ht] at HDIG
      have hWV : W2 < V * 4294967296 := by have a1 := HWIN.out.1; have a2 := HWIN.out.2.1; omega
      have ht9 : t < 4294967296 := by rw [← ht]; exact Nat.div_lt_of_lt_mul hWV
      have HSET := Lib.hid (hbq6.set j t)
      have HBU := Lib.hid (hM4.far (p := ⟨g3, j, none⟩) (by dsimp only; omega) (.int .u32 (t : Int)))
      have HBV := Lib.hid (hbv6.far (p := ⟨g3, j, none⟩) (by dsimp only; omega) (.int .u32 (t : Int)))
      have HW6 := Lib.hid (hw6.setCell (p := ⟨g3, j, none⟩) (by dsimp only; have := Hg1.out; omega) (.int .u32 (t : Int)))
      have HUL6 : Hid ((putN U j M).length = n + 1) := by show _ = _; rw [putN_length (by rw [hM1, hul.out]; omega)]; exact hul.out
      have HUD6 := Lib.hid (putN_dig (j := j) hud.out hM2)
      have hj0 : (0 : Int) ≤ (j : Int) ∧ (j : Int) < (dn : Int) + 1 := by omega
      obtain ⟨hj0, hj1⟩ := hj0
      clear ht hM1 hM2 hM3 hM4 hg6 hbv6 hbq6 hw6 hWV hsl1 hei hwe hwe1 hnn1
      refine HT.done (by kernel_rfl) ?_
      clear hS
      simp only [List.drop_succ_cons, List.drop_zero]
      go_wp2_with fail
      go_roundw
      case rel =>
        exact ⟨j, (j : Int) - 1, putN U j M, Q.set j t, by omega, by go_num, rfl, HUL6, HUD6, (by show _ = _; rw [List.length_set]; exact hql.out), hqd.out.set ht9 j, Lib.hid HDIG.out.1, Lib.hid HDIG.out.2, HBU, HBV, HSET, HW6⟩
      case measure => simp [intOf] <;> omega
    · obtain rfl : k = 0 := by omega
      obtain rfl : zz = -1 := by have := hz.out; omega
      have HEND : Hid (valB 4294967296 Q = x / y ∧ valB 4294967296 U = x % y * 2 ^ s) := by
        have h1 := hI.out
        have h2 := hI2.out
        rw [List.drop_zero, Nat.pow_zero, Nat.one_mul, ← HVE.out] at h1
        rw [List.drop_zero, ← HVE.out] at h2
        exact div_end HY0.out h1 h2
      clear hI hI2 hbv hz hdig
      have hmk := mkNat n' (by omega)
      obtain ⟨wo, rfl⟩ : ∃ wo : World, wo = wr := ⟨_, rfl⟩
      go_wp2_with fail
      obtain ⟨g4, hg4⟩ : ∃ g, g = wo.heap.size := ⟨_, rfl⟩
      rw [← hg4]
      have hg34 : g3 < g4 := by rw [hg4]; exact hbq.out.lt
      obtain ⟨W, hW⟩ : ∃ W, W = wo.alloc (.cells (cellsN .u32 (List.replicate n' 0)) 164) := ⟨_, rfl⟩
      have HB0 : Hid (BlkN .u32 164 W g4 (List.replicate n' 0)) := by rw [hW, hg4]; exact BlkN.mk _ _ _ _
      have HU0 : Hid (BlkN .u32 164 W g1 U) := by rw [hW]; exact hbu.out.alloc _
      have HQ0 : Hid (BlkN .u32 164 W g3 Q) := by rw [hW]; exact hbq.out.alloc _
      have HW0 : Hid (Below w.heap.size w W) := by show Below _ _ _; rw [hW]; exact hw.out.alloc hw.out.size _
      rw [← hW]
      clear hW hg4 hmk hbu hbq hw
      go_loopw [100] (fun i wr => ∃ (k : Nat) (R : List Nat), k ≤ n' ∧ i = .int .i64 k ∧ Hid (R.length = n') ∧ Hid (DigN 4294967296 R) ∧ Hid (valB 4294967296 (R.take k) = x % y % 4294967296 ^ k) ∧ Hid (BlkN .u32 164 wr g1 U) ∧ Hid (BlkN .u32 164 wr g3 Q) ∧ Hid (BlkN .u32 164 wr g4 R) ∧ Hid (Below w.heap.size w wr)) (fun i _ => n' - (intOf i).toNat)
      case atStart => exact ⟨0, _, Nat.zero_le _, rfl, by show _ = _; simp, DigN.zeros (by omega) _, by show _ = _; rw [List.take_zero, Nat.pow_zero, Nat.mod_one]; rfl, HU0, HQ0, HB0, HW0⟩
      case round =>
        clear HB0 HU0 HQ0 HW0
        obtain ⟨k, R, hk, rfl, hrl, hrd, hI, hbu, hbq, hbr, hw⟩ := hrel
        by_cases hlt : k < n'
        · have c0 := hbu.out.cell (i := k) (by rw [hul.out]; omega)
          have c1 := hbu.out.cell (i := k + 1) (by rw [hul.out]; omega)
          have d0 := hud.out.get (by omega) k
          have d1 := hud.out.get (by omega) (k + 1)
          have HREM := Lib.hid (rem_digit (b := 4294967296) (i := k) (s := s) (z := x % y) (U := U) (by omega) (Nat.pow_dvd_pow 2 (show s ≤ 32 by omega)) hud.out (by rw [hul.out]; omega) HEND.out.2)
          obtain ⟨a, ha⟩ : ∃ a, U.getD k 0 = a := ⟨_, rfl⟩
          obtain ⟨a1, ha1⟩ : ∃ a, U.getD (k + 1) 0 = a := ⟨_, rfl⟩
          rw [ha] at c0 d0 HREM
          rw [ha1] at c1 d1 HREM
          obtain ⟨t, ht⟩ : ∃ t, a + 4294967296 * a1 = t := ⟨_, rfl⟩
          have hor := or_join a a1 d0 d1
          rw [ht] at hor HREM
          have ht9 : t < 18446744073709551616 := by omega
          have hk1 : (k : Int) + 1 < (n : Int) + 1 := by omega
          have hk0 : (k : Int) < (n : Int) + 1 := by omega
          have hk2 : (k : Int) < (n' : Int) := by omega
          have hk3 : (0 : Int) ≤ (k : Int) := by omega
          have hk4 : (0 : Int) ≤ (k : Int) + 1 := by omega
          have hold := hbr.out.cell (i := k) (by rw [hrl.out]; omega)
          have hfr := hbr.out.frozen k
          have hwk1 : IntKind.i64.wrap ((k : Int) + 1) = (k : Int) + 1 := IntWalk.i64_in _ (by omega)
          have hkt : ((k : Int) + 1).toNat = k + 1 := by omega
          clear ha ha1 ht
          go_wp2_with fail
          refine wp_region_text 18 (fun x => x.cell? ⟨g1, k, none⟩ = some (.int .u32 a) ∧ x.cell? ⟨g1, k + 1, none⟩ = some (.int .u32 a1)) (by kernel_rfl) (by kernel_rfl) ?_
          have hS : wr.drew.cell? ⟨g1, k, none⟩ = some (.int .u32 a) ∧ wr.drew.cell? ⟨g1, k + 1, none⟩ = some (.int .u32 a1) := ⟨c0, c1⟩
          refine HT.take (i := 0) (oi := _) (v := ?_) rfl (by kernel_rfl) (by kernel_rfl) (by decide) (fun _ _ _ h => h) (Or.inl ⟨by rfl, ?_⟩) hS ?_
          rotate_left
          · intro wz
            go_simp
            try with_reducible rfl
          simp only [zA, zB, zC, Act.put, zD, zE, zF]
          refine HT.take (i := 1) (oi := _) (v := ?_) rfl (by kernel_rfl) (by kernel_rfl) (by decide) (fun _ _ _ h => h) (Or.inl ⟨by rfl, ?_⟩) hS ?_
          rotate_left
          · intro wz
            go_simp
            try with_reducible rfl
          simp only [zA, zB, zC, Act.put, zD, zE, zF]
          refine HT.take (i := 2) (oi := _) (v := ?_) rfl (by kernel_rfl) (by kernel_rfl) (by decide) (fun _ _ _ h => h) (Or.inl ⟨by rfl, ?_⟩) hS ?_
          rotate_left
          · intro wz
            go_simp
            try with_reducible rfl
          simp only [zA, zB, zC, Act.put, zD, zE, zF]
          refine HT.take (i := 3) (oi := _) (v := ?_) rfl (by kernel_rfl) (by kernel_rfl) (by decide) (fun _ _ _ h => h) (Or.inl ⟨by rfl, ?_⟩) hS ?_
          rotate_left
          · intro wz
            go_simp
            try with_reducible rfl
          simp only [zA, zB, zC, Act.put, zD, zE, zF]
          refine HT.take (i := 4) (oi := _) (v := ?_) rfl (by kernel_rfl) (by kernel_rfl) (by decide) (fun _ _ _ h => h) (Or.inl ⟨by rfl, ?_⟩) hS ?_
          rotate_left
          · intro wz
            go_simp
            try with_reducible rfl
          simp only [zA, zB, zC, Act.put, zD, zE, zF]
          refine HT.load (i := 5) (oi := _) (v := ?_) rfl (by kernel_rfl) (by kernel_rfl) (by decide) (fun _ _ _ h => h) (by kernel_rfl) (Or.inl ⟨by rfl, ?_⟩) hS ?_
          rotate_left
          · intro wz hwz
            try dsimp only at hwz
            go_simp
            try with_reducible rfl
          simp only [zA, zB, zC, Act.put, zD, zE, zF]
          refine HT.take (i := 6) (oi := _) (v := ?_) rfl (by kernel_rfl) (by kernel_rfl) (by decide) (fun _ _ _ h => h) (Or.inl ⟨by rfl, ?_⟩) hS ?_
          rotate_left
          · intro wz
            go_simp
            try with_reducible rfl
          simp only [zA, zB, zC, Act.put, zD, zE, zF]
          refine HT.take (i := 7) (oi := _) (v := ?_) rfl (by kernel_rfl) (by kernel_rfl) (by decide) (fun _ _ _ h => h) (Or.inl ⟨by rfl, ?_⟩) hS ?_
          rotate_left
          · intro wz
            go_simp
            try with_reducible rfl
          simp only [zA, zB, zC, Act.put, zD, zE, zF]
          refine HT.take (i := 8) (oi := _) (v := ?_) rfl (by kernel_rfl) (by kernel_rfl) (by decide) (fun _ _ _ h => h) (Or.inl ⟨by rfl, ?_⟩) hS ?_
          rotate_left
          · intro wz
            go_simp
            try with_reducible rfl
          simp only [zA, zB, zC, Act.put, zD, zE, zF]
          refine HT.take (i := 9) (oi := _) (v := ?_) rfl (by kernel_rfl) (by kernel_rfl) (by decide) (fun _ _ _ h => h) (Or.inl ⟨by rfl, ?_⟩) hS ?_
          rotate_left
          · intro wz
            go_simp
            try with_reducible rfl
          simp only [zA, zB, zC, Act.put, zD, zE, zF]
          refine HT.take (i := 10) (oi := _) (v := ?_) rfl (by kernel_rfl) (by kernel_rfl) (by decide) (fun _ _ _ h => h) (Or.inl ⟨by rfl, ?_⟩) hS ?_
          rotate_left
          · intro wz
            go_simp
            try with_reducible rfl
          simp only [zA, zB, zC, Act.put, zD, zE, zF]
          refine HT.load (i := 11) (oi := _) (v := ?_) rfl (by kernel_rfl) (by kernel_rfl) (by decide) (fun _ _ _ h => h) (by kernel_rfl) (Or.inl ⟨by rfl, ?_⟩) hS ?_
          rotate_left
          · intro wz hwz
            try dsimp only at hwz
            go_simp
            try with_reducible rfl
          simp only [zA, zB, zC, Act.put, zD, zE, zF]
          refine HT.take (i := 12) (oi := _) (v := ?_) rfl (by kernel_rfl) (by kernel_rfl) (by decide) (fun _ _ _ h => h) (Or.inl ⟨by rfl, ?_⟩) hS ?_
          rotate_left
          · intro wz
            go_simp
            try with_reducible rfl
          simp only [zA, zB, zC, Act.put, zD, zE, zF]
          refine HT.take (i := 13) (oi := _) (v := ?_) rfl (by kernel_rfl) (by kernel_rfl) (by decide) (fun _ _ _ h => h) (Or.inl ⟨by rfl, ?_⟩) hS ?_
          rotate_left
          · intro wz
            go_simp
            try with_reducible rfl
          simp only [zA, zB, zC, Act.put, zD, zE, zF]
          refine HT.take (i := 14) (oi := _) (v := ?_) rfl (by kernel_rfl) (by kernel_rfl) (by decide) (fun _ _ _ h => h) (Or.inl ⟨by rfl, ?_⟩) hS ?_
          rotate_left
          · intro wz
            go_simp
            try with_reducible rfl
          simp only [zA, zB, zC, Act.put, zD, zE, zF]
          refine HT.take (i := 15) (oi := _) (v := ?_) rfl (by kernel_rfl) (by kernel_rfl) (by decide) (fun _ _ _ h => h) (Or.inl ⟨by rfl, ?_⟩) hS ?_
          rotate_left
          · intro wz
            go_simp
            try with_reducible rfl
          simp only [zA, zB, zC, Act.put, zD, zE, zF]
          refine HT.take (i := 16) (oi := _) (v := ?_) rfl (by kernel_rfl) (by kernel_rfl) (by decide) (fun _ _ _ h => h) (Or.inl ⟨by rfl, ?_⟩) hS ?_
          rotate_left
          · intro wz
            go_simp
            try with_reducible rfl
          simp only [zA, zB, zC, Act.put, zD, zE, zF]
          refine HT.take (i := 17) (oi := _) (v := ?_) rfl (by kernel_rfl) (by kernel_rfl) (by decide) (fun _ _ _ h => h) (Or.inl ⟨by rfl, ?_⟩) hS ?_
          rotate_left
          · intro wz
            go_simp
            try with_reducible rfl
          simp only [zA, zB, zC, Act.put, zD, zE, zF]
          refine HT.done (by kernel_rfl) ?_
          clear hS
          simp only [List.drop_succ_cons, List.drop_zero]
          go_wp2_with fail
          have hset := hbr.out.set k (t / 2 ^ s % 4294967296)
          rw [show ((t / 2 ^ s % 4294967296 : Nat) : Int) = (t : Int) / 2 ^ s % 4294967296 by rw [Int.natCast_emod, Int.natCast_ediv, Int.natCast_pow]; rfl] at hset
          go_roundw
          case rel =>
            exact ⟨k + 1, _, by omega, by go_num, (by show _ = _; rw [List.length_set]; exact hrl.out), hrd.out.set (Nat.mod_lt _ (by omega)) k, Lib.hid (rem_step (by rw [hrl.out]; exact hlt) HREM.out hI.out), hbu.out.far (p := ⟨g4, k, none⟩) (by dsimp only; omega) _, hbq.out.far (p := ⟨g4, k, none⟩) (by dsimp only; omega) _, hset, (hw.out.setCell (p := ⟨g4, k, none⟩) (by dsimp only; have := Hg1.out; omega) _).drew⟩
          case measure => simp [intOf] <;> omega
        · obtain rfl : k = n' := by omega
          have HRV : Hid (valB 4294967296 R = x % y) := by
            have h1 := hI.out
            rw [List.take_of_length_le (by rw [hrl.out]; exact Nat.le_refl _)] at h1
            show _ = _
            rw [h1]
            exact Nat.mod_eq_of_lt (Nat.lt_trans (Nat.mod_lt x HY0.out) hh'.out.lt_pow)
          go_wp2_with fail
          refine (NTRIM_blk g3 (dn + 1) Q (x / y) _ hbq hql (by unfold maxLen; omega) hqd (Lib.hid HEND.out.1)).mono ?_
          rintro e8 w8 ⟨⟨m8, rfl, h1, h2⟩, rfl⟩
          have H1 := Lib.hid h1
          clear h1
          go_wp2_with fail
          refine (NTRIM_blk g4 k R (x % y) _ hbr hrl (by unfold maxLen; omega) hrd HRV).mono ?_
          rintro e7 w7 ⟨⟨m7, rfl, h3, h4⟩, rfl⟩
          have H3 := Lib.hid h3
          clear h3
          go_wp2_with fail
          go_ret2
          exact ⟨_, _, _, _, _, _, rfl, H1.out, H3.out, H1.out.len_mono (by omega) hh.out (Nat.div_le_self x y), h4, hw.out⟩
theorem NDIV_any (A A' : Option Addr) (n c x n' c' y : Nat) (hn : n ≤ 100000000) (hy0 : 0 < y) (w : World) (B : Nat) (hB : B ≤ w.heap.size) (hh : Hid (NumAt .u32 164 4294967296 w B A n c x)) (hh' : Hid (NumAt .u32 164 4294967296 w B A' n' c' y)) :
    Calls Tryz.prog 111 #[.slice A n c, .slice A' n' c'] w (OutN2 w (x / y) (x % y) n n') := by
  have fit : ∀ (k l : Nat) (e : Ending) (w' : World), OutN2 w (x / y) (x % y) k l e w' → OutN2 w (x / y) (x % y) n n' e w' := fun k l e w' ⟨A1, n1, c1, A2, n2, c2, h1, h2, h3, _, _, h4⟩ =>
    ⟨A1, n1, c1, A2, n2, c2, h1, h2, h3, h2.len_mono (by omega) hh.out (Nat.div_le_self x y), h3.len_mono (by omega) hh'.out (Nat.le_of_lt (Nat.mod_lt x hy0)), h4⟩
  by_cases h1 : x < y
  · exact (NDIV_lt A A' n c x n' c' y h1 w B hB hh hh').mono (fit _ _)
  by_cases h2 : x < 18446744073709551616
  · exact (NDIV_small A A' n c x n' c' y hy0 (by omega) h2 w B hB hh hh').mono (fit _ _)
  have hn' : 0 < n' := (hh'.out.pos_iff (by omega)).2 hy0
  by_cases h3 : n' = 1
  · subst h3
    exact (NDIV_word A A' n c x c' y (by omega) (by omega) (by omega) w B hB hh hh').mono (fit _ _)
  · exact NDIV_long A A' n c x n' c' y hn (by omega) (by omega) (by omega) w B hB hh hh'
end Go.Proofs.YtkmcohnhanphdaaGreatDoor
/- num: gcd. -/
namespace Go.Proofs.YtkmcohnhanphdaaGreatDoor
open Go.RowKit Go.Dw
theorem gcd_step (x y : Nat) : Nat.gcd x y = Nat.gcd y (x % y) := by
  rw [Nat.gcd_comm x y, Nat.gcd_rec y x, Nat.gcd_comm]
theorem NSMALL_below (A : Option Addr) (n c x : Nat) (w : World) (B : Nat) (hh : Hid (NumAt .u32 164 4294967296 w B A n c x)) :
    Calls Tryz.prog 117 #[.slice A n c] w fun e w' => e = .returned (.tuple #[.int .u64 (smallN x).1, .bool (smallN x).2]) ∧ Below w.heap.size w w' :=
  (NSMALL_any A n c x w B hh).mono fun e w' ⟨h1, q, h2⟩ => ⟨h1, by rw [h2]; exact belowN (Below.refl _ _) q⟩
set_option maxRecDepth 100000 in
set_option maxHeartbeats 2000000 in
theorem GCD_any (A A' : Option Addr) (n c x n' c' y : Nat) (hn : n ≤ 100000000) (hn' : n' ≤ 100000000) (w : World) (B : Nat) (hB : B ≤ w.heap.size) (hh : Hid (NumAt .u32 164 4294967296 w B A n c x)) (hh' : Hid (NumAt .u32 164 4294967296 w B A' n' c' y)) :
    Calls Tryz.prog 110 #[.slice A n c, .slice A' n' c'] w fun e w' => ∃ A2 n2 c2, e = .returned (.slice A2 n2 c2) ∧ NumAt .u32 164 4294967296 w' w'.heap.size A2 n2 c2 (Nat.gcd x y) ∧ Below w.heap.size w w' := by
  obtain ⟨G, hG⟩ : ∃ G, Nat.gcd x y = G := ⟨_, rfl⟩
  have HG := Lib.hid hG
  rw [hG]
  clear hG
  go_enter Tryz.func110, Tryz.ntmps110
  go_wp2_with fail
  go_loopg [0, 1] y (fun k s0 s1 wr => ∃ (A : Option Addr) (n c x : Nat) (A' : Option Addr) (n' c' : Nat), s0 = .slice A n c ∧ s1 = .slice A' n' c' ∧ n ≤ 100000000 ∧ n' ≤ 100000000 ∧ Hid (Nat.gcd x k = G) ∧ Hid (NumAt .u32 164 4294967296 wr wr.heap.size A n c x) ∧ Hid (NumAt .u32 164 4294967296 wr wr.heap.size A' n' c' k) ∧ Hid (Below w.heap.size w wr))
  case atStart => exact ⟨A, n, c, x, A', n', c', rfl, rfl, hn, hn', HG, hh.out.mono hB, hh'.out.mono hB, Below.refl _ _⟩
  case round =>
    clear hh hh' HG hn hn'
    obtain ⟨A, n, c, x, A', n', c', rfl, rfl, hn, hn', HG, hh, hh', hw⟩ := hrel
    have hc' := hh'.out.1
    have hc2' := hh'.out.2.1
    unfold maxLen at hc2'
    by_cases hy : 0 < gk
    · have hn0 : 0 < n' := (hh'.out.pos_iff (by omega)).2 hy
      by_cases hs : x < 18446744073709551616 ∧ gk < 18446744073709551616
      · obtain ⟨hx9, hy9⟩ := hs
        go_wp2_with fail
        refine (NSMALL_yes A n c x hx9 _ _ hh).mono ?_
        rintro e w1 ⟨rfl, hb1⟩
        have HB1 := Lib.hid hb1
        clear hb1
        have HX9 := Lib.hid hx9
        clear hx9
        go_wp2_with fail
        refine (NSMALL_yes A' n' c' gk hy9 _ _ (Lib.hid (hh'.out.below HB1.out (Nat.le_refl _)))).mono ?_
        rintro e w2 ⟨rfl, hb2⟩
        have HB2 := Lib.hid (hw.out.trans ((HB1.out.trans (hb2.mono HB1.out.size)).mono hw.out.size))
        have HY9 := Lib.hid hy9
        clear hb2 hy9
        go_wp2_with fail
        go_loopw [5, 7] (fun a b wr => ∃ p q : Nat, a = .int .u64 p ∧ b = .int .u64 q ∧ p < 18446744073709551616 ∧ q < 18446744073709551616 ∧ Hid (Nat.gcd p q = G) ∧ Hid (Below w.heap.size w wr)) (fun _ b _ => (intOf b).toNat)
        case atStart => exact ⟨x, gk, rfl, rfl, HX9.out, HY9.out, HG, HB2⟩
        case round =>
          obtain ⟨p, q, rfl, rfl, hp, hq, hg, hw2⟩ := hrel
          by_cases hq0 : 0 < q
          · obtain ⟨r, hr⟩ : ∃ r, p % q = r := ⟨_, rfl⟩
            have hri : (p : Int).tmod (q : Int) = (r : Int) := by rw [← hr]; exact rfl
            have hre : (p : Int) % (q : Int) = (r : Int) := by rw [← hr]; exact (Int.natCast_emod p q).symm
            have hrq : r < q := by rw [← hr]; exact Nat.mod_lt _ hq0
            have hrw : IntKind.u64.wrap (r : Int) = (r : Int) := IntWalk.u64_in _ (by omega)
            have hqn : ¬ q = 0 := by omega
            have hgn : Hid (Nat.gcd q r = G) := by show _ = _; rw [← hr, ← gcd_step]; exact hg.out
            clear hr
            go_wp2_with fail
            go_quiet (fail)
            go_wp2_with fail
            go_roundw
            case rel => exact ⟨q, r, rfl, rfl, hq, by omega, hgn, belowN hw2.out _⟩
            case measure => simp [intOf] <;> omega
          · obtain rfl : q = 0 := by omega
            have hpg : Hid (p = G) := by have := hg.out; rw [Nat.gcd_zero_right] at this; exact this
            go_wp2_with fail
            refine (NATOF_any p hp _).mono ?_
            rintro e w3 ⟨A3, n3, c3, rfl, h3, k3, hb3⟩
            have H3 := Lib.hid h3
            have HB3 := Lib.hid (hw2.out.trans (hb3.mono hw2.out.size))
            clear h3 hb3
            go_wp2_with fail
            go_ret
            exact ⟨_, _, _, rfl, by rw [← hpg.out]; exact H3.out, HB3.out⟩
      · have HGN : Hid (Nat.gcd gk (x % gk) = G) := by show _ = _; rw [← gcd_step]; exact HG.out
        have HLT := Lib.hid (Nat.mod_lt x hy)
        by_cases hx9 : x < 18446744073709551616
        · have hy9 : 18446744073709551616 ≤ gk := by omega
          clear hs
          go_wp2_with fail
          refine (NSMALL_yes A n c x hx9 _ _ hh).mono ?_
          rintro e w1 ⟨rfl, hb1⟩
          have HB1 := Lib.hid hb1
          clear hb1 hx9
          go_wp2_with fail
          refine (NSMALL_no A' n' c' gk hy9 _ _ (Lib.hid (hh'.out.below HB1.out (Nat.le_refl _)))).mono ?_
          rintro e w2 ⟨rfl, hb2⟩
          have HB2 := Lib.hid (HB1.out.trans (hb2.mono HB1.out.size))
          clear hb2
          go_wp2_with fail
          refine (NDIV_any A A' n c x n' c' gk hn hy _ wr.heap.size HB2.out.size (Lib.hid (hh.out.below HB2.out (Nat.le_refl _))) (Lib.hid (hh'.out.below HB2.out (Nat.le_refl _)))).mono ?_
          rintro e w3 ⟨A1, n1, c1, A2, n2, c2, rfl, h1, h2, k1, k2, hb3⟩
          have H2 := Lib.hid h2
          have HB3 := Lib.hid (HB2.out.trans (hb3.mono HB2.out.size))
          clear h1 h2 hb3
          go_wp2_with fail
          go_roundg (x % gk)
          case measure => exact HLT.out
          case rel => exact ⟨_, _, _, gk, _, _, _, rfl, rfl, hn', Nat.le_trans k2 hn', HGN, hh'.out.to HB3.out (Nat.le_refl _) HB3.out.size, H2, hw.out.trans (HB3.out.mono hw.out.size)⟩
        · have hx8 : 18446744073709551616 ≤ x := by omega
          clear hs hx9
          go_wp2_with fail
          refine (NSMALL_no A n c x hx8 _ _ hh).mono ?_
          rintro e w1 ⟨rfl, hb1⟩
          have HB1 := Lib.hid hb1
          clear hb1 hx8
          obtain ⟨z, hz⟩ : ∃ z, smallN gk = z := ⟨_, rfl⟩
          have HZ := Lib.hid hz
          clear hz
          go_wp2_with fail
          refine (NSMALL_below A' n' c' gk _ _ (Lib.hid (hh'.out.below HB1.out (Nat.le_refl _)))).mono ?_
          rintro e w2 ⟨rfl, hb2⟩
          rw [HZ.out]
          obtain ⟨z1, z2⟩ := z
          dsimp only
          have HB2 := Lib.hid (HB1.out.trans (hb2.mono HB1.out.size))
          clear hb2
          go_wp2_with fail
          refine (NDIV_any A A' n c x n' c' gk hn hy _ wr.heap.size HB2.out.size (Lib.hid (hh.out.below HB2.out (Nat.le_refl _))) (Lib.hid (hh'.out.below HB2.out (Nat.le_refl _)))).mono ?_
          rintro e w3 ⟨A1, n1, c1, A2, n2, c2, rfl, h1, h2, k1, k2, hb3⟩
          have H2 := Lib.hid h2
          have HB3 := Lib.hid (HB2.out.trans (hb3.mono HB2.out.size))
          clear h1 h2 hb3
          go_wp2_with fail
          go_roundg (x % gk)
          case measure => exact HLT.out
          case rel => exact ⟨_, _, _, gk, _, _, _, rfl, rfl, hn', Nat.le_trans k2 hn', HGN, hh'.out.to HB3.out (Nat.le_refl _) HB3.out.size, H2, hw.out.trans (HB3.out.mono hw.out.size)⟩
    · obtain rfl : gk = 0 := by omega
      have hpg : Hid (x = G) := by have := HG.out; rw [Nat.gcd_zero_right] at this; exact this
      have hn0 : n' = 0 := by
        refine Nat.eq_zero_of_not_pos fun h => ?_
        have := (hh'.out.pos_iff (by omega)).1 h
        omega
      subst hn0
      go_wp2_with fail
      go_ret
      exact ⟨_, _, _, rfl, by rw [← hpg.out]; exact hh.out, hw.out⟩
end Go.Proofs.YtkmcohnhanphdaaGreatDoor
