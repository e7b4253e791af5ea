/- The document's Round; Convert. -/
import Derived.Test.YtcjdmffflepplaaGreatDoorRn
import Derived.Test.YtcjdmffflepplaaGreatDoorRm
import Derived.Test.YtcjdmffflepplaaGreatDoorRj
set_option linter.unusedSimpArgs false
set_option linter.unusedVariables false
namespace Go.Proofs.YtcjdmffflepplaaGreatDoor
open Go.RowKit Go.Dw Go.Joins
theorem parse_all : ∀ (l : List UInt8) (a : Nat), AllDig l → 10 ^ l.length * a + decV l < 18446744073709551616 → Lib.parseUint10 a l = .ok (10 ^ l.length * a + decV l)
  | [], a, _, _ => by simp [Lib.parseUint10, decV]
  | c :: l, a, h, hv => by
    have hc := h c (by simp)
    have e : 10 ^ (c :: l).length * a + decV (c :: l) = 10 ^ l.length * (a * 10 + (c.toNat - 48)) + decV l := by
      have h1 := decV_append [c] l
      rw [List.singleton_append] at h1
      have h2 : decV [c] = c.toNat - 48 := by simp [decV]
      rw [h1, h2, List.length_cons, Nat.pow_succ, Nat.mul_add, Nat.mul_assoc, Nat.mul_comm 10 a, Nat.add_assoc]
    rw [e] at hv ⊢
    have hp : 1 ≤ 10 ^ l.length := Nat.pow_pos (by omega)
    have h3 := Nat.mul_le_mul_right (a * 10 + (c.toNat - 48)) hp
    unfold Lib.parseUint10
    rw [if_pos hc, if_neg (by omega), if_neg (by omega)]
    exact parse_all l _ (fun x hx => h x (by simp [hx])) hv
theorem atoiAll_all {l : List UInt8} (h : AllDig l) (h0 : l ≠ []) (hv : decV l < 9223372036854775808) : Lib.atoiAll l = .ok (decV l : Int) := by
  cases l with
  | nil => exact absurd rfl h0
  | cons c r =>
    have hc := h c (by simp)
    unfold Lib.atoiAll
    dsimp only
    rw [if_neg (by omega)]
    unfold Lib.parseMag
    rw [if_neg (by simp), parse_all _ 0 h (by omega)]
    dsimp only
    rw [if_neg (by omega), if_neg (by omega), if_neg (by omega)]
    simp
theorem ATOI2_any (s : ByteArray) (hs : s.size ≤ 1000000) (h0 : 0 < s.size) (hd : Hid (AllDig s.data.toList)) (hv : decV s.data.toList < 9223372036854775808) (w : World) : Calls Tryz.prog 77 #[.string s] w fun e w' => e = .returned (.tuple #[.int .i64 (decV s.data.toList), .nilIface]) ∧ Below w.heap.size w w' :=
  (Tryz.strconv_Atoi_ok s (by omega) _ (atoiAll_all hd.out (by intro e; have := len_data s; rw [e] at this; simp at this; omega) hv) w).mono fun e w' ⟨h1, h2⟩ => ⟨h1, by
    rcases h2 with h2 | ⟨t, h2⟩
    · rw [h2]; exact Below.refl _ _
    · rw [h2]; exact below_bytesWorld _ _ _ _ (Nat.le_refl _)⟩
/-- the document's Round -/
def rndR (q : Rat) (way : Int) (most : Nat) : Int × Bool := if (roundQ q way).natAbs ≤ most then (roundQ q way, true) else (0, false)
set_option maxRecDepth 100000 in
set_option maxHeartbeats 2000000 in
theorem RROUND_any (neg : Bool) (A D : Option Addr) (n c m d : Nat) (q : Rat) (way : Int) (most : Nat) (hmost : most ≤ 4611686018427387904) (hw : okWay way = true) (hn : n ≤ 100000) (hm : m ≤ 100000) (w : World) (ht : Hid (TabAt w)) (B : Nat) (hB : B ≤ w.heap.size) (hh : Hid (NumR w B neg A n c D m d q)) :
    Calls Tryz.prog 34 #[.agg #[.bool neg, .slice A n c, .slice D m d], .int .i64 way, .int .i64 most] w fun e w' => e = .returned (.tuple #[.int .i64 (rndR q way most).1, .bool (rndR q way most).2]) ∧ Below w.heap.size w w' := by
  obtain ⟨W, gx, hW, hgx, HHW, HBW, HSW⟩ := rcell_new w 55 #[.bool neg, .slice A n c, .slice D m d]
  have HGX := Lib.hid hgx
  obtain ⟨x0, x1, x2, _, _, _⟩ := three_cells HHW.out
  have hgw := blk_lt HHW.out
  have HRW := Lib.hid (hh.out.to HBW.out hB (by have := HSW.out; omega))
  have HNEG := Lib.hid hh.out.1
  have HW := Lib.hid hw
  have HAR := Lib.hid (abs_round q way hw)
  have HSG := Lib.hid (round_sign q way hw)
  clear hh hw
  obtain ⟨s, hs⟩ : ∃ s : ByteArray, s = ⟨(Lib.decDigits most).toArray⟩ := ⟨_, rfl⟩
  have HSD : Hid (AllDig s.data.toList) := by show AllDig _; rw [hs]; exact allDig_decDigits most
  have HSV : Hid (decV s.data.toList = most) := by show _ = _; rw [hs]; exact decV_decDigits most
  have hsz : s.size ≤ 20 := by rw [← len_data, hs]; exact dec_len 20 most (by omega) (by omega)
  go_enter Tryz.func34, Tryz.ntmps34
  go_upto_region 1 with (fail)
  rw [← hW, ← hgx]
  clear hW hgx HSW
  go_wp2_with fail
  refine (RROUNDU_any neg A D n c m d q way HW.out (by omega) (by omega) _ W.heap.size (Nat.le_refl _) HRW).mono ?_
  rintro e w1 ⟨A1, n1, c1, rfl, h1, k1, hb1⟩
  rw [← HAR.out] at h1
  obtain ⟨z, hz⟩ : ∃ z, roundQ q way = z := ⟨_, rfl⟩
  have HRV : Hid (rndR q way most = if z.natAbs ≤ most then (z, true) else (0, false)) := by show _ = _; unfold rndR; rw [hz]
  rw [hz] at h1 HSG
  have H1 := Lib.hid h1
  have HB1 := Lib.hid hb1
  obtain ⟨x0, x1, x2⟩ := three_keep (And.intro x0 (And.intro x1 x2)) hb1 (by dsimp only; omega) (by dsimp only; omega) (by dsimp only; omega)
  have HHX := Lib.hid ((hb1.block gx hgw).trans HHW.out)
  have hgw := Nat.lt_of_lt_of_le hgw hb1.size
  have HT1 := Lib.hid (ht.out.below (HBW.out.trans (hb1.mono HBW.out.size)))
  clear h1 hb1 hz HAR HHW x0 x1 x2 ht
  obtain ⟨kc, hkc⟩ : ∃ kc, cmpN z.natAbs most = kc := ⟨_, rfl⟩
  have HKC := Lib.hid hkc
  clear hkc
  go_wp2_with fail
  refine (ITOA_any most (by omega) _ HT1).mono ?_
  rintro e w2 ⟨rfl, hb2⟩
  have HB2 := Lib.hid hb2
  rw [← hs]
  clear hb2 hs
  go_wp2_with fail
  refine (RLIMBS_any s HSD (by omega) _).mono ?_
  rintro e w3 ⟨A3, n3, c3, rfl, h3, k3, hb3⟩
  rw [HSV.out] at h3
  have H3 := Lib.hid h3
  have HB3 := Lib.hid (HB2.out.trans (hb3.mono HB2.out.size))
  clear h3 hb3
  go_wp2_with fail
  refine (RCMP_any A1 A3 n1 c1 _ n3 c3 _ _ w3.heap.size (Lib.hid (H1.out.to HB3.out (Nat.le_refl _) HB3.out.size)) H3).mono ?_
  rintro e w4 ⟨rfl, hb4⟩
  rw [HKC.out]
  have HB4 := Lib.hid (HB3.out.trans (hb4.mono HB3.out.size))
  have HBA := Lib.hid (HBW.out.trans ((HB1.out.trans (HB4.out.mono HB1.out.size)).mono HBW.out.size))
  clear hb4
  by_cases hle : z.natAbs ≤ most
  · have hk9 : kc ≤ 0 := by
      rw [← HKC.out]; unfold cmpN
      split
      · omega
      · rw [if_pos (by omega)]; omega
    have HV : Hid (rndR q way most = (z, true)) := by show _ = _; rw [HRV.out, if_pos hle]
    obtain ⟨u, hu⟩ : ∃ u, z.natAbs = u := ⟨_, rfl⟩
    rw [hu] at hle H1 HSG
    obtain ⟨t, ht⟩ : ∃ s : ByteArray, s = ⟨(Lib.decDigits u).toArray⟩ := ⟨_, rfl⟩
    have HTD : Hid (AllDig t.data.toList) := by show AllDig _; rw [ht]; exact allDig_decDigits u
    have HTV : Hid (decV t.data.toList = u) := by show _ = _; rw [ht]; exact decV_decDigits u
    have htz : t.size ≤ 20 := by rw [← len_data, ht]; exact dec_len 20 u (by omega) (by omega)
    have htp : 0 < t.size := by rw [← len_data, ht]; exact decDigits_pos u
    have hu9 : u ≤ 4611686018427387904 := by omega
    clear hle hu
    go_wp2_with fail
    refine (RDIGITS_any A1 n1 c1 u (by omega) _ w4.heap.size (Nat.le_refl _) (Lib.hid (HT1.out.below HB4.out)) (Lib.hid (H1.out.to HB4.out (Nat.le_refl _) HB4.out.size))).mono ?_
    rintro e w5 ⟨rfl, hb5⟩
    have HB5 := Lib.hid (HB4.out.trans (hb5.mono HB4.out.size))
    rw [← ht]
    clear hb5 ht
    go_wp2_with fail
    refine (ATOI2_any t (by omega) htp HTD (by rw [HTV.out]; omega) _).mono ?_
    rintro e w6 ⟨rfl, hb6⟩
    rw [HTV.out]
    have HB6 := Lib.hid (HB5.out.trans (hb6.mono HB5.out.size))
    have HBB := Lib.hid (HBW.out.trans ((HB1.out.trans (HB6.out.mono HB1.out.size)).mono HBW.out.size))
    obtain ⟨x0, x1, x2, _, _, _⟩ := three_cells ((HB6.out.block gx hgw).trans HHX.out)
    clear hb6
    cases neg with
    | true =>
      have HZ : Hid (z = -(u : Int)) := by have := HSG.out; rw [← HNEG.out] at this; exact this
      go_wp2_with fail
      go_ret2
      exact ⟨by rw [HV.out, HZ.out]; rfl, HBB.out⟩
    | false =>
      have HZ : Hid (z = (u : Int)) := by have := HSG.out; rw [← HNEG.out] at this; exact this
      go_wp2_with fail
      go_ret2
      exact ⟨by rw [HV.out, HZ.out]; rfl, HBB.out⟩
  · have hk9 : 0 < kc := by
      rw [← HKC.out]; unfold cmpN
      rw [if_neg (by omega), if_neg (by omega)]; omega
    have HV : Hid (rndR q way most = (0, false)) := by show _ = _; rw [HRV.out, if_neg hle]
    clear hle
    go_wp2_with fail
    go_ret2
    exact ⟨by rw [HV.out]; rfl, HBA.out⟩
end Go.Proofs.YtcjdmffflepplaaGreatDoor
