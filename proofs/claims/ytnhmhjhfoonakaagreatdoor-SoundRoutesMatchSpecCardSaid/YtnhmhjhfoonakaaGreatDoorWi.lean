/- together: ratios with one denominator. -/
import Derived.Test.YtnhmhjhfoonakaaGreatDoorWh
import Derived.Test.YtnhmhjhfoonakaaGreatDoorYm
import Derived.Test.YtnhmhjhfoonakaaGreatDoorYe
import Derived.Test.YtnhmhjhfoonakaaGreatDoorWc
import Derived.Test.YtnhmhjhfoonakaaGreatDoorWd
import Derived.Test.YtnhmhjhfoonakaaGreatDoorWa
import Derived.Test.YtnhmhjhfoonakaaGreatDoorGar
set_option linter.unusedSimpArgs false
set_option linter.unusedVariables false
namespace Go.Proofs.YtnhmhjhfoonakaaGreatDoor
open Go.RowKit Go.Dw
attribute [local go_sem ↓] Go.wp_at_zero Go.wp_at_succ
theorem over_den2 (D d : Nat) (hd : 0 < d) : D * (mkRat (D : Int) d).den = Nat.lcm D d := by
  rw [(mkRat_fields (D : Int) d hd).2, show ((D : Int)).natAbs = D by simp]
  unfold Nat.lcm
  rw [Nat.mul_div_assoc _ (Nat.gcd_dvd_right D d)]
theorem nat_int {w : World} {B : Nat} {A : Option Addr} {n c x : Nat} (h : NumAt .u32 110 4294967296 w B A n c x) : IntAt w B false A n c (x : Int) := ⟨(decide_eq_false (by omega)).symm, by rw [Int.natAbs_natCast]; exact h⟩
set_option maxRecDepth 100000 in
set_option maxHeartbeats 4000000 in
theorem TOGETHER_any (A : Option Addr) (n c : Nat) (l : List Rx) (hn : n ≤ 16) (hok : Hid (∀ x ∈ l, chkQ x.1 x.2 = 0)) (w : World) (B : Nat) (hB : B ≤ w.heap.size) (hh : Hid (RatsAt w B A n l)) :
    Calls Tryz.prog 30 #[.slice A n c] w fun e w' => ∃ v Ad nd cd zc, e = .returned (.tuple #[v, .slice Ad nd cd]) ∧ OwnZ w' w.heap.size v n 40000 (wholeZ l (denK l n)) zc ∧ NumAt .u32 110 4294967296 w' w'.heap.size Ad nd cd (denK l n) ∧ nd ≤ 33000 ∧ Below w.heap.size w w' := by
  have HL := Lib.hid hh.out.1
  have HOK := hok
  go_enter Tryz.func30, Tryz.ntmps30
  go_wp2_with fail
  refine (NONE_any _).mono ?_
  rintro e w1 ⟨A1, n1, c1, rfl, h1, k1, hb1⟩
  have HD1 := Lib.hid h1
  have HB1 := Lib.hid hb1
  clear h1 hb1
  go_wp2_with fail
  go_loopw [4, 18] (fun d i wr => ∃ k : Nat, k ≤ n ∧ i = .int .i64 k ∧ ∃ Ad nd cd, d = .slice Ad nd cd ∧ nd ≤ 1 + 2000 * k ∧ Hid (NumAt .u32 110 4294967296 wr wr.heap.size Ad nd cd (denK l k)) ∧ Hid (Below w.heap.size w wr)) (fun _ i _ => n - (intOf i).toNat)
  case atStart => exact ⟨0, Nat.zero_le _, rfl, A1, n1, c1, rfl, by omega, HD1.out, HB1.out⟩
  case round =>
    obtain ⟨k, hk, rfl, Ad, nd, cd, rfl, hnd, HD, HS⟩ := hrel
    by_cases hlt : k < n
    ·
      obtain ⟨b, o, hA, hbB, hc0, hc1, hz0, hz1⟩ := (hh.out.below HS.out hB).2 k hlt
      have HRT := Lib.hid (HOK.out _ (rx_mem (l := l) (k := k) (by rw [HL.out]; exact hlt)))
      obtain ⟨⟨s, t⟩, hst⟩ : ∃ p, rxOf l k = p := ⟨_, rfl⟩
      rw [hst] at hc0 hc1 hz0 hz1 HRT
      dsimp only at hc0 hc1 hz0 hz1 HRT
      obtain ⟨q, hq⟩ : ∃ q, valQ s t = q := ⟨_, rfl⟩
      have HRq : Hid (Rt s t q) := by show Rt _ _ _; rw [← hq]; exact Rt.of HRT.out
      have HVQ : Hid (valQ (rxOf l k).1 (rxOf l k).2 = q) := by show _ = _; rw [hst]; exact hq
      have hk0 : (0 : Int) ≤ (k : Int) := by omega
      have hkn : (k : Int) < (n : Int) := by omega
      clear hst hq HRT
      subst hA
      go_upto_region 5 with (fail)
      obtain ⟨W5, g5, hX, hg, HG5, HB5, _⟩ := cell_new wr 26 #[.string s, .string t]
      rw [← hX, ← hg]
      obtain ⟨p0, p1, _, _⟩ := two_cells HG5.out
      replace HD := Lib.hid (HD.out.to HB5.out (Nat.le_refl _) HB5.out.size)
      replace HS := Lib.hid (HS.out.trans (HB5.out.mono HS.out.size))
      clear hX hg hc0 hc1 HB5
      go_wp2_with fail
      refine (FROM_ok HRq.out _).mono ?_
      rintro e w6 ⟨ng6, A6, n6, c6, D6, m6, d6, rfl, h6, k6, l6, hb⟩
      have H6 := Lib.hid h6
      replace HD := Lib.hid (HD.out.to hb (Nat.le_refl _) hb.size)
      replace HS := Lib.hid (HS.out.trans (hb.mono HS.out.size))
      clear p0 p1 h6 hb
      go_upto_region 6 with (fail)
      obtain ⟨W7, g7, hX, hg, HG7, HB7, _⟩ := cell_new w6 48 #[.bool ng6, .slice A6 n6 c6, .slice D6 m6 d6]
      rw [← hX, ← hg]
      obtain ⟨p0, p1, p2, _, _, _⟩ := three_cells HG7.out
      replace HD := Lib.hid (HD.out.to HB7.out (Nat.le_refl _) HB7.out.size)
      have HE := Lib.hid (H6.out.2.to HB7.out (Nat.le_refl _) HB7.out.size)
      replace HS := Lib.hid (HS.out.trans (HB7.out.mono HS.out.size))
      clear hX hg HB7 H6
      have hqd := q.den_pos
      go_wp2_with fail
      refine (QOVER_any false Ad D6 nd cd m6 d6 q.den ((denK l k : Nat) : Int) (by omega) (by omega) hqd _ W7.heap.size (Nat.le_refl _) (nat_int HD.out) HE).mono ?_
      rintro e w8 ⟨ng8, A8, n8, c8, D8, m8, d8, rfl, h8, k8, l8, hb⟩
      have H8 := Lib.hid h8.2
      replace HD := Lib.hid (HD.out.to hb (Nat.le_refl _) hb.size)
      replace HS := Lib.hid (HS.out.trans (hb.mono HS.out.size))
      clear p0 p1 p2 h8 hb HE
      go_upto_region 7 with (fail)
      obtain ⟨W9, g9, hX, hg, HG9, HB9, _⟩ := cell_new w8 48 #[.bool ng8, .slice A8 n8 c8, .slice D8 m8 d8]
      rw [← hX, ← hg]
      obtain ⟨p0, p1, p2, _, _, _⟩ := three_cells HG9.out
      replace HD := Lib.hid (HD.out.to HB9.out (Nat.le_refl _) HB9.out.size)
      replace H8 := Lib.hid (H8.out.to HB9.out (Nat.le_refl _) HB9.out.size)
      replace HS := Lib.hid (HS.out.trans (HB9.out.mono HS.out.size))
      clear hX hg HB9
      go_wp2_with fail
      refine (NMUL_any Ad D8 nd cd (denK l k) m8 d8 _ (by omega) (by omega) _ W9.heap.size (Nat.le_refl _) HD H8).mono ?_
      rintro e w10 ⟨A10, n10, c10, rfl, h10, k10, hb⟩
      have h11 : NumAt .u32 110 4294967296 w10 w10.heap.size A10 n10 c10 (denK l (k + 1)) := by
        rw [over_den2 _ _ hqd] at h10
        show NumAt _ _ _ _ _ _ _ _ (Nat.lcm (denK l k) (valQ (rxOf l k).1 (rxOf l k).2).den)
        rw [HVQ.out]; exact h10
      have H11 := Lib.hid h11
      replace HS := Lib.hid (HS.out.trans (hb.mono HS.out.size))
      clear h10 h11 hb p0 p1 p2 hqd
      go_wp2_with fail
      go_roundw
      case rel => exact ⟨k + 1, by omega, by go_num, A10, n10, c10, rfl, by omega, H11.out, HS.out⟩
      case measure => simp [intOf]; omega
    · obtain rfl : n = k := by omega
      have HD9 := Lib.hid HD.out
      have HS9 := Lib.hid HS.out
      clear HD HS HD1 HB1
      go_wp2_with fail
      go_loopw [9, 36] (fun d i wr => ∃ k : Nat, k ≤ n ∧ i = .int .i64 k ∧ ∃ zc, Hid (OwnZ wr w.heap.size d k 40000 (wholeZ l (denK l n)) zc) ∧ Hid (NumAt .u32 110 4294967296 wr wr.heap.size Ad nd cd (denK l n)) ∧ Hid (Below w.heap.size w wr)) (fun _ i _ => n - (intOf i).toNat)
      case atStart => exact ⟨0, Nat.zero_le _, rfl, [], OwnZ.nil _ _ _ _, HD9.out, HS9.out⟩
      case round =>
        clear HD9 HS9
        obtain ⟨k, hk, rfl, zc, HO, HD, HS⟩ := hrel
        obtain ⟨A9, c9, rfl, hc9, _⟩ := HO.out.form
        by_cases hlt : k < n
        ·
          obtain ⟨b, o, hA, hbB, hc0, hc1, hz0, hz1⟩ := (hh.out.below HS.out hB).2 k hlt
          have HRT := Lib.hid (HOK.out _ (rx_mem (l := l) (k := k) (by rw [HL.out]; exact hlt)))
          obtain ⟨⟨s, t⟩, hst⟩ : ∃ p, rxOf l k = p := ⟨_, rfl⟩
          rw [hst] at hc0 hc1 hz0 hz1 HRT
          dsimp only at hc0 hc1 hz0 hz1 HRT
          obtain ⟨q, hq⟩ : ∃ q, valQ s t = q := ⟨_, rfl⟩
          have HRq : Hid (Rt s t q) := by show Rt _ _ _; rw [← hq]; exact Rt.of HRT.out
          have HVQ : Hid (valQ (rxOf l k).1 (rxOf l k).2 = q) := by show _ = _; rw [hst]; exact hq
          have hk0 : (0 : Int) ≤ (k : Int) := by omega
          have hkn : (k : Int) < (n : Int) := by omega
          clear hst hq HRT
          subst hA
          have HVW : Hid (wholeZ l (denK l n) k = q.num * ((denK l n / q.den : Nat) : Int)) := by
            show (valQ (rxOf l k).1 (rxOf l k).2).num * ((denK l n / (valQ (rxOf l k).1 (rxOf l k).2).den : Nat) : Int) = _
            rw [HVQ.out]
          clear HVQ
          go_upto_region 13 with (fail)
          obtain ⟨W5, g5, hX, hg, HG5, HB5, _⟩ := cell_new wr 26 #[.string s, .string t]
          rw [← hX, ← hg]
          obtain ⟨p0, p1, _, _⟩ := two_cells HG5.out
          replace HO := Lib.hid (HO.out.below HB5.out)
          replace HD := Lib.hid (HD.out.to HB5.out (Nat.le_refl _) HB5.out.size)
          replace HS := Lib.hid (HS.out.trans (HB5.out.mono HS.out.size))
          clear hX hg hc0 hc1 HB5
          go_wp2_with fail
          refine (FROM_ok HRq.out _).mono ?_
          rintro e w6 ⟨ng6, A6, n6, c6, D6, m6, d6, rfl, h6, k6, l6, hb⟩
          have H6 := Lib.hid h6
          replace HO := Lib.hid (HO.out.below hb)
          replace HD := Lib.hid (HD.out.to hb (Nat.le_refl _) hb.size)
          replace HS := Lib.hid (HS.out.trans (hb.mono HS.out.size))
          clear p0 p1 h6 hb
          go_upto_region 14 with (fail)
          obtain ⟨W7, g7, hX, hg, HG7, HB7, _⟩ := cell_new w6 48 #[.bool ng6, .slice A6 n6 c6, .slice D6 m6 d6]
          rw [← hX, ← hg]
          obtain ⟨p0, p1, p2, _, _, _⟩ := three_cells HG7.out
          replace HO := Lib.hid (HO.out.below HB7.out)
          replace HD := Lib.hid (HD.out.to HB7.out (Nat.le_refl _) HB7.out.size)
          have HE := Lib.hid (H6.out.2.to HB7.out (Nat.le_refl _) HB7.out.size)
          have HZ := Lib.hid (H6.out.1.to HB7.out (Nat.le_refl _) HB7.out.size)
          replace HS := Lib.hid (HS.out.trans (HB7.out.mono HS.out.size))
          clear hX hg H6
          have hqd := q.den_pos
          go_wp2_with fail
          refine (NDIV_any Ad D6 nd cd (denK l n) m6 d6 q.den (by omega) hqd _ W7.heap.size (Nat.le_refl _) HD HE).mono ?_
          rintro e w8 ⟨A8, n8, c8, D8, m8, d8, rfl, h8, _, k8, _, hb⟩
          have H8 := Lib.hid (nat_int h8)
          replace HZ := Lib.hid (HZ.out.to hb (Nat.le_refl _) hb.size)
          replace HO := Lib.hid (HO.out.below hb)
          replace HD := Lib.hid (HD.out.to hb (Nat.le_refl _) hb.size)
          replace HS := Lib.hid (HS.out.trans (hb.mono HS.out.size))
          replace HG7 := Lib.hid ((hb.block g7 (Array.getElem?_eq_some_iff.1 HG7.out).1).trans HG7.out)
          clear p0 p1 p2 h8 HE hb
          obtain ⟨p0, p1, p2, _, _, _⟩ := three_cells HG7.out
          go_upto_region 15 with (fail)
          go_wp2_with fail
          refine (IMUL_any ng6 false A6 A8 n6 c6 n8 c8 q.num ((denK l n / q.den : Nat) : Int) (by omega) (by omega) _ w8.heap.size (Nat.le_refl _) HZ H8).mono ?_
          rintro e w10 ⟨ng10, A10, n10, c10, rfl, h10, k10, hb⟩
          have H10 : Hid (IntAt w10 w10.heap.size ng10 A10 n10 c10 (wholeZ l (denK l n) k)) := by
            show IntAt _ _ _ _ _ _ _
            rw [HVW.out]; exact h10
          replace HO := Lib.hid (HO.out.below hb)
          replace HD := Lib.hid (HD.out.to hb (Nat.le_refl _) hb.size)
          replace HS := Lib.hid (HS.out.trans (hb.mono HS.out.size))
          clear h10 hb p0 p1 p2 HZ H8 HB7 HG7
          have hn10 : n10 ≤ 40000 := by omega
          have hkm : k ≤ 1000000 := by omega
          have hsz : w.heap.size ≤ w10.heap.size := HS.out.size
          go_wp2_with (with_reducible refine wpList_push_z rfl (.tmp 49) (.tmp 55) rfl w.heap.size A9 k c9 40000 _ zc ng10 A10 n10 c10 w10.heap.size rfl rfl rfl HO.out H10.out hn10 hkm hsz ?_; intro g11 c11 w11 ho11 hb11 hc11; have HO11 := Lib.hid ho11; have HD11 := Lib.hid (hc11 _ _ _ _ HD.out); have HS11 := Lib.hid (HS.out.trans hb11); clear ho11 hb11 hc11)
          go_roundw
          case rel => exact ⟨k + 1, by omega, by go_num, _, HO11.out, HD11.out, HS11.out⟩
          case measure => simp [intOf]; omega
        · obtain rfl : n = k := by omega
          go_wp2_with fail
          go_ret2
          exact ⟨_, Ad, nd, cd, zc, rfl, HO.out, HD.out, by omega, HS.out⟩
end Go.Proofs.YtnhmhjhfoonakaaGreatDoor

/- Route, the sound's: the ways out. -/
set_option linter.unusedSimpArgs false
set_option linter.unusedVariables false
namespace Go.Proofs.YtnhmhjhfoonakaaGreatDoor
open Go.RowKit Go.Dw
attribute [local go_sem ↓] Go.wp_at_zero Go.wp_at_succ
set_option maxHeartbeats 800000 in
theorem ROUTE_chk (r : Int) (A AM : Option Addr) (n c pm cm : Nat) (xss : List (List Int)) (hc : chkS r xss ≠ 0) (w : World) (B : Nat) (hB : B ≤ w.heap.size) (hh : Hid (RowsAt w B A n xss)) :
    Calls Tryz.prog 10 #[.agg #[.int .i64 r, .slice A n c], .slice AM pm cm] w (OutS3 w 0 [] 0 (chkS r xss)) := by
  have hq : (chkS r xss != 0) = true := by simpa using hc
  clear hc
  obtain ⟨W, gx, hW, hgx, HHW, HBX, HSW⟩ := boxes2 w (.cells #[.int .i64 r, .slice (A) n c] 24) (.cells #[.int .i64 0, .slice none 0 0] 24)
  have HGX := Lib.hid hgx
  obtain ⟨g2, hg2⟩ : ∃ g, g = gx + 1 := ⟨_, rfl⟩
  have HX : Hid (W.heap[gx]? = some (.cells #[.int .i64 r, .slice (A) n c] 24 (0, 0))) := HHW.out.1
  have HHR : Hid (W.heap[g2]? = some (.cells #[.int .i64 0, .slice none 0 0] 24 (0, 0))) := by rw [hg2]; exact HHW.out.2
  have HG2 : Hid (w.heap.size ≤ g2) := by show _ ≤ _; omega
  go_enter Tryz.func10, Tryz.ntmps10
  go_upto_region 1 with (fail)
  rw [← hW, ← hgx, ← hg2]
  clear hW hgx hg2 HHW HSW
  obtain ⟨x0, x1, _, _⟩ := two_cells HX.out
  go_wp2_with fail
  refine (CHECK_any r (A) n c xss _ B (Nat.le_trans hB HBX.out.size) (hh.out.below HBX.out hB)).mono ?_
  rintro e w1 ⟨rfl, hb⟩
  replace HX := Lib.hid ((hb.block gx (blk_lt HX.out)).trans HX.out)
  replace HHR := Lib.hid ((hb.block g2 (blk_lt HHR.out)).trans HHR.out)
  replace HBX := Lib.hid (HBX.out.trans (hb.mono HBX.out.size))
  clear hb x0 x1
  obtain ⟨hr0, hr1, hf0, hf1⟩ := two_cells HHR.out
  have hl2 := blk_lt HHR.out
  go_wp2_with fail
  (try go_region)
  (try go_wp2_with fail)
  exact end_snd3 (o0 := .int .i64 0) (o1 := .slice none 0 0) rfl rfl rfl hr0 hr1 ⟨_, rfl, OwnRows.nil _ _, set2_below' HBX.out HG2.out⟩
set_option maxHeartbeats 800000 in
theorem ROUTE_few (r : Int) (A AM : Option Addr) (n c pm cm : Nat) (xss : List (List Int)) (hc : Hid (chkS r xss = 0)) (hm : pm < 1 ∨ 16 < pm) (w : World) (B : Nat) (hB : B ≤ w.heap.size) (hh : Hid (RowsAt w B A n xss)) :
    Calls Tryz.prog 10 #[.agg #[.int .i64 r, .slice A n c], .slice AM pm cm] w (OutS3 w 0 [] 0 1) := by
  have hq : (chkS r xss != 0) = false := by rw [hc.out]; rfl
  by_cases h1 : pm < 1
  · have d1 : decide (pm < 1) = true := by simpa using h1
    obtain rfl : pm = 0 := by omega
    clear h1 hm
    obtain ⟨W, gx, hW, hgx, HHW, HBX, HSW⟩ := boxes2 w (.cells #[.int .i64 r, .slice (A) n c] 24) (.cells #[.int .i64 0, .slice none 0 0] 24)
    have HGX := Lib.hid hgx
    obtain ⟨g2, hg2⟩ : ∃ g, g = gx + 1 := ⟨_, rfl⟩
    have HX : Hid (W.heap[gx]? = some (.cells #[.int .i64 r, .slice (A) n c] 24 (0, 0))) := HHW.out.1
    have HHR : Hid (W.heap[g2]? = some (.cells #[.int .i64 0, .slice none 0 0] 24 (0, 0))) := by rw [hg2]; exact HHW.out.2
    have HG2 : Hid (w.heap.size ≤ g2) := by show _ ≤ _; omega
    go_enter Tryz.func10, Tryz.ntmps10
    go_upto_region 1 with (fail)
    rw [← hW, ← hgx, ← hg2]
    clear hW hgx hg2 HHW HSW
    obtain ⟨x0, x1, _, _⟩ := two_cells HX.out
    go_wp2_with fail
    refine (CHECK_any r (A) n c xss _ B (Nat.le_trans hB HBX.out.size) (hh.out.below HBX.out hB)).mono ?_
    rintro e w1 ⟨rfl, hb⟩
    replace HX := Lib.hid ((hb.block gx (blk_lt HX.out)).trans HX.out)
    replace HHR := Lib.hid ((hb.block g2 (blk_lt HHR.out)).trans HHR.out)
    replace HBX := Lib.hid (HBX.out.trans (hb.mono HBX.out.size))
    clear hb x0 x1
    obtain ⟨hr0, hr1, hf0, hf1⟩ := two_cells HHR.out
    have hl2 := blk_lt HHR.out
    go_wp2_with fail
    (try go_region)
    (try go_wp2_with fail)
    exact end_snd3 (o0 := .int .i64 0) (o1 := .slice none 0 0) rfl rfl rfl hr0 hr1 ⟨_, rfl, OwnRows.nil _ _, set2_below' HBX.out HG2.out⟩
  · have d1 : decide (pm < 1) = false := by simp; omega
    have d2 : decide (16 < pm) = true := by simp; omega
    have d3 : decide ((pm : Int) < 1) = false := by simp; omega
    have d4 : decide ((16 : Int) < pm) = true := by simp; omega
    clear h1 hm
    obtain ⟨W, gx, hW, hgx, HHW, HBX, HSW⟩ := boxes2 w (.cells #[.int .i64 r, .slice (A) n c] 24) (.cells #[.int .i64 0, .slice none 0 0] 24)
    have HGX := Lib.hid hgx
    obtain ⟨g2, hg2⟩ : ∃ g, g = gx + 1 := ⟨_, rfl⟩
    have HX : Hid (W.heap[gx]? = some (.cells #[.int .i64 r, .slice (A) n c] 24 (0, 0))) := HHW.out.1
    have HHR : Hid (W.heap[g2]? = some (.cells #[.int .i64 0, .slice none 0 0] 24 (0, 0))) := by rw [hg2]; exact HHW.out.2
    have HG2 : Hid (w.heap.size ≤ g2) := by show _ ≤ _; omega
    go_enter Tryz.func10, Tryz.ntmps10
    go_upto_region 1 with (fail)
    rw [← hW, ← hgx, ← hg2]
    clear hW hgx hg2 HHW HSW
    obtain ⟨x0, x1, _, _⟩ := two_cells HX.out
    go_wp2_with fail
    refine (CHECK_any r (A) n c xss _ B (Nat.le_trans hB HBX.out.size) (hh.out.below HBX.out hB)).mono ?_
    rintro e w1 ⟨rfl, hb⟩
    replace HX := Lib.hid ((hb.block gx (blk_lt HX.out)).trans HX.out)
    replace HHR := Lib.hid ((hb.block g2 (blk_lt HHR.out)).trans HHR.out)
    replace HBX := Lib.hid (HBX.out.trans (hb.mono HBX.out.size))
    clear hb x0 x1
    obtain ⟨hr0, hr1, hf0, hf1⟩ := two_cells HHR.out
    have hl2 := blk_lt HHR.out
    go_wp2_with fail
    (try go_region)
    (try go_wp2_with fail)
    exact end_snd3 (o0 := .int .i64 0) (o1 := .slice none 0 0) rfl rfl rfl hr0 hr1 ⟨_, rfl, OwnRows.nil _ _, set2_below' HBX.out HG2.out⟩
set_option maxRecDepth 100000 in
set_option maxHeartbeats 4000000 in
theorem ROUTE_mat (r : Int) (A AM : Option Addr) (n c pm cm : Nat) (xss : List (List Int)) (m : List (List Rx)) (E : Int) (hE : E ≠ 0) (hc : Hid (chkS r xss = 0)) (hp1 : 1 ≤ pm) (hp2 : pm ≤ 16) (HE0 : Hid (chkM n m = E)) (w : World) (B : Nat) (hB : B ≤ w.heap.size) (hh : Hid (RowsAt w B A n xss)) (HM : Hid (MatAt w B AM pm m)) :
    Calls Tryz.prog 10 #[.agg #[.int .i64 r, .slice A n c], .slice AM pm cm] w (OutS3 w 0 [] 0 E) := by
  have hq : (chkS r xss != 0) = false := by rw [hc.out]; rfl
  have d1 : decide (pm < 1) = false := by simp; omega
  have d2 : decide (16 < pm) = false := by simp; omega
  obtain ⟨W, gx, hW, hgx, HHW, HBX, HSW⟩ := boxes2 w (.cells #[.int .i64 r, .slice (A) n c] 24) (.cells #[.int .i64 0, .slice none 0 0] 24)
  have HGX := Lib.hid hgx
  obtain ⟨g2, hg2⟩ : ∃ g, g = gx + 1 := ⟨_, rfl⟩
  have HX : Hid (W.heap[gx]? = some (.cells #[.int .i64 r, .slice (A) n c] 24 (0, 0))) := HHW.out.1
  have HHR : Hid (W.heap[g2]? = some (.cells #[.int .i64 0, .slice none 0 0] 24 (0, 0))) := by rw [hg2]; exact HHW.out.2
  have HG2 : Hid (w.heap.size ≤ g2) := by show _ ≤ _; omega
  go_enter Tryz.func10, Tryz.ntmps10
  go_upto_region 1 with (fail)
  rw [← hW, ← hgx, ← hg2]
  clear hW hgx hg2 HHW HSW
  obtain ⟨x0, x1, _, _⟩ := two_cells HX.out
  go_wp2_with fail
  refine (CHECK_any r (A) n c xss _ B (Nat.le_trans hB HBX.out.size) (hh.out.below HBX.out hB)).mono ?_
  rintro e w1 ⟨rfl, hb⟩
  replace HX := Lib.hid ((hb.block gx (blk_lt HX.out)).trans HX.out)
  replace HHR := Lib.hid ((hb.block g2 (blk_lt HHR.out)).trans HHR.out)
  replace HBX := Lib.hid (HBX.out.trans (hb.mono HBX.out.size))
  clear hb x0 x1
  obtain ⟨X, rfl⟩ : ∃ x : World, x = w1 := ⟨_, rfl⟩
  go_wp2_with fail
  go_loopw [40] (fun i wr => ∃ k : Nat, k ≤ pm ∧ i = .int .i64 k ∧ Hid (chkM n (m.drop k) = E) ∧ Hid (Below X.heap.size X wr)) (fun i _ => pm - (intOf i).toNat)
  case atStart => exact ⟨0, Nat.zero_le _, rfl, HE0.out, Below.refl _ _⟩
  case round =>
    obtain ⟨k, hk, rfl, HE, HS⟩ := hrel
    obtain ⟨wa, rfl⟩ : ∃ x : World, x = wr := ⟨_, rfl⟩
    have HXr := Lib.hid ((HS.out.block gx (blk_lt HX.out)).trans HX.out)
    have HRr := Lib.hid ((HS.out.block g2 (blk_lt HHR.out)).trans HHR.out)
    have HBr := Lib.hid (HBX.out.trans (HS.out.mono HBX.out.size))
    by_cases hlt : k < pm
    · obtain ⟨b, o, hA, hbB, A', n', c', hc0, hn', hc', hrow⟩ := (HM.out.below HBr.out hB).2 k hlt
      have HMW0 := HM.out.2 k hlt
      have hkm : Hid (k < m.length) := by show _ < _; rw [HM.out.1]; exact hlt
      have HROW := Lib.hid hrow
      have HRL := Lib.hid hrow.1
      clear hrow HMW0
      have hk0 : (0 : Int) ≤ (k : Int) := by omega
      have hkn : (k : Int) < (pm : Int) := by omega
      unfold maxLen at hc'
      subst hA
      obtain ⟨x0, x1, _, _⟩ := two_cells HXr.out
      by_cases hd : n' = n
      · subst hd
        have dn : (n' != n') = false := by simp
        have dn2 : ((n' : Int) != (n' : Int)) = false := by simp
        obtain ⟨E2, hE2⟩ : ∃ E2, chkRx (mxOf m k) = E2 := ⟨_, rfl⟩
        have HE2 := Lib.hid hE2
        clear hE2
        go_wp2_with fail
        clear x0 x1 hc0
        go_loopw [53] (fun i wr => ∃ j : Nat, j ≤ n' ∧ i = .int .i64 j ∧ Hid (chkRx ((mxOf m k).drop j) = E2) ∧ Hid (Below wa.heap.size wa wr)) (fun i _ => n' - (intOf i).toNat)
        case atStart => exact ⟨0, Nat.zero_le _, rfl, HE2.out, Below.refl _ _⟩
        case round =>
          obtain ⟨j, hj, rfl, HEj, HSj⟩ := hrel
          by_cases hjl : j < n'
          · obtain ⟨b', o', hA', hbB', hq0, hq1, hz0, hz1⟩ := ((HROW.out.mono (Nat.le_trans hB HBr.out.size)).below HSj.out (Nat.le_refl _)).2 j hjl
            have hjm : Hid (j < (mxOf m k).length) := by show _ < _; rw [HRL.out]; exact hjl
            obtain ⟨⟨s, t⟩, hst⟩ : ∃ p, rxOf (mxOf m k) j = p := ⟨_, rfl⟩
            have HST := Lib.hid hst
            rw [hst] at hq0 hq1 hz0 hz1
            dsimp only at hq0 hq1 hz0 hz1
            have hj0 : (0 : Int) ≤ (j : Int) := by omega
            have hjn : (j : Int) < (n' : Int) := by omega
            clear hst
            subst hA'
            go_upto_region 14 with (fail)
            obtain ⟨W5, g5, hX, hg, HG5, HB5, _⟩ := cell_new wr 26 #[.string s, .string t]
            rw [← hX, ← hg]
            obtain ⟨p0, p1, _, _⟩ := two_cells HG5.out
            replace HSj := Lib.hid (HSj.out.trans (HB5.out.mono HSj.out.size))
            clear hX hg hq0 hq1 HB5
            go_wp2_with fail
            refine (CHECKRATIO_any s t hz0 hz1 _).mono ?_
            rintro e w6 ⟨rfl, hb⟩
            replace HSj := Lib.hid (HSj.out.trans (hb.mono HSj.out.size))
            clear p0 p1 hb
            by_cases hcq : chkQ s t = 0
            · have dq : (chkQ s t != 0) = false := by rw [hcq]; rfl
              have HN : Hid (chkRx ((mxOf m k).drop (j + 1)) = E2) := by
                show _ = _
                rw [← HEj.out, chkRx_step hjm.out (by rw [HST.out]; exact hcq)]
              clear hcq
              go_wp2_with fail
              go_roundw
              case rel => exact ⟨j + 1, by omega, by go_num, HN.out, HSj.out⟩
              case measure => simp [intOf]; omega
            ·
              have dq : (chkQ s t != 0) = true := by simpa using hcq
              have HE3 : Hid (E = chkQ s t) := by
                have h1 : chkRx (mxOf m k) = chkQ s t := by
                  rw [HE2.out, ← HEj.out, chkRx_bad hjm.out (by rw [HST.out]; exact hcq), HST.out]
                show _ = _
                rw [← HE.out, chkM_bad hkm.out HRL.out (by rw [h1]; exact hcq), h1]
              replace HHR := Lib.hid ((HSj.out.block g2 (blk_lt HRr.out)).trans HRr.out)
              replace HBX := Lib.hid (HBr.out.trans (HSj.out.mono HBr.out.size))
              clear HE hcq
              have h39 := HE3.out
              clear HE3
              subst h39
              obtain ⟨hr0, hr1, hf0, hf1⟩ := two_cells HHR.out
              have hl2 := blk_lt HHR.out
              go_wp2_with fail
              (try go_region)
              (try go_wp2_with fail)
              exact end_snd3 (o0 := .int .i64 0) (o1 := .slice none 0 0) rfl rfl rfl hr0 hr1 ⟨_, rfl, OwnRows.nil _ _, set2_below' HBX.out HG2.out⟩
          · obtain rfl : n' = j := by omega
            have HE0' : Hid (E2 = 0) := by
              show _ = _
              rw [← HEj.out, List.drop_of_length_le (by rw [HRL.out]; exact Nat.le_refl _)]; rfl
            have HN : Hid (chkM n' (m.drop (k + 1)) = E) := by
              show _ = _
              rw [← HE.out, chkM_step hkm.out HRL.out (by rw [HE2.out]; exact HE0'.out)]
            have HSn := Lib.hid (HS.out.trans (HSj.out.mono HS.out.size))
            go_wp2_with fail
            go_roundw
            case rel => exact ⟨k + 1, by omega, by go_num, HN.out, HSn.out⟩
            case measure => simp [intOf]; omega
      ·
        have dn : (n' != n) = true := by simpa using hd
        have dn2 : ((n' : Int) != (n : Int)) = true := by simp; omega
        have HE3 : Hid (E = 3) := by show _ = _; rw [← HE.out]; exact chkM_len hkm.out (by rw [HRL.out]; exact hd)
        clear HE
        replace HX := HXr
        replace HHR := HRr
        replace HBX := HBr
        have h39 := HE3.out
        clear HE3
        subst h39
        obtain ⟨hr0, hr1, hf0, hf1⟩ := two_cells HHR.out
        have hl2 := blk_lt HHR.out
        go_wp2_with fail
        (try go_region)
        (try go_wp2_with fail)
        exact end_snd3 (o0 := .int .i64 0) (o1 := .slice none 0 0) rfl rfl rfl hr0 hr1 ⟨_, rfl, OwnRows.nil _ _, set2_below' HBX.out HG2.out⟩
    · obtain rfl : pm = k := by omega
      have HEN : Hid (E = 0) := by
        show _ = _
        rw [← HE.out, List.drop_of_length_le (by rw [HM.out.1]; exact Nat.le_refl _)]; rfl
      clear HE hk
      exact absurd HEN.out hE
end Go.Proofs.YtnhmhjhfoonakaaGreatDoor

/- Route: what stays where a row is written. -/
set_option linter.unusedSimpArgs false
set_option linter.unusedVariables false
namespace Go.Proofs.YtnhmhjhfoonakaaGreatDoor
open Go.RowKit Go.Dw
/-- a block of another type is written -/
theorem FillI.clip {N : Nat} {W : World} {g : Nat} {o0 : Value} {gv n cV : Nat} {rows : List Value} {wr w' : World} {yss : List (List Int)} {gc : Nat} {cs : Array Value} (h : FillI N W g o0 gv n cV rows wr yss) (hN : N ≤ wr.heap.size)
    (hc : wr.heap[gc]? = some (.cells cs 65 (0, 0))) (hNc : N ≤ gc) (hne : g ≠ gc) (hg : wr.grownBy w' (some gc)) : FillI N W g o0 gv n cV rows w' yss :=
  ⟨h.below.trans (grown_below hg hN (fun j e => by injection e with e; omega)), (hg.block g (blk_lt h.box) (fun e => by injection e with e; omega)).trans h.box,
    ⟨h.own.outer.kept hg (.inr (own_ne_blk h.own.outer hc (by decide))), fun k r hr => (h.own.inner k r hr).kept hg (.inr (own_ne_blk (h.own.inner k r hr) hc (by decide))), h.own.apart⟩, h.ge⟩
theorem FillI.clipblk {N : Nat} {W : World} {g : Nat} {o0 : Value} {gv n cV : Nat} {rows : List Value} {wr : World} {yss : List (List Int)} {gc k b m cap : Nat} {cs : Array Value} (h : FillI N W g o0 gv n cV rows wr yss)
    (hc : wr.heap[gc]? = some (.cells cs 65 (0, 0))) (hr : rows[k]? = some (.slice (some ⟨b, 0, none⟩) m cap)) (j : Nat) (u : Value) : (wr.setCell ⟨b, j, none⟩ u).heap[gc]? = some (.cells cs 65 (0, 0)) := by
  have hin := h.own.inner k _ hr
  have hne : b ≠ gc := fun e => own_ne_blk hin hc (by decide) (by rw [e]; rfl)
  exact (Below.heap_setCell _ _ _ _ (by simp; omega)).trans hc
theorem fill_slice {N : Nat} {W : World} {g : Nat} {o0 : Value} {gv n cV : Nat} {rows : List Value} {wr : World} {yss : List (List Int)} {k m : Nat} (h : FillI N W g o0 gv n cV rows wr yss) (hk : k < yss.length) (hm : (rowOf yss k).length = m) :
    ∃ A cap, rows[k]? = some (.slice A m cap) ∧ m ≤ cap ∧ cap ≤ maxLen ∧ (0 < m → ∃ b, A = some ⟨b, 0, none⟩) := by
  obtain ⟨r, h1, h2⟩ := h.own.row hk
  rw [hm] at h2
  obtain ⟨A, cap, rfl, h3, h4⟩ := own_form h2
  refine ⟨A, cap, h1, h3, h4, fun h0 => ?_⟩
  obtain ⟨b, cap', e, _⟩ := own_slot h2 h0
  exact ⟨b, by injection e⟩
theorem OwnZ.grown {w w' : World} {base : Nat} {v : Value} {n L : Nat} {f : Nat → Int} {l : List Zc} {row : Option Nat} {T' : TypeId} (h : OwnZ w base v n L f l) (hg : w.grownBy w' row) (hr : ∀ g, row = some g → TyAt T' w g) (h1 : 46 ≠ T') (h2 : 110 ≠ T') : OwnZ w' base v n L f l := by
  refine ⟨h.len, World.ownsRow.kept h.own hg ?_, fun k hk => ⟨⟨(h.num k hk).1.1, ((h.num k hk).1.2.grown hg hr h2).mono hg.size⟩, (h.num k hk).2⟩⟩
  cases hv : v.ownBlock with
  | none => exact .inl rfl
  | some g =>
    refine .inr (fun e => ?_)
    obtain ⟨cs, fr, hh⟩ := hr g e.symm
    exact own_ne_blk h.own hh h1 hv
theorem OwnZ.at_ {w : World} {base : Nat} {A : Option Addr} {n c L : Nat} {f : Nat → Int} {l : List Zc} (h : OwnZ w base (.slice A n c) n L f l) {k : Nat} (hk : k < n) : ∃ g, A = some ⟨g, 0, none⟩ ∧ w.cell? ⟨g, k * 2, none⟩ = some (.bool (zcOf l k).1) ∧ w.cell? ⟨g, k * 2 + 1, none⟩ = some (.slice (zcOf l k).2.1 (zcOf l k).2.2.1 (zcOf l k).2.2.2) := by
  have ho := h.own
  rcases ho.2 with ⟨e, _⟩ | ⟨g, cap, cur, e, _⟩
  · injection e with _ e _; omega
  · injection e with e1 e2 e3
    subst e1 e3
    have hl : k < l.length := by rw [h.len]; exact hk
    refine ⟨g, rfl, ?_, ?_⟩
    · have h0 := zcsC_get (j := 0) hl (by omega)
      rw [Nat.add_zero] at h0
      rw [ho.cellAt (k * 2) (by omega), h0]; rfl
    · rw [ho.cellAt (k * 2 + 1) (by omega), zcsC_get hl (by omega)]; rfl
theorem grown_set (w : World) (b j : Nat) (u : Value) : w.grownBy (w.setCell ⟨b, j, none⟩ u) (some b) :=
  ⟨rfl, rfl, rfl, by simp [World.setCell], fun i hi hne => Below.heap_setCell _ _ _ _ (by simpa using fun e => hne (by rw [e]))⟩
theorem NumAt.grown' {w w' : World} {A : Option Addr} {n c x : Nat} {row : Option Nat} {T' : TypeId} (h : NumAt .u32 110 4294967296 w w.heap.size A n c x) (hg : w.grownBy w' row) (hr : ∀ g, row = some g → TyAt T' w g) (h2 : 110 ≠ T') : NumAt .u32 110 4294967296 w' w'.heap.size A n c x := (h.grown hg hr h2).mono hg.size
/-- the row that is filled is one of integers -/
theorem FillI.ty {N : Nat} {W : World} {g : Nat} {o0 : Value} {gv n cV : Nat} {rows : List Value} {wr : World} {yss : List (List Int)} {k b m cap : Nat} (h : FillI N W g o0 gv n cV rows wr yss) (hr : rows[k]? = some (.slice (some ⟨b, 0, none⟩) m cap)) : ∀ q, some b = some q → TyAt 3 wr q := fun q e => by
  injection e with e; subst e
  exact own_ty (h.own.inner k _ hr) b rfl
theorem clip_ty {w : World} {gc : Nat} {cs : Array Value} (h : w.heap[gc]? = some (.cells cs 65 (0, 0))) : ∀ q, some gc = some q → TyAt 65 w q := fun q e => by
  injection e with e; subst e; exact ⟨_, _, h⟩
theorem grown_set2 (w : World) (b j j' : Nat) (u u' : Value) : w.grownBy ((w.setCell ⟨b, j, none⟩ u).setCell ⟨b, j', none⟩ u') (some b) :=
  ⟨rfl, rfl, rfl, by simp [World.setCell], fun i hi hne => (Below.heap_setCell _ _ _ _ (by simpa using fun e => hne (by rw [e]))).trans (Below.heap_setCell _ _ _ _ (by simpa using fun e => hne (by rw [e])))⟩
theorem int_set2 {w : World} {g : Nat} {o0 o1 : Value} (u u' : Value) {ng : Bool} {A : Option Addr} {n c : Nat} {z : Int} (hg : w.heap[g]? = some (.cells #[o0, o1] 46 (0, 0))) (h : IntAt w w.heap.size ng A n c z) :
    IntAt ((w.setCell ⟨g, 0, none⟩ u).setCell ⟨g, 1, none⟩ u') ((w.setCell ⟨g, 0, none⟩ u).setCell ⟨g, 1, none⟩ u').heap.size ng A n c z :=
  ⟨h.1, NumAt.grown' h.2 (grown_set2 w g 0 1 u u') (fun q e => by injection e with e; subst e; exact ⟨_, _, hg⟩) (by decide)⟩
end Go.Proofs.YtnhmhjhfoonakaaGreatDoor

/- Route, the sound's, where all is right. -/
set_option linter.unusedSimpArgs false
set_option linter.unusedVariables false
namespace Go.Proofs.YtnhmhjhfoonakaaGreatDoor
open Go.RowKit Go.Dw
attribute [local go_sem ↓] Go.wp_at_zero Go.wp_at_succ
set_option maxRecDepth 100000 in
set_option maxHeartbeats 4000000 in
theorem ROUTE_ok (r : Int) (ad : Addr) (AM : Option Addr) (n c pm cm : Nat) (xss : List (List Int)) (m : List (List Rx)) (hc : Hid (chkS r xss = 0)) (hok : Hid (OkS r xss)) (hp1 : 1 ≤ pm) (hp2 : pm ≤ 16) (hE9 : Hid (chkM n m = 0)) (w : World) (B : Nat) (hB : B ≤ w.heap.size) (hh : Hid (RowsAt w B (some ad) n xss)) (HM : Hid (MatAt w B AM pm m)) :
    Calls Tryz.prog 10 #[.agg #[.int .i64 r, .slice (some ad) n c], .slice AM pm cm] w (OutS3 w r (clipS (rouT xss m)) (stS clipU 0 (rouT xss m)) 0) := by
  have hl := Lib.hid hh.out.1
  have hn16 : n ≤ 16 := by have := hok.out.few; have := hl.out; omega
  have hn : 0 < n := by have := hok.out.some; have := hl.out; omega
  have hm := hok.out.long
  have hq : (chkS r xss != 0) = false := by rw [hc.out]; rfl
  have d1 : decide (pm < 1) = false := by simp; omega
  have d2 : decide (16 < pm) = false := by simp; omega
  obtain ⟨E, hE0⟩ : ∃ E : Int, E = 0 := ⟨_, rfl⟩
  have HE0 : Hid (chkM n m = E) := by show _ = _; rw [hE0]; exact hE9.out
  obtain ⟨T, hT⟩ : ∃ T, rouT xss m = T := ⟨_, rfl⟩
  have HTl : Hid (T.length = pm) := by show _ = _; rw [← hT]; exact mtx_length.trans HM.out.1
  have HTm : Hid (∀ a, a < pm → (rowOf T a).length = len0 xss) := fun a ha => by rw [← hT]; exact mtx_len (by rw [HM.out.1]; exact ha)
  have HTe : Hid (∀ a i, a < pm → i < len0 xss → elOf (rowOf T a) i = nearQ (sumQ (mxOf m a) xss i xss.length)) := fun a i ha hi => by rw [← hT]; exact mtx_el (by rw [HM.out.1]; exact ha) hi
  have HTr : Hid (∀ t ∈ T, t.length = len0 xss) := by rw [← hT]; exact mtx_rows
  have HY0 : Hid ((clipS T).length = pm) := (clipS_length T).trans HTl.out
  have HYm0 : Hid (∀ a, a < (clipS T).length → (rowOf (clipS T) a).length = len0 xss) := fun a ha => by
    rw [clipS_length] at ha; rw [clipS_len ha]; exact HTm.out a (by rw [← HTl.out]; exact ha)
  have HYe0 : Hid (∀ a i, a < pm → i < len0 xss → elOf (rowOf (clipS T) a) i = clipV (elOf (rowOf T a) i)) := fun a i ha hi => clipS_el (by rw [HTl.out]; exact ha) (by rw [HTm.out a ha]; exact hi)
  rw [hT]
  obtain ⟨Y, hY⟩ : ∃ Y, clipS T = Y := ⟨_, rfl⟩
  have HY := HY0
  have HYm := HYm0
  have HYe := HYe0
  clear HY0 HYm0 HYe0
  rw [hY] at HY HYm HYe ⊢
  clear hT hY
  obtain ⟨W, gx, hW, hgx, HHW, HBX, HSW⟩ := boxes2 w (.cells #[.int .i64 r, .slice (some ad) n c] 24) (.cells #[.int .i64 0, .slice none 0 0] 24)
  have HGX := Lib.hid hgx
  obtain ⟨g2, hg2⟩ : ∃ g, g = gx + 1 := ⟨_, rfl⟩
  have HX : Hid (W.heap[gx]? = some (.cells #[.int .i64 r, .slice (some ad) n c] 24 (0, 0))) := HHW.out.1
  have HHR : Hid (W.heap[g2]? = some (.cells #[.int .i64 0, .slice none 0 0] 24 (0, 0))) := by rw [hg2]; exact HHW.out.2
  have HG2 : Hid (w.heap.size ≤ g2) := by show _ ≤ _; omega
  go_enter Tryz.func10, Tryz.ntmps10
  go_upto_region 1 with (fail)
  rw [← hW, ← hgx, ← hg2]
  clear hW hgx hg2 HHW HSW
  obtain ⟨x0, x1, _, _⟩ := two_cells HX.out
  go_wp2_with fail
  refine (CHECK_any r (some ad) n c xss _ B (Nat.le_trans hB HBX.out.size) (hh.out.below HBX.out hB)).mono ?_
  rintro e w1 ⟨rfl, hb⟩
  replace HX := Lib.hid ((hb.block gx (blk_lt HX.out)).trans HX.out)
  replace HHR := Lib.hid ((hb.block g2 (blk_lt HHR.out)).trans HHR.out)
  replace HBX := Lib.hid (HBX.out.trans (hb.mono HBX.out.size))
  clear hb x0 x1
  obtain ⟨X, rfl⟩ : ∃ x : World, x = w1 := ⟨_, rfl⟩
  go_wp2_with fail
  go_loopw [40] (fun i wr => ∃ k : Nat, k ≤ pm ∧ i = .int .i64 k ∧ Hid (chkM n (m.drop k) = E) ∧ Hid (Below X.heap.size X wr)) (fun i _ => pm - (intOf i).toNat)
  case atStart => exact ⟨0, Nat.zero_le _, rfl, HE0.out, Below.refl _ _⟩
  case round =>
    obtain ⟨k, hk, rfl, HE, HS⟩ := hrel
    obtain ⟨wa, rfl⟩ : ∃ x : World, x = wr := ⟨_, rfl⟩
    have HXr := Lib.hid ((HS.out.block gx (blk_lt HX.out)).trans HX.out)
    have HRr := Lib.hid ((HS.out.block g2 (blk_lt HHR.out)).trans HHR.out)
    have HBr := Lib.hid (HBX.out.trans (HS.out.mono HBX.out.size))
    by_cases hlt : k < pm
    · obtain ⟨b, o, hA, hbB, A', n', c', hc0, hn', hc', hrow⟩ := (HM.out.below HBr.out hB).2 k hlt
      have HMW0 := HM.out.2 k hlt
      have hkm : Hid (k < m.length) := by show _ < _; rw [HM.out.1]; exact hlt
      have HROW := Lib.hid hrow
      have HRL := Lib.hid hrow.1
      clear hrow HMW0
      have hk0 : (0 : Int) ≤ (k : Int) := by omega
      have hkn : (k : Int) < (pm : Int) := by omega
      unfold maxLen at hc'
      subst hA
      obtain ⟨x0, x1, _, _⟩ := two_cells HXr.out
      by_cases hd : n' = n
      · subst hd
        have dn : (n' != n') = false := by simp
        have dn2 : ((n' : Int) != (n' : Int)) = false := by simp
        obtain ⟨E2, hE2⟩ : ∃ E2, chkRx (mxOf m k) = E2 := ⟨_, rfl⟩
        have HE2 := Lib.hid hE2
        clear hE2
        go_wp2_with fail
        clear x0 x1 hc0
        go_loopw [53] (fun i wr => ∃ j : Nat, j ≤ n' ∧ i = .int .i64 j ∧ Hid (chkRx ((mxOf m k).drop j) = E2) ∧ Hid (Below wa.heap.size wa wr)) (fun i _ => n' - (intOf i).toNat)
        case atStart => exact ⟨0, Nat.zero_le _, rfl, HE2.out, Below.refl _ _⟩
        case round =>
          obtain ⟨j, hj, rfl, HEj, HSj⟩ := hrel
          by_cases hjl : j < n'
          · obtain ⟨b', o', hA', hbB', hq0, hq1, hz0, hz1⟩ := ((HROW.out.mono (Nat.le_trans hB HBr.out.size)).below HSj.out (Nat.le_refl _)).2 j hjl
            have hjm : Hid (j < (mxOf m k).length) := by show _ < _; rw [HRL.out]; exact hjl
            obtain ⟨⟨s, t⟩, hst⟩ : ∃ p, rxOf (mxOf m k) j = p := ⟨_, rfl⟩
            have HST := Lib.hid hst
            rw [hst] at hq0 hq1 hz0 hz1
            dsimp only at hq0 hq1 hz0 hz1
            have hj0 : (0 : Int) ≤ (j : Int) := by omega
            have hjn : (j : Int) < (n' : Int) := by omega
            clear hst
            subst hA'
            go_upto_region 14 with (fail)
            obtain ⟨W5, g5, hX, hg, HG5, HB5, _⟩ := cell_new wr 26 #[.string s, .string t]
            rw [← hX, ← hg]
            obtain ⟨p0, p1, _, _⟩ := two_cells HG5.out
            replace HSj := Lib.hid (HSj.out.trans (HB5.out.mono HSj.out.size))
            clear hX hg hq0 hq1 HB5
            go_wp2_with fail
            refine (CHECKRATIO_any s t hz0 hz1 _).mono ?_
            rintro e w6 ⟨rfl, hb⟩
            replace HSj := Lib.hid (HSj.out.trans (hb.mono HSj.out.size))
            clear p0 p1 hb
            by_cases hcq : chkQ s t = 0
            · have dq : (chkQ s t != 0) = false := by rw [hcq]; rfl
              have HN : Hid (chkRx ((mxOf m k).drop (j + 1)) = E2) := by
                show _ = _
                rw [← HEj.out, chkRx_step hjm.out (by rw [HST.out]; exact hcq)]
              clear hcq
              go_wp2_with fail
              go_roundw
              case rel => exact ⟨j + 1, by omega, by go_num, HN.out, HSj.out⟩
              case measure => simp [intOf]; omega
            ·
              have h1 : chkRx (mxOf m k) = chkQ s t := by
                rw [HE2.out, ← HEj.out, chkRx_bad hjm.out (by rw [HST.out]; exact hcq), HST.out]
              exact absurd (h1.symm.trans ((chkM_bad hkm.out HRL.out (by rw [h1]; exact hcq)).symm.trans (HE.out.trans hE0))) hcq
          · obtain rfl : n' = j := by omega
            have HE0' : Hid (E2 = 0) := by
              show _ = _
              rw [← HEj.out, List.drop_of_length_le (by rw [HRL.out]; exact Nat.le_refl _)]; rfl
            have HN : Hid (chkM n' (m.drop (k + 1)) = E) := by
              show _ = _
              rw [← HE.out, chkM_step hkm.out HRL.out (by rw [HE2.out]; exact HE0'.out)]
            have HSn := Lib.hid (HS.out.trans (HSj.out.mono HS.out.size))
            go_wp2_with fail
            go_roundw
            case rel => exact ⟨k + 1, by omega, by go_num, HN.out, HSn.out⟩
            case measure => simp [intOf]; omega
      ·
        exact absurd ((chkM_len hkm.out (T := n) (by rw [HRL.out]; exact hd)).symm.trans (HE.out.trans hE0)) (by decide)
    · obtain rfl : pm = k := by omega
      have HEN : Hid (E = 0) := by
        show _ = _
        rw [← HE.out, List.drop_of_length_le (by rw [HM.out.1]; exact Nat.le_refl _)]; rfl
      clear HE hk
      obtain ⟨V, rfl⟩ : ∃ x : World, x = X := ⟨_, rfl⟩
      clear HEN
      go_upto_region 20 with (fail)
      obtain ⟨gc, hgc⟩ : ∃ gc, gc = wa.heap.size := ⟨_, rfl⟩
      have hgx9 := blk_lt HXr.out
      have hg29 := blk_lt HRr.out
      have hwgc : w.heap.size ≤ gc := by rw [hgc]; exact HBr.out.size
      rw [← hgc] at hgx9 hg29 ⊢
      refine wp_later (gc + 1) ?_
      intro X hX hsX
      simp only [World.size_alloc, ← hgc] at hsX
      have hbX : Below gc wa X := ((Below.refl _ _).alloc (by omega) _).trans (hX.mono (by omega))
      have HGC : Hid (X.heap[gc]? = some (.cells #[.int .i64 0] 65 (0, 0))) := by
        show _ = _; rw [hX.block gc (by omega), hgc]; exact heap_alloc_new _ _
      have HXX := Lib.hid ((hbX.block gx hgx9).trans HXr.out)
      have HRX := Lib.hid ((hbX.block g2 hg29).trans HRr.out)
      have HBX9 := Lib.hid (HBr.out.trans (hbX.mono hwgc))
      have HXx := Lib.hid (hh.out.below HBX9.out hB)
      have HMX := Lib.hid (HM.out.below HBX9.out hB)
      clear hX hgc HX HHR HBX HS HXr HRr HBr hbX
      obtain ⟨hcs0, hcs1, _, _⟩ := two_cells HXX.out
      go_cut [14] (fun s14 wx => ∃ (g : Nat) (V : Value) (rows : List Value), s14 = .pointer (some ⟨g, 0, none⟩) ∧ Hid (wx.heap[g]? = some (.cells #[.int .i64 r, V] 24 (0, 0))) ∧ Hid (OwnRowsL wx (gc + 1) V (zeroS pm (len0 xss)) rows) ∧ Hid (Below (gc + 1) X wx) ∧ gc + 1 ≤ g)
      case first =>
        have HLe : Hid (len0 xss = len0 xss) := rfl
        go_region_held3 (fun w' => Below (gc + 1) X w' ∧ ∀ z : Addr, z.block < gc + 1 → w'.cell? z = X.cell? z)
          ((refine (fun h => ⟨h, pcell h⟩) ?_; repeat (first | assumption | exact Below.refl _ _ | (refine Below.drew ?_) | (refine Below.alloc ?_ (by first | omega | (simp; omega) | exact Nat.le_trans hsX (Below.size (by assumption)) | (simp only [World.size_drew, World.size_alloc]; exact Nat.le_trans hsX (Nat.le_succ_of_le (Below.size (by assumption))))) _) | (refine Below.setCell ?_ (by first | omega | (simp; omega) | exact Nat.le_trans hsX (Below.size (by assumption))) _))))
          (first
            | (go_at_call 29; (with_reducible refine (LENGTH_any r (some ad) n c xss _ B ?_ ?_ hn).mono ?_); (exact Below.ge ‹Below (gc + 1) X _ ∧ _› hsX (by omega)); (exact HXx.out.below ((‹Below (gc + 1) X _ ∧ _›).1.mono (by omega)) (Nat.le_refl _)); rintro e w7 ⟨rfl, hb7⟩; have hbS := Below.next (‹Below (gc + 1) X _ ∧ _›).1 hsX hb7; have hz7 := pcell hb7; have hy7 := fun b o => (bcell hb7).2 b o; have hs7 := hb7.size; (try simp only [World.size_alloc, World.size_drew, Nat.add_one_le_iff] at hs7); (try have hk7 : X.heap.size < w7.heap.size := by omega); (first | have hx9 := (hb7.block X.heap.size (by omega)).trans hx9 | have hx9 := (hb7.block X.heap.size (by simp)).trans (heap_alloc_new X (.cells #[.int .i64 0, .slice none 0 0] 24)) | skip))
            | (go_at_call 28; (with_reducible refine (BLANK_any r pm (len0 xss) ?_ ?_ _).mono ?_); (omega); (omega); rintro e w8 ⟨v8, rfl, ho8, hb8⟩; obtain ⟨A8, c8, rfl, _, _⟩ := ho8.form; have hbS8 := Below.next (‹Below (gc + 1) X _ ∧ _›).1 hsX hb8; have hz8 := pcell hb8; have hy8 := fun b o => (bcell hb8).2 b o; have hs8 := hb8.size; (try simp only [World.size_alloc, Nat.add_one_le_iff] at hs8)))
        all_goals (go_wp2_with fail; go_meet)
        all_goals (try rw [HLe.out])
        · obtain ⟨rows, hL2⟩ := ho8
          have hq8 := hbS8.size
          have hq7 := hbS.size
          have hq3 := hsX
          exact ⟨w8.heap.size, _, rows, rfl, heap_alloc_new _ _, (hL2.alloc _).base (by first | omega | (simp; omega)), hbS8.alloc (by omega) _, by omega⟩
        all_goals
          obtain ⟨rows, hL2⟩ := ho8
          have hq8 := hbS8.size
          have hq7 := hbS.size
          have hq3 := hsX
          first
            | have hx := (hb8.block _ (by simp)).trans (heap_alloc_new _ (.cells #[.int .i64 0, .slice none 0 0] 24))
            | have hx := (hb8.block _ (by first | (simp; done) | omega | (simp; omega))).trans ((hb7.block _ (by simp)).trans (heap_alloc_new _ (.cells #[.int .i64 0, .slice none 0 0] 24)))
            | have hx := (hb8.block X.heap.size (by first | (simp; done) | omega | (simp; omega))).trans hx9
          exact ⟨_, _, rows, rfl, heap_set2 hx, (hL2.base (by first | omega | (simp; omega))).set2_far hx (by decide) (by decide) _ _, set2_below hbS8 (by first | omega | (simp; omega)), by first | omega | (simp; omega)⟩
      case rest =>
        obtain ⟨g, V9, rows, rfl, hbox, hL, hb, hg⟩ := hcut
        have hn0 := hn
        obtain ⟨AV, cV, hVe, _, _⟩ := own_form hL.out.outer
        rw [zeroS_length] at hVe
        subst hVe
        obtain ⟨gv, hgv⟩ : ∃ gv, AV = some ⟨gv, 0, none⟩ := by
          have h1 := hL.out.outer
          rw [zeroS_length] at h1
          obtain ⟨gv, cap, e, _⟩ := own_slot h1 hp1
          exact ⟨gv, by injection e⟩
        subst hgv
        have HF0 : Hid (FillI gc X g (.int .i64 r) gv pm cV rows wc (partK Y (len0 xss) 0 0)) := ⟨hb.out.mono (by omega), hbox.out, by rw [partK_start, HY.out]; exact hL.out.base (by omega), by omega⟩
        have HG0 : Hid (wc.heap[gc]? = some (.cells #[.int .i64 (cntK T 0 0)] 65 (0, 0))) := by show _ = _; rw [cntK_zero]; exact (hb.out.block gc (by omega)).trans HGC.out
        have hgne : g ≠ gc := by omega
        have hgx : gc ≤ X.heap.size := by omega
        clear hbox hL hb HGC hcs0 hcs1
        go_wp2_with fail
        have hBg : B ≤ gc := Nat.le_trans hB hwgc
        have hB9X : B ≤ X.heap.size := Nat.le_trans hBg hgx
        go_loopw [74] (fun i wr => ∃ k : Nat, k ≤ pm ∧ i = .int .i64 k ∧ Hid (FillI gc X g (.int .i64 r) gv pm cV rows wr (partK Y (len0 xss) k 0)) ∧ Hid (wr.heap[gc]? = some (.cells #[.int .i64 (cntK T k 0)] 65 (0, 0)))) (fun i _ => pm - (intOf i).toNat)
        case atStart => exact ⟨0, Nat.zero_le _, rfl, HF0.out, HG0.out⟩
        case round =>
          clear HF0 HG0
          obtain ⟨k, hk, rfl, hF, hGc⟩ := hrel
          obtain ⟨wk, rfl⟩ : ∃ x : World, x = wr := ⟨_, rfl⟩
          by_cases hlt : k < pm
          · have hBk : B ≤ wk.heap.size := Nat.le_trans hB9X hF.out.below.size
            obtain ⟨b, o, hA, hbB, A', n', c', hc0, hn', hc', hrow⟩ := (HMX.out.below hF.out.below hBg).2 k hlt
            have hkm : Hid (k < m.length) := by show _ < _; rw [HM.out.1]; exact hlt
            have hkY : Hid (k < Y.length) := by show _ < _; rw [HY.out]; exact hlt
            have hck := chkM_zero hE9.out _ (mx_mem hkm.out)
            obtain rfl : n' = n := hrow.1.symm.trans hck.1
            have HCK := Lib.hid (chkRx_zero hck.2)
            have HROW := Lib.hid hrow
            have hk0 : (0 : Int) ≤ (k : Int) := by omega
            have hkn : (k : Int) < (pm : Int) := by omega
            unfold maxLen at hc'
            clear hrow hck
            subst hA
            go_upto_region 24 with (fail)
            clear hc0
            go_wp2_with fail
            refine (TOGETHER_any A' n' c' (mxOf m k) hn16 HCK _ B hBk HROW).mono ?_
            rintro e w2 ⟨vz, Ad, nd, cd, zc, rfl, ho, hd, knd, hb⟩
            obtain ⟨Az, cz, rfl, hcz1, hcz2⟩ := ho.form
            have HO := Lib.hid ho
            have HD := Lib.hid hd
            have hF2 := Lib.hid (hF.out.next hgx hb)
            have hG2 : Hid (w2.heap[gc]? = some (.cells #[.int .i64 (cntK T k 0)] 65 (0, 0))) := (hb.block gc (blk_lt hGc.out)).trans hGc.out
            clear ho hd hb hF hGc
            obtain ⟨D, hD⟩ : ∃ D, denK (mxOf m k) n' = D := ⟨_, rfl⟩
            have HDD := Lib.hid hD
            have HDP : Hid (0 < D) := by show _ < _; rw [← hD]; exact denK_pos _ _
            rw [hD] at HO HD
            obtain ⟨A9, cap, hrk, hcap1, hcap2, hA9⟩ := fill_slice hF2.out (by rw [partK_length]; exact hkY.out) (partK_len hkY.out (HYm.out k hkY.out) (Nat.zero_le _))
            have HR := Lib.hid hrk
            have ho9 := hF2.out.own.outer
            rw [partK_length, HY.out] at ho9
            have hcv := (ho9.cellAt k (by omega)).trans hrk
            obtain ⟨hgb0, hgb1, _, _⟩ := two_cells hF2.out.box
            unfold maxLen at hcap2 hcz2
            clear hD hrk ho9
            go_upto_region 26 with (fail)
            clear hcv hgb0 hgb1
            go_loopw [90] (fun i wr => ∃ j : Nat, j ≤ len0 xss ∧ i = .int .i64 j ∧ Hid (FillI gc X g (.int .i64 r) gv pm cV rows wr (partK Y (len0 xss) k j)) ∧ Hid (wr.heap[gc]? = some (.cells #[.int .i64 (cntK T k j)] 65 (0, 0))) ∧ Hid (OwnZ wr wk.heap.size (.slice Az n' cz) n' 40000 (wholeZ (mxOf m k) D) zc) ∧ Hid (NumAt .u32 110 4294967296 wr wr.heap.size Ad nd cd D)) (fun i _ => len0 xss - (intOf i).toNat)
            case atStart => exact ⟨0, Nat.zero_le _, rfl, hF2.out, hG2.out, HO.out, HD.out⟩
            case round =>
              clear hF2 hG2 HO HD
              obtain ⟨j, hj, rfl, hF, hGc, HO, HD⟩ := hrel
              obtain ⟨wj, rfl⟩ : ∃ x : World, x = wr := ⟨_, rfl⟩
              by_cases hjl : j < len0 xss
              · go_upto_region 29 with (fail)
                obtain ⟨w8, g8, hX8, hg8, HG8, HB8, _⟩ := cell_new wj 46 #[.bool false, .slice none 0 0]
                rw [← hX8]
                subst hg8
                have hg8' : wj.heap.size ≤ wj.heap.size := Nat.le_refl _
                clear hX8
                go_upto_region 30 with (fail)
                go_loopw [96] (fun i wr => ∃ u : Nat, u ≤ n' ∧ i = .int .i64 u ∧ ∃ ng A1 n1 c1, n1 ≤ 40003 + u ∧ Hid (wr.heap[wj.heap.size]? = some (.cells #[.bool ng, .slice A1 n1 c1] 46 (0, 0))) ∧ Hid (IntAt wr wr.heap.size ng A1 n1 c1 (sumW (mxOf m k) D xss j u)) ∧ Hid (Below wj.heap.size wj wr)) (fun i _ => n' - (intOf i).toNat)
                case atStart => exact ⟨0, Nat.zero_le _, rfl, false, none, 0, 0, by omega, HG8.out, ⟨rfl, NumAt.nil _ _ _ _ _⟩, HB8.out⟩
                case round =>
                  clear HG8 HB8
                  obtain ⟨u, hu, rfl, ng, A1, n1, c1, hn1, HG, HS, HBj⟩ := hrel
                  by_cases hul : u < n'
                  ·
                    obtain ⟨gz, hAz, hz0, hz1⟩ := (HO.out.below HBj.out).at_ hul
                    obtain ⟨⟨ngz, Az1, nz, cz1⟩, hz⟩ : ∃ p, zcOf zc u = p := ⟨_, rfl⟩
                    have hzi := (HO.out.below HBj.out).num u hul
                    rw [hz] at hz0 hz1 hzi
                    dsimp only at hz0 hz1 hzi
                    obtain ⟨hzi, hnz⟩ := hzi
                    have HZI := Lib.hid hzi
                    subst hAz
                    clear hz hzi
                    have hux : Hid (u < xss.length) := by show _ < _; rw [hl.out]; exact hul
                    obtain ⟨A3', n3', c3', hadB, hcell0, hn3', hc3', hi⟩ := hh.out.row hul
                    obtain rfl : n3' = len0 xss := hi.1.symm.trans (hok.out.row hux.out).1
                    obtain ⟨ad', rfl⟩ := hi.addr (by omega)
                    obtain ⟨y1, y2⟩ := hok.out.el hux.out hjl
                    obtain ⟨y, hy⟩ : ∃ y, elOf (rowOf xss u) j = y := ⟨_, rfl⟩
                    have hwX : Below B w wr := (HBX9.out.mono hB).trans ((hF.out.below.trans (HBj.out.mono (Nat.le_trans hgx hF.out.below.size))).mono hBg)
                    have hBr : B ≤ wr.heap.size := Nat.le_trans (Nat.le_trans hB9X hF.out.below.size) HBj.out.size
                    have q0 := (hwX.cell (p := ad.add u) (by rw [block_of_add]; omega)).trans hcell0
                    have q1 := ((hi.below hwX (Nat.le_refl _)).at_ hjl).2
                    have q1b := ((hi.below hwX (Nat.le_refl _)).at_ hjl).1
                    have q2 := (two_cells ((((hF.out.below.trans (HBj.out.mono (Nat.le_trans hgx hF.out.below.size))).block gx hgx9).trans HXX.out))).2.1
                    have HSU : Hid (sumW (mxOf m k) D xss j (u + 1) = sumW (mxOf m k) D xss j u + wholeZ (mxOf m k) D u * y) := by show _ = _; rw [← hy]; rfl
                    rw [hy] at q1 y1 y2
                    clear hy hi hcell0
                    unfold maxLen at hc3'
                    have hu0 : (0 : Int) ≤ (u : Int) := by omega
                    have hun : (u : Int) < (n' : Int) := by omega
                    have hj0 : (0 : Int) ≤ (j : Int) := by omega
                    have hjn : (j : Int) < (len0 xss : Int) := by omega
                    have hgl8 := blk_lt HG.out
                    have hgxl : gx < wr.heap.size := Nat.lt_of_lt_of_le (Nat.lt_of_lt_of_le hgx9 (Nat.le_trans hgx hF.out.below.size)) HBj.out.size
                    go_upto_region 32 with (fail)
                    obtain ⟨w9, g9, hX9, hg9, HG9, HB9, _⟩ := cell_new wr 46 #[.bool ngz, .slice Az1 nz cz1]
                    rw [← hX9, ← hg9]
                    obtain ⟨r0, r1, _, _⟩ := two_cells HG9.out
                    obtain ⟨s0, s1, _, _⟩ := two_cells ((HB9.out.block wj.heap.size hgl8).trans HG.out)
                    have HS9 := Lib.hid (HS.out.to HB9.out (Nat.le_refl _) HB9.out.size)
                    have HZ9 := Lib.hid (HZI.out.to HB9.out (Nat.le_refl _) HB9.out.size)
                    have HBj9 := Lib.hid (HBj.out.trans (HB9.out.mono HBj.out.size))
                    have hl9 := blk_lt HG9.out
                    have hs9 := HB9.out.size
                    have HG8 := Lib.hid ((HB9.out.block wj.heap.size hgl8).trans HG.out)
                    have HSS : Hid (∀ x9 : World, Below w9.heap.size w9 x9 → x9.cell? ⟨gx, 1, none⟩ = some (.slice (some ad) n' c) ∧ x9.cell? (ad.add u) = some (.slice (some ad') (len0 xss) c3') ∧ x9.cell? (ad'.add j) = some (.int .i64 y) ∧ x9.cell? ⟨wj.heap.size, 0, none⟩ = some (.bool ng) ∧ x9.cell? ⟨wj.heap.size, 1, none⟩ = some (.slice A1 n1 c1) ∧ x9.cell? ⟨g9, 0, none⟩ = some (.bool ngz) ∧ x9.cell? ⟨g9, 1, none⟩ = some (.slice Az1 nz cz1)) := fun x9 hb9 => by
                      have hb0 := HB9.out.trans (hb9.mono hs9)
                      exact ⟨(hb0.cell (p := ⟨gx, 1, none⟩) hgxl).trans q2, (hb0.cell (p := ad.add u) (by rw [block_of_add]; omega)).trans q0, (hb0.cell (p := ad'.add j) (by rw [block_of_add]; omega)).trans q1, (hb9.cell (p := ⟨wj.heap.size, 0, none⟩) (by simp; omega)).trans s0, (hb9.cell (p := ⟨wj.heap.size, 1, none⟩) (by simp; omega)).trans s1, (hb9.cell (p := ⟨g9, 0, none⟩) (by simp; omega)).trans r0, (hb9.cell (p := ⟨g9, 1, none⟩) (by simp; omega)).trans r1⟩
                    clear hX9 hg9 q0 q1 q2 r0 r1 s0 s1 HZI HS HG HBj hz0 hz1
                    refine wp_region_text 13 (fun x9 => x9.cell? ⟨gx, 1, none⟩ = some (.slice (some ad) n' c) ∧ x9.cell? (ad.add u) = some (.slice (some ad') (len0 xss) c3') ∧ x9.cell? (ad'.add j) = some (.int .i64 y) ∧ x9.cell? ⟨wj.heap.size, 0, none⟩ = some (.bool ng) ∧ x9.cell? ⟨wj.heap.size, 1, none⟩ = some (.slice A1 n1 c1) ∧ x9.cell? ⟨g9, 0, none⟩ = some (.bool ngz) ∧ x9.cell? ⟨g9, 1, none⟩ = some (.slice Az1 nz cz1)) (by kernel_rfl) (by kernel_rfl) ?_
                    have hS := HSS.out w9.drew (Below.refl _ _).drew
                    refine HT.load (i := 0) (oi := _) (v := ?_) rfl (by kernel_rfl) (by kernel_rfl) (by decide) (fun _ _ _ h => h) (by kernel_rfl) (Or.inl ⟨by rfl, ?_⟩) hS ?_
                    rotate_left
                    · intro wz hwz
                      try dsimp only at hwz
                      go_simp
                      try with_reducible rfl
                    simp only [List.getElem_toArray, List.getElem_cons_succ, List.getElem_cons_zero, Act.put, List.setIfInBounds_toArray, List.set_cons_zero, List.set_cons_succ]
                    refine HT.load (i := 1) (oi := _) (v := ?_) rfl (by kernel_rfl) (by kernel_rfl) (by decide) (fun _ _ _ h => h) (by kernel_rfl) (Or.inl ⟨by rfl, ?_⟩) hS ?_
                    rotate_left
                    · intro wz hwz
                      try dsimp only at hwz
                      go_simp
                      try with_reducible rfl
                    simp only [List.getElem_toArray, List.getElem_cons_succ, List.getElem_cons_zero, Act.put, List.setIfInBounds_toArray, List.set_cons_zero, List.set_cons_succ]
                    refine HT.take (i := 2) (oi := _) (v := ?_) rfl (by kernel_rfl) (by kernel_rfl) (by decide) (fun _ _ _ h => h) (Or.inl ⟨by rfl, ?_⟩) hS ?_
                    rotate_left
                    · intro wz
                      go_simp
                      try with_reducible rfl
                    simp only [List.getElem_toArray, List.getElem_cons_succ, List.getElem_cons_zero, Act.put, List.setIfInBounds_toArray, List.set_cons_zero, List.set_cons_succ]
                    refine HT.load (i := 3) (oi := _) (v := ?_) rfl (by kernel_rfl) (by kernel_rfl) (by decide) (fun _ _ _ h => h) (by kernel_rfl) (Or.inl ⟨by rfl, ?_⟩) hS ?_
                    rotate_left
                    · intro wz hwz
                      try dsimp only at hwz
                      go_simp
                      try with_reducible rfl
                    simp only [List.getElem_toArray, List.getElem_cons_succ, List.getElem_cons_zero, Act.put, List.setIfInBounds_toArray, List.set_cons_zero, List.set_cons_succ]
                    refine HT.take (i := 4) (oi := _) (v := ?_) rfl (by kernel_rfl) (by kernel_rfl) (by decide) (fun _ _ _ h => h) (Or.inl ⟨by rfl, ?_⟩) hS ?_
                    rotate_left
                    · intro wz
                      go_simp
                      try with_reducible rfl
                    simp only [List.getElem_toArray, List.getElem_cons_succ, List.getElem_cons_zero, Act.put, List.setIfInBounds_toArray, List.set_cons_zero, List.set_cons_succ]
                    refine HT.take (i := 5) (oi := _) (v := ?_) rfl (by kernel_rfl) (by kernel_rfl) (by decide) (fun _ _ _ h => h) (Or.inl ⟨by rfl, ?_⟩) hS ?_
                    rotate_left
                    · intro wz
                      go_simp
                      try with_reducible rfl
                    simp only [List.getElem_toArray, List.getElem_cons_succ, List.getElem_cons_zero, Act.put, List.setIfInBounds_toArray, List.set_cons_zero, List.set_cons_succ]
                    refine HT.load (i := 6) (oi := _) (v := ?_) rfl (by kernel_rfl) (by kernel_rfl) (by decide) (fun _ _ _ h => h) (by kernel_rfl) (Or.inl ⟨by rfl, ?_⟩) hS ?_
                    rotate_left
                    · intro wz hwz
                      try dsimp only at hwz
                      go_simp
                      try with_reducible rfl
                    simp only [List.getElem_toArray, List.getElem_cons_succ, List.getElem_cons_zero, Act.put, List.setIfInBounds_toArray, List.set_cons_zero, List.set_cons_succ]
                    refine HT.take (i := 7) (oi := _) (v := ?_) rfl (by kernel_rfl) (by kernel_rfl) (by decide) (fun _ _ _ h => h) (Or.inl ⟨by rfl, ?_⟩) hS ?_
                    rotate_left
                    · intro wz
                      go_simp
                      try with_reducible rfl
                    simp only [List.getElem_toArray, List.getElem_cons_succ, List.getElem_cons_zero, Act.put, List.setIfInBounds_toArray, List.set_cons_zero, List.set_cons_succ]
                    refine HT.take (i := 8) (oi := _) (v := ?_) rfl (by kernel_rfl) (by kernel_rfl) (by decide) (fun _ _ _ h => h) (Or.inl ⟨by rfl, ?_⟩) hS ?_
                    rotate_left
                    · intro wz
                      go_simp
                      try with_reducible rfl
                    simp only [List.getElem_toArray, List.getElem_cons_succ, List.getElem_cons_zero, Act.put, List.setIfInBounds_toArray, List.set_cons_zero, List.set_cons_succ]
                    refine HT.load (i := 9) (oi := _) (v := ?_) rfl (by kernel_rfl) (by kernel_rfl) (by decide) (fun _ _ _ h => h) (by kernel_rfl) (Or.inl ⟨by rfl, ?_⟩) hS ?_
                    rotate_left
                    · intro wz hwz
                      try dsimp only at hwz
                      go_simp
                      try with_reducible rfl
                    simp only [List.getElem_toArray, List.getElem_cons_succ, List.getElem_cons_zero, Act.put, List.setIfInBounds_toArray, List.set_cons_zero, List.set_cons_succ]
                    refine HT.one (i := 10) (o := _) rfl (by kernel_rfl) (by decide) (by rfl) ?_
                    intro K hK
                    go_simp
                    refine (IOF_any y (by omega) (by omega) _).mono ?_
                    rintro e w10 ⟨ng5, A5, n5, c5, rfl, h5, k5, hb⟩
                    replace hb : Below w9.heap.size w9 w10 := below_undrew hb
                    have H5 := Lib.hid h5
                    have HZ10 := Lib.hid (HZ9.out.to hb (Nat.le_refl _) hb.size)
                    have HB10 := Lib.hid hb
                    have hS9 := HSS.out w10 HB10.out
                    refine hK.out _ _ hS9 ?_
                    clear hK K hS hb h5 HZ9
                    have hS := hS9
                    clear hS9
                    try simp only [List.getElem_toArray, List.getElem_cons_succ, List.getElem_cons_zero, Act.put, List.setIfInBounds_toArray, List.set_cons_zero, List.set_cons_succ]
                    refine HT.one (i := 11) (o := _) rfl (by kernel_rfl) (by decide) (by rfl) ?_
                    intro K hK
                    go_simp
                    refine (IMUL_any ngz ng5 Az1 A5 nz cz1 n5 c5 (wholeZ (mxOf m k) D u) y (by omega) (by omega) _ w10.heap.size (Nat.le_refl _) HZ10 H5).mono ?_
                    rintro e w11 ⟨ng6, A6, n6, c6, rfl, h6, k6, hb⟩
                    have H6 := Lib.hid h6
                    have HB11 := Lib.hid (HB10.out.trans (hb.mono HB10.out.size))
                    have HS11 := Lib.hid (HS9.out.to HB11.out (Nat.le_refl _) HB11.out.size)
                    have hS9 := HSS.out w11 HB11.out
                    refine hK.out _ _ hS9 ?_
                    clear hK K hS hb h6 HZ10 H5 HS9
                    have hS := hS9
                    clear hS9
                    try simp only [List.getElem_toArray, List.getElem_cons_succ, List.getElem_cons_zero, Act.put, List.setIfInBounds_toArray, List.set_cons_zero, List.set_cons_succ]
                    refine HT.one (i := 12) (o := _) rfl (by kernel_rfl) (by decide) (by rfl) ?_
                    intro K hK
                    go_simp
                    refine (IADD_any ng ng6 A1 A6 n1 c1 n6 c6 (sumW (mxOf m k) D xss j u) (wholeZ (mxOf m k) D u * y) (by omega) (by omega) _ w11.heap.size (Nat.le_refl _) HS11 H6).mono ?_
                    rintro e w12 ⟨ng7, A7, n7, c7, rfl, h7, k7, hb⟩
                    rw [← HSU.out] at h7
                    have H7 := Lib.hid h7
                    have HB12 := Lib.hid (HB11.out.trans (hb.mono HB11.out.size))
                    have hS9 := HSS.out w12 HB12.out
                    refine hK.out _ _ hS9 ?_
                    clear hK K hS hb h7 HS11 H6
                    have hS := hS9
                    clear hS9
                    try simp only [List.getElem_toArray, List.getElem_cons_succ, List.getElem_cons_zero, Act.put, List.setIfInBounds_toArray, List.set_cons_zero, List.set_cons_succ]
                    refine HT.done (by kernel_rfl) ?_
                    clear hS
                    simp only [List.drop_succ_cons, List.drop_zero]
                    have HG12 := Lib.hid ((HB12.out.block wj.heap.size (blk_lt HG8.out)).trans HG8.out)
                    obtain ⟨t0, t1, _, _⟩ := two_cells HG12.out
                    have HBj12 := Lib.hid (HBj9.out.trans (HB12.out.mono HBj9.out.size))
                    have hg8w := blk_lt HG12.out
                    go_wp2_with fail
                    go_roundw
                    case rel => exact ⟨u + 1, by omega, by go_num, ng7, A7, n7, c7, by omega, heap_set2 HG12.out, int_set2 _ _ HG12.out H7.out, set2_below' HBj12.out hg8'⟩
                    case measure => simp [intOf]; omega
                  · obtain rfl : n' = u := by omega
                    obtain ⟨b9, rfl⟩ := hA9 (by omega)
                    have HFr := Lib.hid (hF.out.next hgx HBj.out)
                    have HGr : Hid (wr.heap[gc]? = some (.cells #[.int .i64 (cntK T k j)] 65 (0, 0))) := (HBj.out.block gc (blk_lt hGc.out)).trans hGc.out
                    have HOr := Lib.hid (HO.out.below HBj.out)
                    have HDr := Lib.hid (HD.out.to HBj.out (Nat.le_refl _) HBj.out.size)
                    have hcb := cntK_bd (T := T) (m := len0 xss) (k := k) (j := j) HTr.out (by rw [HTl.out]; omega) (by rw [HTl.out]; omega) (by omega)
                    have HK : Hid (cntK T k (j + 1) = cntK T k j + clipN (elOf (rowOf T k) j)) := cntK_step (by rw [HTm.out k hlt]; exact hjl)
                    have HNS : Hid (nearR (sumW (mxOf m k) D xss j n') D = elOf (rowOf T k) j) := by
                      show _ = _
                      rw [HTe.out k j hlt hjl, ← HDD.out, hl.out]; exact near_sum _ _ _ _
                    have HEY : Hid (elOf (rowOf Y k) j = clipV (elOf (rowOf T k) j)) := HYe.out k j hlt hjl
                    obtain ⟨z, hz⟩ : ∃ z, elOf (rowOf T k) j = z := ⟨_, rfl⟩
                    obtain ⟨cc, hcc⟩ : ∃ cc, cntK T k j = cc := ⟨_, rfl⟩
                    rw [hz] at HK HNS HEY
                    rw [hcc] at HGr hcb HK
                    obtain ⟨cb1, cb2⟩ := hcb
                    have hgcj := blk_lt hGc.out
                    have hj0 : (0 : Int) ≤ (j : Int) := by omega
                    have hjn : (j : Int) < (len0 xss : Int) := by omega
                    have hNr : gc ≤ wr.heap.size := Nat.le_trans hgx HFr.out.below.size
                    have HRS := Lib.hid HS.out
                    clear hz hcc hF hGc HO HD HS
                    go_upto_region 34 with (fail)
                    refine wp_region_text 10 (fun x9 => x9.cell? ⟨g, 1, none⟩ = some (.slice (some ⟨gv, 0, none⟩) pm cV) ∧ x9.cell? ⟨gv, k, none⟩ = some (.slice (some ⟨b9, 0, none⟩) (len0 xss) cap) ∧ x9.cell? ⟨wj.heap.size, 0, none⟩ = some (.bool ng) ∧ x9.cell? ⟨wj.heap.size, 1, none⟩ = some (.slice A1 n1 c1)) (by kernel_rfl) (by kernel_rfl) ?_
                    obtain ⟨wd, hwd⟩ : ∃ x : World, x = wr.drew := ⟨_, rfl⟩
                    have hbd : Below wr.heap.size wr wd := by rw [hwd]; exact (Below.refl _ _).drew
                    rw [← hwd]
                    clear hwd
                    have HFd := Lib.hid (HFr.out.next hgx hbd)
                    have HGd : Hid (wd.heap[gc]? = some (.cells #[.int .i64 cc] 65 (0, 0))) := (hbd.block gc (blk_lt HGr.out)).trans HGr.out
                    have HOd := Lib.hid (HOr.out.below hbd)
                    have HDd := Lib.hid (HDr.out.to hbd (Nat.le_refl _) hbd.size)
                    have HSd := Lib.hid (HRS.out.to hbd (Nat.le_refl _) hbd.size)
                    have HG8 := Lib.hid ((hbd.block wj.heap.size (blk_lt HG.out)).trans HG.out)
                    have hNd : gc ≤ wd.heap.size := Nat.le_trans hNr hbd.size
                    have HRW : Hid (RawAt wd wd.heap.size ng A1 n1 c1 Ad nd cd (sumW (mxOf m k) D xss j n') D) := ⟨HSd.out, HDd.out⟩
                    clear HFr HGr HOr HDr HRS HG hbd HBj HSd
                    have hS := And.intro (HFd.out.cells HR.out).1 (And.intro (HFd.out.cells HR.out).2 (And.intro (two_cells HG8.out).1 (two_cells HG8.out).2.1))
                    refine HT.take (i := 0) (oi := _) (v := ?_) rfl (by kernel_rfl) (by kernel_rfl) (by decide) (fun _ _ _ h => h) (Or.inl ⟨by rfl, ?_⟩) hS ?_
                    rotate_left
                    · intro wz
                      go_simp
                      try with_reducible rfl
                    simp only [List.getElem_toArray, List.getElem_cons_succ, List.getElem_cons_zero, Act.put, List.setIfInBounds_toArray, List.set_cons_zero, List.set_cons_succ]
                    refine HT.load (i := 1) (oi := _) (v := ?_) rfl (by kernel_rfl) (by kernel_rfl) (by decide) (fun _ _ _ h => h) (by kernel_rfl) (Or.inl ⟨by rfl, ?_⟩) hS ?_
                    rotate_left
                    · intro wz hwz
                      try dsimp only at hwz
                      go_simp
                      try with_reducible rfl
                    simp only [List.getElem_toArray, List.getElem_cons_succ, List.getElem_cons_zero, Act.put, List.setIfInBounds_toArray, List.set_cons_zero, List.set_cons_succ]
                    refine HT.take (i := 2) (oi := _) (v := ?_) rfl (by kernel_rfl) (by kernel_rfl) (by decide) (fun _ _ _ h => h) (Or.inl ⟨by rfl, ?_⟩) hS ?_
                    rotate_left
                    · intro wz
                      go_simp
                      try with_reducible rfl
                    simp only [List.getElem_toArray, List.getElem_cons_succ, List.getElem_cons_zero, Act.put, List.setIfInBounds_toArray, List.set_cons_zero, List.set_cons_succ]
                    refine HT.take (i := 3) (oi := _) (v := ?_) rfl (by kernel_rfl) (by kernel_rfl) (by decide) (fun _ _ _ h => h) (Or.inl ⟨by rfl, ?_⟩) hS ?_
                    rotate_left
                    · intro wz
                      go_simp
                      try with_reducible rfl
                    simp only [List.getElem_toArray, List.getElem_cons_succ, List.getElem_cons_zero, Act.put, List.setIfInBounds_toArray, List.set_cons_zero, List.set_cons_succ]
                    refine HT.load (i := 4) (oi := _) (v := ?_) rfl (by kernel_rfl) (by kernel_rfl) (by decide) (fun _ _ _ h => h) (by kernel_rfl) (Or.inl ⟨by rfl, ?_⟩) hS ?_
                    rotate_left
                    · intro wz hwz
                      try dsimp only at hwz
                      go_simp
                      try with_reducible rfl
                    simp only [List.getElem_toArray, List.getElem_cons_succ, List.getElem_cons_zero, Act.put, List.setIfInBounds_toArray, List.set_cons_zero, List.set_cons_succ]
                    refine HT.take (i := 5) (oi := _) (v := ?_) rfl (by kernel_rfl) (by kernel_rfl) (by decide) (fun _ _ _ h => h) (Or.inl ⟨by rfl, ?_⟩) hS ?_
                    rotate_left
                    · intro wz
                      go_simp
                      try with_reducible rfl
                    simp only [List.getElem_toArray, List.getElem_cons_succ, List.getElem_cons_zero, Act.put, List.setIfInBounds_toArray, List.set_cons_zero, List.set_cons_succ]
                    refine HT.load (i := 6) (oi := _) (v := ?_) rfl (by kernel_rfl) (by kernel_rfl) (by decide) (fun _ _ _ h => h) (by kernel_rfl) (Or.inl ⟨by rfl, ?_⟩) hS ?_
                    rotate_left
                    · intro wz hwz
                      try dsimp only at hwz
                      go_simp
                      try with_reducible rfl
                    simp only [List.getElem_toArray, List.getElem_cons_succ, List.getElem_cons_zero, Act.put, List.setIfInBounds_toArray, List.set_cons_zero, List.set_cons_succ]
                    refine HT.take (i := 7) (oi := _) (v := ?_) rfl (by kernel_rfl) (by kernel_rfl) (by decide) (fun _ _ _ h => h) (Or.inl ⟨by rfl, ?_⟩) hS ?_
                    rotate_left
                    · intro wz
                      go_simp
                      try with_reducible rfl
                    simp only [List.getElem_toArray, List.getElem_cons_succ, List.getElem_cons_zero, Act.put, List.setIfInBounds_toArray, List.set_cons_zero, List.set_cons_succ]
                    refine HT.take (i := 8) (oi := _) (v := ?_) rfl (by kernel_rfl) (by kernel_rfl) (by decide) (fun _ _ _ h => h) (Or.inl ⟨by rfl, ?_⟩) hS ?_
                    rotate_left
                    · intro wz
                      go_simp
                      try with_reducible rfl
                    simp only [List.getElem_toArray, List.getElem_cons_succ, List.getElem_cons_zero, Act.put, List.setIfInBounds_toArray, List.set_cons_zero, List.set_cons_succ]
                    refine HT.one (i := 9) (o := _) rfl (by kernel_rfl) (by decide) (by rfl) ?_
                    intro K hK
                    go_simp
                    refine (CNEAR_any cc gc cb1 (by omega) ng A1 Ad n1 c1 nd cd (sumW (mxOf m k) D xss j n') D HDP.out (by omega) (by omega) _ HGd wd.heap.size (Nat.le_refl _) HRW).mono ?_
                    rintro e w5 ⟨rfl, hg5, hgr5⟩
                    rw [HNS.out] at hg5 ⊢
                    rw [← HK.out] at hg5
                    have hF5 := Lib.hid (FillI.clip HFd.out hNd HGd.out (Nat.le_refl _) hgne hgr5)
                    have HG5 := Lib.hid hg5
                    have HG85 := Lib.hid ((hgr5.block wj.heap.size (blk_lt HG8.out) (fun e => by injection e with e; omega)).trans HG8.out)
                    have HO5 := Lib.hid (HOd.out.grown hgr5 (clip_ty HGd.out) (by decide) (by decide))
                    have HD5 := Lib.hid (NumAt.grown' HDd.out hgr5 (clip_ty HGd.out) (by decide))
                    have hS9 := And.intro (hF5.out.cells HR.out).1 (And.intro (hF5.out.cells HR.out).2 (And.intro (two_cells HG85.out).1 (two_cells HG85.out).2.1))
                    refine hK.out _ _ hS9 ?_
                    clear hK K hS hg5 hgr5 HFd HGd HOd HDd HG8 HRW
                    have hS := hS9
                    clear hS9
                    try simp only [List.getElem_toArray, List.getElem_cons_succ, List.getElem_cons_zero, Act.put, List.setIfInBounds_toArray, List.set_cons_zero, List.set_cons_succ]
                    refine HT.done (by kernel_rfl) ?_
                    clear hS
                    simp only [List.drop_succ_cons, List.drop_zero]
                    obtain ⟨⟨vo, hvo⟩, hfz⟩ := hF5.out.elem HR.out hjl
                    obtain ⟨y, hy⟩ : ∃ y, clipV z = y := ⟨_, rfl⟩
                    rw [hy] at HEY ⊢
                    clear hy
                    have HI6 := Lib.hid (hF5.out.put HR.out hkY.out (HYm.out k hkY.out) hjl HEY.out)
                    have HG6 := Lib.hid (FillI.clipblk hF5.out HG5.out HR.out j (.int .i64 y))
                    have HO6 := Lib.hid (HO5.out.grown (grown_set w5 b9 j (.int .i64 y)) (hF5.out.ty HR.out) (by decide) (by decide))
                    have HD6 := Lib.hid (NumAt.grown' HD5.out (grown_set w5 b9 j (.int .i64 y)) (hF5.out.ty HR.out) (by decide))
                    clear hF5 HG5 HO5 HD5 HG85
                    go_wp2_with fail
                    go_roundw
                    case rel => exact ⟨j + 1, by omega, by go_num, HI6.out, HG6.out, HO6.out, HD6.out⟩
                    case measure => simp [intOf]; omega
              · obtain rfl : j = len0 xss := by omega
                have HF9 : Hid (FillI gc X g (.int .i64 r) gv pm cV rows wj (partK Y (len0 xss) (k + 1) 0)) := by
                  have := hF.out; rw [partK_next HYm.out] at this; exact this
                have HG9 : Hid (wj.heap[gc]? = some (.cells #[.int .i64 (cntK T (k + 1) 0)] 65 (0, 0))) := by
                  have := hGc.out; rw [cntK_next (by rw [HTl.out]; exact hlt) (HTm.out k hlt)] at this; exact this
                go_wp2_with fail
                go_roundw
                case rel => exact ⟨k + 1, by omega, by go_num, HF9.out, HG9.out⟩
                case measure => simp [intOf]; omega
          · obtain rfl : k = pm := by omega
            have hI9 := hF.out
            rw [partK_end HY.out] at hI9
            have HI9 := Lib.hid hI9
            rw [cntK_all HTl.out] at hGc
            obtain ⟨cc, hcc9⟩ : ∃ cc, stS clipU 0 T = cc := ⟨_, rfl⟩
            have HCC := Lib.hid hcc9
            rw [hcc9] at hGc
            obtain ⟨hcg0, hcg1, _, _⟩ := two_cells hI9.box
            have hcgc := cell_of_one hGc.out
            have HR9 := Lib.hid ((hI9.below.block g2 hg29).trans HRX.out)
            obtain ⟨hcr0, hcr1, hfr0, hfr1⟩ := two_cells HR9.out
            have hne1 : ¬ gc = g2 := by omega
            have hne2 : ¬ g2 = gc := by omega
            have hne3 : ¬ g = g2 := by omega
            have hne4 : ¬ g2 = g := by omega
            clear hcc9 hI9 hF
            go_wp2_with fail
            go_region
            go_wp2_with fail
            have HS := two_set wk g2 _ _ (.int .i64 r) (.slice (some ⟨gv, 0, none⟩) k cV) hcr0 hcr1
            refine fin_snd3 rfl rfl rfl HS.1 HS.2 ?_
            rw [HCC.out]
            have hbw9 : Below w.heap.size w wk := HBX9.out.trans (HI9.out.below.mono hwgc)
            refine ⟨_, by rfl, ⟨rows, ?_⟩, (set2_below hbw9 HG2.out).drew⟩
            exact (((HI9.out.own.set_below (p := ⟨g2, 0, none⟩) (by simp; omega) _).set_below (p := ⟨g2, 1, none⟩) (by simp; omega) _).drew).base hwgc
end Go.Proofs.YtnhmhjhfoonakaaGreatDoor

/- Route, the sound's: all ways. -/
set_option linter.unusedSimpArgs false
set_option linter.unusedVariables false
namespace Go.Proofs.YtnhmhjhfoonakaaGreatDoor
open Go.RowKit Go.Dw
theorem ROUTE_any (r : Int) (A AM : Option Addr) (n c pm cm : Nat) (xss : List (List Int)) (m : List (List Rx)) (w : World) (B : Nat) (hB : B ≤ w.heap.size) (hh : RowsAt w B A n xss) (HM : MatAt w B AM pm m) :
    Calls Tryz.prog 10 #[.agg #[.int .i64 r, .slice A n c], .slice AM pm cm] w (OutS3 w (rouS r xss m).1 (rouS r xss m).2.1 (rouS r xss m).2.2.1 (rouS r xss m).2.2.2) := by
  unfold rouS
  by_cases hc : chkS r xss = 0
  · rw [if_neg (by simp [hc])]
    have hok := chkS_ok hc
    have hn : 0 < n := by have := hok.some; have := hh.1; omega
    obtain ⟨ad, rfl⟩ := hh.addr hn
    have hl := hh.1
    have hm := HM.1
    by_cases hd : m.length < 1 ∨ 16 < m.length
    · rw [if_pos hd]; exact ROUTE_few r (some ad) AM n c pm cm xss hc (by omega) w B hB hh
    · rw [if_neg hd, hl]
      by_cases he : chkM n m = 0
      · rw [if_neg (by simp [he])]; exact ROUTE_ok r ad AM n c pm cm xss m hc hok (by omega) (by omega) he w B hB hh HM
      · rw [if_pos he]; exact ROUTE_mat r (some ad) AM n c pm cm xss m (chkM n m) he hc (by omega) (by omega) rfl w B hB hh HM
  · rw [if_pos hc]; exact ROUTE_chk r A AM n c pm cm xss hc w B hB hh
end Go.Proofs.YtnhmhjhfoonakaaGreatDoor
