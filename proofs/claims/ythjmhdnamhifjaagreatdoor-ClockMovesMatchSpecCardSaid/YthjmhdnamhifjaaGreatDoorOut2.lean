/- Outward, of both sides. -/
import Derived.Test.YthjmhdnamhifjaaGreatDoorOut
set_option linter.unusedSimpArgs false
set_option linter.unusedVariables false
namespace Go.Proofs.YthjmhdnamhifjaaGreatDoor
open Go.RowKit Go.Dw Go.Joins
def outK (l : List Pr) (frm tr : Int) : Nat → Option (List Pr)
  | 0 => some []
  | k + 1 => (outK l frm tr k).bind fun acc => if (convS (prOf l k).1 frm tr 1).2 ≠ 0 ∨ (convS (prOf l k).2 frm tr 3).2 ≠ 0 then none else some (appS acc ((convS (prOf l k).1 frm tr 1).1, (convS (prOf l k).2 frm tr 3).1))
/-- Outward -/
def outS (l : List Pr) (frm tr : Int) : List Pr × Int := if chkSp l ≠ 0 then ([], chkSp l) else if okRate frm = false ∨ okRate tr = false then ([], 1) else match outK l frm tr l.length with | none => ([], 1) | some acc => (acc, 0)
theorem outK_none {l : List Pr} {frm tr : Int} {k : Nat} (h : outK l frm tr k = none) : ∀ d : Nat, outK l frm tr (k + d) = none
  | 0 => h
  | d + 1 => by
    show (outK l frm tr (k + d)).bind _ = none
    rw [outK_none h d]; rfl
theorem outK_len {l : List Pr} {frm tr : Int} : ∀ {k : Nat} {acc : List Pr}, outK l frm tr k = some acc → acc.length ≤ k
  | 0, acc, h => by injection h with h; subst h; exact Nat.le_refl _
  | k + 1, acc, h => by
    change (outK l frm tr k).bind _ = some acc at h
    cases h1 : outK l frm tr k with
    | none => rw [h1] at h; cases h
    | some a =>
      rw [h1] at h
      have ih := outK_len h1
      change (if _ then none else some _) = some acc at h
      split at h
      · cases h
      · injection h with h
        subst h
        exact Nat.le_trans (appS_len _ _) (by omega)
theorem outK_step {l : List Pr} {frm tr x y a f b g : Int} {k : Nat} {acc : List Pr} (h : outK l frm tr k = some acc) (hp : prOf l k = (x, y)) (ha : convS x frm tr 1 = (a, f)) (hb : convS y frm tr 3 = (b, g)) :
    outK l frm tr (k + 1) = if f ≠ 0 ∨ g ≠ 0 then none else some (appS acc (a, b)) := by
  show (outK l frm tr k).bind _ = _
  rw [h, Option.bind_some, hp]
  dsimp only
  rw [ha, hb]
theorem conv_01 (n frm tr way : Int) (hw : okWay way = true) : (convS n frm tr way).2 = 0 ∨ (convS n frm tr way).2 = 1 := by
  unfold convS
  split
  · exact .inr rfl
  · rw [if_neg (by rw [hw]; simp)]
    unfold posI
    split
    · exact .inl rfl
    · exact .inr rfl
theorem outS_none {l : List Pr} {frm tr : Int} {k n : Nat} (hc : chkSp l = 0) (h1 : okRate frm = true) (h2 : okRate tr = true) (hl : l.length = n) (hk : k < n) (h : outK l frm tr (k + 1) = none) : outS l frm tr = ([], 1) := by
  unfold outS
  rw [if_neg (by rw [hc]; simp), if_neg (by rw [h1, h2]; simp)]
  have := outK_none h (n - (k + 1))
  rw [show k + 1 + (n - (k + 1)) = l.length by omega] at this
  rw [this]
theorem outS_some {l acc : List Pr} {frm tr : Int} {n : Nat} (hc : chkSp l = 0) (h1 : okRate frm = true) (h2 : okRate tr = true) (hl : l.length = n) (h : outK l frm tr n = some acc) : outS l frm tr = (acc, 0) := by
  unfold outS
  rw [if_neg (by rw [hc]; simp), if_neg (by rw [h1, h2]; simp), hl, h]
set_option maxRecDepth 100000 in
set_option maxHeartbeats 8000000 in
theorem OUTWARD_any (A : Option Addr) (n c : Nat) (l : List Pr) (frm tr : Int) (w : World) (B : Nat) (hB : B ≤ w.heap.size) (hh : Hid (PrsAt w B A n l)) :
    Calls Tryz.prog 11 #[.slice A n c, .int .i64 frm, .int .i64 tr] w (OutT2 38 w (outS l frm tr)) := by
  have hl := Lib.hid hh.out.1
  obtain ⟨x, hx⟩ : ∃ x, chkSp l = x := ⟨_, rfl⟩
  have HX := Lib.hid hx
  obtain ⟨bf, HF⟩ : ∃ q, Hid ((decide (1 ≤ frm) && decide (frm ≤ 1000000)) = q) := ⟨_, rfl⟩
  obtain ⟨bt, HR⟩ : ∃ q, Hid ((decide (1 ≤ tr) && decide (tr ≤ 1000000)) = q) := ⟨_, rfl⟩
  have HFa : Hid (okRate frm = bf) := HF.out
  have HRa : Hid (okRate tr = bt) := HR.out
  clear hx
  by_cases h0 : x = 0
  rotate_left
  · have hq : ((x : Int) != 0) = true := by simpa using h0
    have HV : Hid (outS l frm tr = ([], x)) := by show _ = _; unfold outS; rw [HX.out, if_pos h0]
    go_enter Tryz.func11, Tryz.ntmps11
    go_wp2_with (first
      | (go_at_call 38; refine (CCHECKSPANS_any A n c l _ B hB hh).mono ?_; rintro e w1 ⟨rfl, hb1⟩; rw [HX.out])
      | (go_at_call 42; (with_reducible refine (ISRATE_any frm _).mono ?_); rintro e w2 ⟨rfl, rfl⟩; rw [HF.out])
      | (go_at_call 42; (with_reducible refine (ISRATE_any tr _).mono ?_); rintro e w2 ⟨rfl, rfl⟩; rw [HR.out]))
    refine bodyPost_ret (v := .tuple #[.slice none 0 0, .int .i64 x]) (by simp [results, Tryz.results11, go_sem]) rfl ?_
    unfold OutT2
    rw [HV.out]
    exact ⟨_, rfl, OwnPrs.nil _ _ _, hb1⟩
  subst h0
  have hn1 : n ≤ 1000 := by rw [← hl.out]; exact chkSp_few HX.out
  cases bf with
  | false =>
    have HV : Hid (outS l frm tr = ([], 1)) := by show _ = _; unfold outS; rw [HX.out, if_neg (by simp), if_pos (by rw [HFa.out, HRa.out]; simp)]
    go_enter Tryz.func11, Tryz.ntmps11
    go_wp2_with (first
      | (go_at_call 38; refine (CCHECKSPANS_any A n c l _ B hB hh).mono ?_; rintro e w1 ⟨rfl, hb1⟩; rw [HX.out])
      | (go_at_call 42; (with_reducible refine (ISRATE_any frm _).mono ?_); rintro e w2 ⟨rfl, rfl⟩; rw [HF.out])
      | (go_at_call 42; (with_reducible refine (ISRATE_any tr _).mono ?_); rintro e w2 ⟨rfl, rfl⟩; rw [HR.out]))
    refine bodyPost_ret (v := .tuple #[.slice none 0 0, .int .i64 1]) (by simp [results, Tryz.results11, go_sem]) rfl ?_
    unfold OutT2
    rw [HV.out]
    exact ⟨_, rfl, OwnPrs.nil _ _ _, hb1⟩
  | true =>
  cases bt with
  | false =>
    have HV : Hid (outS l frm tr = ([], 1)) := by show _ = _; unfold outS; rw [HX.out, if_neg (by simp), if_pos (by rw [HFa.out, HRa.out]; simp)]
    go_enter Tryz.func11, Tryz.ntmps11
    go_wp2_with (first
      | (go_at_call 38; refine (CCHECKSPANS_any A n c l _ B hB hh).mono ?_; rintro e w1 ⟨rfl, hb1⟩; rw [HX.out])
      | (go_at_call 42; (with_reducible refine (ISRATE_any frm _).mono ?_); rintro e w2 ⟨rfl, rfl⟩; rw [HF.out])
      | (go_at_call 42; (with_reducible refine (ISRATE_any tr _).mono ?_); rintro e w2 ⟨rfl, rfl⟩; rw [HR.out]))
    refine bodyPost_ret (v := .tuple #[.slice none 0 0, .int .i64 1]) (by simp [results, Tryz.results11, go_sem]) rfl ?_
    unfold OutT2
    rw [HV.out]
    exact ⟨_, rfl, OwnPrs.nil _ _ _, hb1⟩
  | true =>
  go_enter Tryz.func11, Tryz.ntmps11
  go_wp2_with (first
    | (go_at_call 38; refine (CCHECKSPANS_any A n c l _ B hB hh).mono ?_; rintro e w1 ⟨rfl, hb1⟩; rw [HX.out])
    | (go_at_call 42; (with_reducible refine (ISRATE_any frm _).mono ?_); rintro e w2 ⟨rfl, rfl⟩; rw [HF.out])
    | (go_at_call 42; (with_reducible refine (ISRATE_any tr _).mono ?_); rintro e w2 ⟨rfl, rfl⟩; rw [HR.out]))
  have HB1 := Lib.hid hb1
  clear hb1
  go_loopw [9, 30] (fun v i wr => ∃ (k : Nat) (acc : List Pr), k ≤ n ∧ i = .int .i64 k ∧ Hid (outK l frm tr k = some acc) ∧ Hid (OwnPrs 38 wr w.heap.size v acc) ∧ Hid (Below w.heap.size w wr)) (fun _ i _ => n - (intOf i).toNat)
  case atStart => exact ⟨0, [], Nat.zero_le _, rfl, rfl, OwnPrs.nil _ _ _, HB1⟩
  case round =>
    obtain ⟨k, acc, hk, rfl, HK, hO, hb⟩ := hrel
    have hsz : w.heap.size ≤ wr.heap.size := hb.out.size
    have hal := outK_len HK.out
    obtain ⟨A5, c5, rfl, hc5, hc6⟩ := hO.out.len
    by_cases hlt : k < n
    · obtain ⟨bA, oA, rfl, hbA, k1, k2⟩ := (hh.out.below (hb.out.mono hB) (Nat.le_refl _)).2 k hlt
      have hbAw : bA < wr.heap.size := by omega
      obtain ⟨p, hp⟩ : ∃ p, prOf l k = p := ⟨_, rfl⟩
      obtain ⟨x, y⟩ := p
      have HPP := Lib.hid hp
      rw [hp] at k1 k2
      dsimp only at k1 k2
      have hk0 : (0 : Int) ≤ (k : Int) := by omega
      have hkn : (k : Int) < (n : Int) := by omega
      obtain ⟨W, gx, hW, hgx, HHW, HBW, _⟩ := cell_new0 wr 38 #[.int .i64 x, .int .i64 y]
      obtain ⟨b0, b1, _, _⟩ := pr_cells HHW.out
      have hgw := blk_lt HHW.out
      go_upto_region 10 with (fail)
      rw [← hW, ← hgx]
      clear hW hgx hp
      obtain ⟨⟨a, f⟩, ha⟩ : ∃ p, convS x frm tr 1 = p := ⟨_, rfl⟩
      obtain ⟨⟨b, g⟩, hbb⟩ : ∃ p, convS y frm tr 3 = p := ⟨_, rfl⟩
      have HA := Lib.hid ha
      have HBB := Lib.hid hbb
      have hf01 := conv_01 x frm tr 1 (by decide)
      have hg01 := conv_01 y frm tr 3 (by decide)
      rw [ha] at hf01
      rw [hbb] at hg01
      dsimp only at hf01 hg01
      have HST := Lib.hid (outK_step HK.out HPP.out ha hbb)
      clear ha hbb
      go_wp2_with (fail)
      refine (CONVERT_any x frm tr 1 _).mono ?_
      rintro e w1 ⟨rfl, hb1⟩
      rw [HA.out]
      have HBC1 := Lib.hid (HBW.out.trans (hb1.mono HBW.out.size))
      have b1' := (hb1.cell (p := ⟨gx, 1, none⟩) hgw).trans b1
      dsimp only
      clear hb1 b0 b1
      by_cases hf : f = 0
      rotate_left
      · have hf1 : f = 1 := by omega
        have hfb : (f != 0) = true := by simpa using hf
        have HV : Hid (outS l frm tr = ([], 1)) := outS_none HX.out HFa.out HRa.out hl.out hlt (by rw [HST.out, if_pos (.inl hf)])
        subst hf1
        clear hf hf01 hg01
        go_wp2_with (fail)
        refine bodyPost_ret (v := .tuple #[.slice none 0 0, .int .i64 1]) (by simp [results, Tryz.results11, go_sem]) rfl ?_
        unfold OutT2
        rw [HV.out]
        exact ⟨_, rfl, OwnPrs.nil _ _ _, hb.out.trans (HBC1.out.mono hsz)⟩
      subst hf
      go_wp2_with (fail)
      refine (CONVERT_any y frm tr 3 _).mono ?_
      rintro e w2 ⟨rfl, hb2⟩
      rw [HBB.out]
      have HBC2 := Lib.hid (HBC1.out.trans (hb2.mono HBC1.out.size))
      dsimp only
      clear hb2 b1'
      by_cases hg : g = 0
      rotate_left
      · have hg1 : g = 1 := by omega
        have hgb : (g != 0) = true := by simpa using hg
        have HV : Hid (outS l frm tr = ([], 1)) := outS_none HX.out HFa.out HRa.out hl.out hlt (by rw [HST.out, if_pos (.inr hg)])
        subst hg1
        clear hg hf01 hg01
        go_wp2_with (fail)
        refine bodyPost_ret (v := .tuple #[.slice none 0 0, .int .i64 1]) (by simp [results, Tryz.results11, go_sem]) rfl ?_
        unfold OutT2
        rw [HV.out]
        exact ⟨_, rfl, OwnPrs.nil _ _ _, hb.out.trans (HBC2.out.mono hsz)⟩
      subst hg
      have HN : Hid (outK l frm tr (k + 1) = some (appS acc (a, b))) := by show _ = _; rw [HST.out, if_neg (by simp)]
      have hO2 := Lib.hid (hO.out.below HBC2.out)
      have HB2 := Lib.hid (hb.out.trans (HBC2.out.mono hsz))
      clear hf01 hg01 HST
      go_wp2_with (fail)
      refine (SAPPEND_own A5 acc.length c5 acc a b _ w.heap.size HB2.out.size (by omega) hO2).mono ?_
      rintro e w3 ⟨v3, rfl, ho3, hb3⟩
      have HO3 := Lib.hid ho3
      have HB3 := Lib.hid (HB2.out.trans hb3)
      clear ho3 hb3
      go_wp2_with (fail)
      go_roundw
      case rel => exact ⟨k + 1, _, by omega, by go_num, HN, HO3, HB3⟩
      case measure => simp [intOf]; omega
    · obtain rfl : k = n := by omega
      have HV : Hid (outS l frm tr = (acc, 0)) := outS_some HX.out HFa.out HRa.out hl.out HK.out
      go_wp2_with fail
      refine bodyPost_ret (v := .tuple #[.slice A5 acc.length c5, .int .i64 0]) (by simp [results, Tryz.results11, go_sem]) rfl ?_
      unfold OutT2
      rw [HV.out]
      exact ⟨_, rfl, hO.out, hb.out⟩
set_option maxRecDepth 100000 in
set_option maxHeartbeats 8000000 in
theorem ROUTWARD_any (A : Option Addr) (n c : Nat) (l : List Pr) (frm tr : Int) (w : World) (ht9 : Hid (TabAt w)) (B : Nat) (hB : B ≤ w.heap.size) (hh : Hid (PrsAt w B A n l)) :
    Calls Tryz.prog 12 #[.slice A n c, .int .i64 frm, .int .i64 tr] w (OutT2 38 w (outS l frm tr)) := by
  have hl := Lib.hid hh.out.1
  obtain ⟨x, hx⟩ : ∃ x, chkSp l = x := ⟨_, rfl⟩
  have HX := Lib.hid hx
  obtain ⟨bf, HF⟩ : ∃ q, Hid ((decide (1 ≤ frm) && decide (frm ≤ 1000000)) = q) := ⟨_, rfl⟩
  obtain ⟨bt, HR⟩ : ∃ q, Hid ((decide (1 ≤ tr) && decide (tr ≤ 1000000)) = q) := ⟨_, rfl⟩
  have HFa : Hid (okRate frm = bf) := HF.out
  have HRa : Hid (okRate tr = bt) := HR.out
  clear hx
  by_cases h0 : x = 0
  rotate_left
  · have hq : ((x : Int) != 0) = true := by simpa using h0
    have HV : Hid (outS l frm tr = ([], x)) := by show _ = _; unfold outS; rw [HX.out, if_pos h0]
    go_enter Tryz.func12, Tryz.ntmps12
    go_wp2_with (first
      | (go_at_call 40; refine (RCHECKSPANS_any A n c l _ B hB hh).mono ?_; rintro e w1 ⟨rfl, hb1⟩; rw [HX.out])
      | (go_at_call 45; (with_reducible refine (RISRATE_any frm _).mono ?_); rintro e w2 ⟨rfl, rfl⟩; rw [HF.out])
      | (go_at_call 45; (with_reducible refine (RISRATE_any tr _).mono ?_); rintro e w2 ⟨rfl, rfl⟩; rw [HR.out]))
    refine bodyPost_ret (v := .tuple #[.slice none 0 0, .int .i64 x]) (by simp [results, Tryz.results12, go_sem]) rfl ?_
    unfold OutT2
    rw [HV.out]
    exact ⟨_, rfl, OwnPrs.nil _ _ _, hb1⟩
  subst h0
  have hn1 : n ≤ 1000 := by rw [← hl.out]; exact chkSp_few HX.out
  cases bf with
  | false =>
    have HV : Hid (outS l frm tr = ([], 1)) := by show _ = _; unfold outS; rw [HX.out, if_neg (by simp), if_pos (by rw [HFa.out, HRa.out]; simp)]
    go_enter Tryz.func12, Tryz.ntmps12
    go_wp2_with (first
      | (go_at_call 40; refine (RCHECKSPANS_any A n c l _ B hB hh).mono ?_; rintro e w1 ⟨rfl, hb1⟩; rw [HX.out])
      | (go_at_call 45; (with_reducible refine (RISRATE_any frm _).mono ?_); rintro e w2 ⟨rfl, rfl⟩; rw [HF.out])
      | (go_at_call 45; (with_reducible refine (RISRATE_any tr _).mono ?_); rintro e w2 ⟨rfl, rfl⟩; rw [HR.out]))
    refine bodyPost_ret (v := .tuple #[.slice none 0 0, .int .i64 1]) (by simp [results, Tryz.results12, go_sem]) rfl ?_
    unfold OutT2
    rw [HV.out]
    exact ⟨_, rfl, OwnPrs.nil _ _ _, hb1⟩
  | true =>
  cases bt with
  | false =>
    have HV : Hid (outS l frm tr = ([], 1)) := by show _ = _; unfold outS; rw [HX.out, if_neg (by simp), if_pos (by rw [HFa.out, HRa.out]; simp)]
    go_enter Tryz.func12, Tryz.ntmps12
    go_wp2_with (first
      | (go_at_call 40; refine (RCHECKSPANS_any A n c l _ B hB hh).mono ?_; rintro e w1 ⟨rfl, hb1⟩; rw [HX.out])
      | (go_at_call 45; (with_reducible refine (RISRATE_any frm _).mono ?_); rintro e w2 ⟨rfl, rfl⟩; rw [HF.out])
      | (go_at_call 45; (with_reducible refine (RISRATE_any tr _).mono ?_); rintro e w2 ⟨rfl, rfl⟩; rw [HR.out]))
    refine bodyPost_ret (v := .tuple #[.slice none 0 0, .int .i64 1]) (by simp [results, Tryz.results12, go_sem]) rfl ?_
    unfold OutT2
    rw [HV.out]
    exact ⟨_, rfl, OwnPrs.nil _ _ _, hb1⟩
  | true =>
  go_enter Tryz.func12, Tryz.ntmps12
  go_wp2_with (first
    | (go_at_call 40; refine (RCHECKSPANS_any A n c l _ B hB hh).mono ?_; rintro e w1 ⟨rfl, hb1⟩; rw [HX.out])
    | (go_at_call 45; (with_reducible refine (RISRATE_any frm _).mono ?_); rintro e w2 ⟨rfl, rfl⟩; rw [HF.out])
    | (go_at_call 45; (with_reducible refine (RISRATE_any tr _).mono ?_); rintro e w2 ⟨rfl, rfl⟩; rw [HR.out]))
  have HB1 := Lib.hid hb1
  clear hb1
  go_loopw [9, 10] (fun v i wr => ∃ (k : Nat) (acc : List Pr), k ≤ n ∧ i = .int .i64 k ∧ Hid (outK l frm tr k = some acc) ∧ Hid (OwnPrs 38 wr w.heap.size v acc) ∧ Hid (Below w.heap.size w wr)) (fun _ i _ => n - (intOf i).toNat)
  case atStart => exact ⟨0, [], Nat.zero_le _, rfl, rfl, OwnPrs.nil _ _ _, HB1⟩
  case round =>
    obtain ⟨k, acc, hk, rfl, HK, hO, hb⟩ := hrel
    have hsz : w.heap.size ≤ wr.heap.size := hb.out.size
    have hal := outK_len HK.out
    have HT := Lib.hid (ht9.out.below hb.out)
    obtain ⟨A5, c5, rfl, hc5, hc6⟩ := hO.out.len
    by_cases hlt : k < n
    · obtain ⟨bA, oA, rfl, hbA, k1, k2⟩ := (hh.out.below (hb.out.mono hB) (Nat.le_refl _)).2 k hlt
      have hbAw : bA < wr.heap.size := by omega
      obtain ⟨p, hp⟩ : ∃ p, prOf l k = p := ⟨_, rfl⟩
      obtain ⟨x, y⟩ := p
      have HPP := Lib.hid hp
      rw [hp] at k1 k2
      dsimp only at k1 k2
      have hk0 : (0 : Int) ≤ (k : Int) := by omega
      have hkn : (k : Int) < (n : Int) := by omega
      obtain ⟨⟨a, f⟩, ha⟩ : ∃ p, convS x frm tr 1 = p := ⟨_, rfl⟩
      obtain ⟨⟨b, g⟩, hbb⟩ : ∃ p, convS y frm tr 3 = p := ⟨_, rfl⟩
      have HA := Lib.hid ha
      have HBB := Lib.hid hbb
      have HST := Lib.hid (outK_step HK.out HPP.out ha hbb)
      clear ha hbb hp
      go_wp2_with (fail)
      refine (RCONVERT_any x frm tr 1 _ HT).mono ?_
      rintro e w1 ⟨rfl, hb1⟩
      rw [HA.out]
      have HBC1 := Lib.hid hb1
      have k2' := (hb1.cell (p := ⟨bA, oA + k * 2 + 1, none⟩) hbAw).trans k2
      have hbA1 : bA < w1.heap.size := Nat.lt_of_lt_of_le hbAw hb1.size
      dsimp only
      clear hb1 k1 k2
      go_wp2_with (fail)
      refine (RCONVERT_any y frm tr 3 _ (Lib.hid (HT.out.below HBC1.out))).mono ?_
      rintro e w2 ⟨rfl, hb2⟩
      rw [HBB.out]
      have HBC2 := Lib.hid (HBC1.out.trans (hb2.mono HBC1.out.size))
      have HB2 := Lib.hid (hb.out.trans (HBC2.out.mono hsz))
      have hO2 := Lib.hid (hO.out.below HBC2.out)
      have hs2 := HB2.out.size
      dsimp only
      clear hb2 k2'
      by_cases hf : f = 0
      rotate_left
      · have hfb : (f != 0) = true := by simpa using hf
        have hbad : f ≠ 0 ∨ g ≠ 0 := .inl hf
        clear hf
        have HV : Hid (outS l frm tr = ([], 1)) := outS_none HX.out HFa.out HRa.out hl.out hlt (by rw [HST.out, if_pos hbad])
        go_wp2_with (fail)
        refine bodyPost_ret (v := .tuple #[.slice none 0 0, .int .i64 1]) (by simp [results, Tryz.results12, go_sem]) rfl ?_
        unfold OutT2
        rw [HV.out]
        exact ⟨_, rfl, OwnPrs.nil _ _ _, HB2.out⟩
      subst hf
      by_cases hg : g = 0
      rotate_left
      · have hgb : (g != 0) = true := by simpa using hg
        have hbad : (0 : Int) ≠ 0 ∨ g ≠ 0 := .inr hg
        clear hg
        have HV : Hid (outS l frm tr = ([], 1)) := outS_none HX.out HFa.out HRa.out hl.out hlt (by rw [HST.out, if_pos hbad])
        go_wp2_with (fail)
        refine bodyPost_ret (v := .tuple #[.slice none 0 0, .int .i64 1]) (by simp [results, Tryz.results12, go_sem]) rfl ?_
        unfold OutT2
        rw [HV.out]
        exact ⟨_, rfl, OwnPrs.nil _ _ _, HB2.out⟩
      subst hg
      have HN : Hid (outK l frm tr (k + 1) = some (appS acc (a, b))) := by show _ = _; rw [HST.out, if_neg (by simp)]
      clear HST
      rcases Nat.eq_zero_or_pos acc.length with h0 | hpos
      · have hnil : acc = [] := List.eq_nil_of_length_eq_zero h0
        subst hnil
        have HV : Hid (appS ([] : List Pr) (a, b) = [] ++ [(a, b)]) := appS_new (fun m hm => by simp at hm)
        rw [HV.out] at HN
        dsimp only [List.length_nil] at hO2 ⊢
        go_wp2_with (with_reducible refine wpList_push_span rfl (.tmp 90) (.tmp 94) rfl w.heap.size A5 0 c5 [] a b w2.heap.size rfl rfl rfl hO2.out (by omega) hs2 ?_; intro g5 cap5 w5 hown5 hb5)
        have HO5 := Lib.hid hown5
        have HB5 := Lib.hid (HB2.out.trans hb5)
        clear hown5 hb5
        go_roundw
        case rel => exact ⟨k + 1, _, by omega, by go_num, HN, HO5, HB5⟩
        case measure => simp [intOf]; omega
      · obtain ⟨m, hm⟩ : ∃ m, acc.length = m + 1 := ⟨acc.length - 1, by omega⟩
        have HM := Lib.hid hm
        rw [hm] at hO2 hc5 ⊢
        obtain ⟨g9, cap, hv, hg1, hg2, _, _, hcl⟩ := hO2.out.slot hpos
        injection hv with e1 e2 e3
        subst e1 e3
        obtain ⟨⟨s1, s2⟩, f1, f2⟩ := hcl m (by omega)
        obtain ⟨z, hz⟩ : ∃ z, prOf acc m = z := ⟨_, rfl⟩
        obtain ⟨z1, z2⟩ := z
        have HZ := Lib.hid hz
        rw [hz] at s1 s2
        dsimp only at s1 s2
        have hm0 : (0 : Int) ≤ (m : Int) := by omega
        have hmn : (m : Int) < (m : Int) + 1 := by omega
        have hmp : (0 : Int) < (m : Int) + 1 := by omega
        have hmw : IntKind.i64.wrap (m : Int) = (m : Int) := IntWalk.i64_in _ (by omega)
        have hm9 : m + 1 ≤ 5864062014634 := by omega
        have HG1 := Lib.hid hg1
        have HAL := Lib.hid hal
        clear hcl hz e2 hal hm hpos
        by_cases hle : a ≤ z2
        · have HV := Lib.hid (appS_set (y := b) HM.out HZ.out hle)
          have HO9 := Lib.hid (hO2.out.set1 (k := m) (by rw [HM.out]; omega) (max z2 b))
          have HB9 := Lib.hid (HB2.out.setCell (p := ⟨g9, m * 2 + 1, none⟩) HG1.out (.int .i64 (max z2 b)))
          rw [HV.out] at HN
          clear HV
          go_wp2_with (fail)
          go_roundw
          case rel => exact ⟨k + 1, _, by omega, by go_num, HN, HO9, HB9⟩
          case measure => simp [intOf]; omega
        · have hlf : decide (a ≤ z2) = false := decide_eq_false hle
          have HV : Hid (appS acc (a, b) = acc ++ [(a, b)]) := appS_new (fun m' hm' => by
            obtain rfl : m' = m := by have := HM.out; omega
            rw [HZ.out]; exact hle)
          rw [HV.out] at HN
          obtain ⟨A, hA⟩ : ∃ A : Option Addr, A = some ⟨g9, 0, none⟩ := ⟨_, rfl⟩
          have hO3 : Hid (OwnPrs 38 w2 w.heap.size (.slice A (m + 1) c5) acc) := by rw [hA]; exact hO2
          clear HV hle
          go_wp2_with (with_reducible refine wpList_push_span rfl (.tmp 90) (.tmp 94) rfl w.heap.size (some ⟨g9, 0, none⟩) (m + 1) c5 acc a b w2.heap.size rfl rfl rfl hO2.out hm9 hs2 ?_; intro g5 cap5 w5 hown5 hb5)
          have HO5 := Lib.hid hown5
          have HB5 := Lib.hid (HB2.out.trans hb5)
          clear hown5 hb5
          go_roundw
          case rel => exact ⟨k + 1, _, by omega, by go_num, HN, HO5, HB5⟩
          case measure => simp [intOf]; omega
    · obtain rfl : k = n := by omega
      have HV : Hid (outS l frm tr = (acc, 0)) := outS_some HX.out HFa.out HRa.out hl.out HK.out
      go_wp2_with fail
      refine bodyPost_ret (v := .tuple #[.slice A5 acc.length c5, .int .i64 0]) (by simp [results, Tryz.results12, go_sem]) rfl ?_
      unfold OutT2
      rw [HV.out]
      exact ⟨_, rfl, hO.out, hb.out⟩
end Go.Proofs.YthjmhdnamhifjaaGreatDoor
