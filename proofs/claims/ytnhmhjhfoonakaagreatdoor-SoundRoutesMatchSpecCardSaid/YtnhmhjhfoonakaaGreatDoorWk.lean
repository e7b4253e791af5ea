/- Route, the document's: the ways out. -/
import Derived.Test.YtnhmhjhfoonakaaGreatDoorWi
import Derived.Test.YtnhmhjhfoonakaaGreatDoorGar
import Derived.Deep.QuietTactic
import Derived.BigQuiet
import Derived.Test.YtnhmhjhfoonakaaGreatDoorYs
import Derived.Test.YtnhmhjhfoonakaaGreatDoorYr
import Derived.Test.YtnhmhjhfoonakaaGreatDoorRr
import Derived.Test.YtnhmhjhfoonakaaGreatDoorGrd
set_option linter.unusedSimpArgs false
set_option linter.unusedVariables false
namespace Go.Proofs.YtnhmhjhfoonakaaGreatDoor
open Go.RowKit Go.Dw
attribute [local go_sem ↓] Go.wp_at_zero Go.wp_at_succ
set_option maxHeartbeats 800000 in
theorem RROUTE_chk (r : Int) (A AM : Option Addr) (n c pm cm : Nat) (xss : List (List Int)) (hc : chkS r xss ≠ 0) (w : World) (B : Nat) (hB : B ≤ w.heap.size) (hh : Hid (RowsAt w B A n xss)) :
    Calls Tryz.prog 11 #[.agg #[.int .i64 r, .slice A n c], .slice AM pm cm] w (OutS3 w 0 [] 0 (chkS r xss)) := by
  have hq : (chkS r xss != 0) = true := by simpa using hc
  clear hc
  obtain ⟨W, gx, hW, hgx, HHW, HBX, HSW⟩ := boxes2 w (.cells #[.int .i64 r, .slice (A) n c] 24) (.cells #[.int .i64 0, .slice none 0 0] 24)
  have HGX := Lib.hid hgx
  obtain ⟨g2, hg2⟩ : ∃ g, g = gx + 1 := ⟨_, rfl⟩
  have HX : Hid (W.heap[gx]? = some (.cells #[.int .i64 r, .slice (A) n c] 24 (0, 0))) := HHW.out.1
  have HHR : Hid (W.heap[g2]? = some (.cells #[.int .i64 0, .slice none 0 0] 24 (0, 0))) := by rw [hg2]; exact HHW.out.2
  have HG2 : Hid (w.heap.size ≤ g2) := by show _ ≤ _; omega
  go_enter Tryz.func11, Tryz.ntmps11
  go_upto_region 1 with (fail)
  rw [← hW, ← hgx, ← hg2]
  clear hW hgx hg2 HHW HSW
  obtain ⟨x0, x1, _, _⟩ := two_cells HX.out
  go_wp2_with fail
  refine (RCHECK_any r (A) n c xss _ B (Nat.le_trans hB HBX.out.size) (hh.out.below HBX.out hB)).mono ?_
  rintro e w1 ⟨rfl, hb⟩
  replace HX := Lib.hid ((hb.block gx (blk_lt HX.out)).trans HX.out)
  replace HHR := Lib.hid ((hb.block g2 (blk_lt HHR.out)).trans HHR.out)
  replace HBX := Lib.hid (HBX.out.trans (hb.mono HBX.out.size))
  clear hb x0 x1
  obtain ⟨hr0, hr1, hf0, hf1⟩ := two_cells HHR.out
  have hl2 := blk_lt HHR.out
  go_wp2_with fail
  (try go_region)
  (try go_wp2_with fail)
  exact end_snd3 (o0 := .int .i64 0) (o1 := .slice none 0 0) rfl rfl rfl hr0 hr1 ⟨_, rfl, OwnRows.nil _ _, set2_below' HBX.out HG2.out⟩
set_option maxHeartbeats 800000 in
theorem RROUTE_few (r : Int) (A AM : Option Addr) (n c pm cm : Nat) (xss : List (List Int)) (hc : Hid (chkS r xss = 0)) (hm : pm < 1 ∨ 16 < pm) (w : World) (B : Nat) (hB : B ≤ w.heap.size) (hh : Hid (RowsAt w B A n xss)) :
    Calls Tryz.prog 11 #[.agg #[.int .i64 r, .slice A n c], .slice AM pm cm] w (OutS3 w 0 [] 0 1) := by
  have hq : (chkS r xss != 0) = false := by rw [hc.out]; rfl
  by_cases h1 : pm < 1
  · have d1 : decide (pm < 1) = true := by simpa using h1
    obtain rfl : pm = 0 := by omega
    clear h1 hm
    obtain ⟨W, gx, hW, hgx, HHW, HBX, HSW⟩ := boxes2 w (.cells #[.int .i64 r, .slice (A) n c] 24) (.cells #[.int .i64 0, .slice none 0 0] 24)
    have HGX := Lib.hid hgx
    obtain ⟨g2, hg2⟩ : ∃ g, g = gx + 1 := ⟨_, rfl⟩
    have HX : Hid (W.heap[gx]? = some (.cells #[.int .i64 r, .slice (A) n c] 24 (0, 0))) := HHW.out.1
    have HHR : Hid (W.heap[g2]? = some (.cells #[.int .i64 0, .slice none 0 0] 24 (0, 0))) := by rw [hg2]; exact HHW.out.2
    have HG2 : Hid (w.heap.size ≤ g2) := by show _ ≤ _; omega
    go_enter Tryz.func11, Tryz.ntmps11
    go_upto_region 1 with (fail)
    rw [← hW, ← hgx, ← hg2]
    clear hW hgx hg2 HHW HSW
    obtain ⟨x0, x1, _, _⟩ := two_cells HX.out
    go_wp2_with fail
    refine (RCHECK_any r (A) n c xss _ B (Nat.le_trans hB HBX.out.size) (hh.out.below HBX.out hB)).mono ?_
    rintro e w1 ⟨rfl, hb⟩
    replace HX := Lib.hid ((hb.block gx (blk_lt HX.out)).trans HX.out)
    replace HHR := Lib.hid ((hb.block g2 (blk_lt HHR.out)).trans HHR.out)
    replace HBX := Lib.hid (HBX.out.trans (hb.mono HBX.out.size))
    clear hb x0 x1
    obtain ⟨hr0, hr1, hf0, hf1⟩ := two_cells HHR.out
    have hl2 := blk_lt HHR.out
    go_wp2_with fail
    (try go_region)
    (try go_wp2_with fail)
    exact end_snd3 (o0 := .int .i64 0) (o1 := .slice none 0 0) rfl rfl rfl hr0 hr1 ⟨_, rfl, OwnRows.nil _ _, set2_below' HBX.out HG2.out⟩
  · have d1 : decide (pm < 1) = false := by simp; omega
    have d2 : decide (16 < pm) = true := by simp; omega
    have d3 : decide ((pm : Int) < 1) = false := by simp; omega
    have d4 : decide ((16 : Int) < pm) = true := by simp; omega
    clear h1 hm
    obtain ⟨W, gx, hW, hgx, HHW, HBX, HSW⟩ := boxes2 w (.cells #[.int .i64 r, .slice (A) n c] 24) (.cells #[.int .i64 0, .slice none 0 0] 24)
    have HGX := Lib.hid hgx
    obtain ⟨g2, hg2⟩ : ∃ g, g = gx + 1 := ⟨_, rfl⟩
    have HX : Hid (W.heap[gx]? = some (.cells #[.int .i64 r, .slice (A) n c] 24 (0, 0))) := HHW.out.1
    have HHR : Hid (W.heap[g2]? = some (.cells #[.int .i64 0, .slice none 0 0] 24 (0, 0))) := by rw [hg2]; exact HHW.out.2
    have HG2 : Hid (w.heap.size ≤ g2) := by show _ ≤ _; omega
    go_enter Tryz.func11, Tryz.ntmps11
    go_upto_region 1 with (fail)
    rw [← hW, ← hgx, ← hg2]
    clear hW hgx hg2 HHW HSW
    obtain ⟨x0, x1, _, _⟩ := two_cells HX.out
    go_wp2_with fail
    refine (RCHECK_any r (A) n c xss _ B (Nat.le_trans hB HBX.out.size) (hh.out.below HBX.out hB)).mono ?_
    rintro e w1 ⟨rfl, hb⟩
    replace HX := Lib.hid ((hb.block gx (blk_lt HX.out)).trans HX.out)
    replace HHR := Lib.hid ((hb.block g2 (blk_lt HHR.out)).trans HHR.out)
    replace HBX := Lib.hid (HBX.out.trans (hb.mono HBX.out.size))
    clear hb x0 x1
    obtain ⟨hr0, hr1, hf0, hf1⟩ := two_cells HHR.out
    have hl2 := blk_lt HHR.out
    go_wp2_with fail
    (try go_region)
    (try go_wp2_with fail)
    exact end_snd3 (o0 := .int .i64 0) (o1 := .slice none 0 0) rfl rfl rfl hr0 hr1 ⟨_, rfl, OwnRows.nil _ _, set2_below' HBX.out HG2.out⟩
set_option maxRecDepth 100000 in
set_option maxHeartbeats 4000000 in
theorem RROUTE_mat (r : Int) (A AM : Option Addr) (n c pm cm : Nat) (xss : List (List Int)) (m : List (List Rx)) (E : Int) (hE : E ≠ 0) (hc : Hid (chkS r xss = 0)) (hp1 : 1 ≤ pm) (hp2 : pm ≤ 16) (HE0 : Hid (chkM n m = E)) (w : World) (B : Nat) (hB : B ≤ w.heap.size) (hh : Hid (RowsAt w B A n xss)) (HM : Hid (MatAt w B AM pm m)) :
    Calls Tryz.prog 11 #[.agg #[.int .i64 r, .slice A n c], .slice AM pm cm] w (OutS3 w 0 [] 0 E) := by
  have hq : (chkS r xss != 0) = false := by rw [hc.out]; rfl
  have d1 : decide (pm < 1) = false := by simp; omega
  have d2 : decide (16 < pm) = false := by simp; omega
  obtain ⟨W, gx, hW, hgx, HHW, HBX, HSW⟩ := boxes2 w (.cells #[.int .i64 r, .slice (A) n c] 24) (.cells #[.int .i64 0, .slice none 0 0] 24)
  have HGX := Lib.hid hgx
  obtain ⟨g2, hg2⟩ : ∃ g, g = gx + 1 := ⟨_, rfl⟩
  have HX : Hid (W.heap[gx]? = some (.cells #[.int .i64 r, .slice (A) n c] 24 (0, 0))) := HHW.out.1
  have HHR : Hid (W.heap[g2]? = some (.cells #[.int .i64 0, .slice none 0 0] 24 (0, 0))) := by rw [hg2]; exact HHW.out.2
  have HG2 : Hid (w.heap.size ≤ g2) := by show _ ≤ _; omega
  go_enter Tryz.func11, Tryz.ntmps11
  go_upto_region 1 with (fail)
  rw [← hW, ← hgx, ← hg2]
  clear hW hgx hg2 HHW HSW
  obtain ⟨x0, x1, _, _⟩ := two_cells HX.out
  go_wp2_with fail
  refine (RCHECK_any r (A) n c xss _ B (Nat.le_trans hB HBX.out.size) (hh.out.below HBX.out hB)).mono ?_
  rintro e w1 ⟨rfl, hb⟩
  replace HX := Lib.hid ((hb.block gx (blk_lt HX.out)).trans HX.out)
  replace HHR := Lib.hid ((hb.block g2 (blk_lt HHR.out)).trans HHR.out)
  replace HBX := Lib.hid (HBX.out.trans (hb.mono HBX.out.size))
  clear hb x0 x1
  obtain ⟨X, rfl⟩ : ∃ x : World, x = w1 := ⟨_, rfl⟩
  go_wp2_with fail
  go_loopw [8] (fun i wr => ∃ k : Nat, k ≤ pm ∧ i = .int .i64 k ∧ Hid (chkM n (m.drop k) = E) ∧ Hid (Below X.heap.size X wr)) (fun i _ => pm - (intOf i).toNat)
  case atStart => exact ⟨0, Nat.zero_le _, rfl, HE0.out, Below.refl _ _⟩
  case round =>
    obtain ⟨k, hk, rfl, HE, HS⟩ := hrel
    obtain ⟨wa, rfl⟩ : ∃ x : World, x = wr := ⟨_, rfl⟩
    have HXr := Lib.hid ((HS.out.block gx (blk_lt HX.out)).trans HX.out)
    have HRr := Lib.hid ((HS.out.block g2 (blk_lt HHR.out)).trans HHR.out)
    have HBr := Lib.hid (HBX.out.trans (HS.out.mono HBX.out.size))
    by_cases hlt : k < pm
    · obtain ⟨b, o, hA, hbB, A', n', c', hc0, hn', hc', hrow⟩ := (HM.out.below HBr.out hB).2 k hlt
      have HMW0 := HM.out.2 k hlt
      have hkm : Hid (k < m.length) := by show _ < _; rw [HM.out.1]; exact hlt
      have HROW := Lib.hid hrow
      have HRL := Lib.hid hrow.1
      clear hrow HMW0
      have hk0 : (0 : Int) ≤ (k : Int) := by omega
      have hkn : (k : Int) < (pm : Int) := by omega
      unfold maxLen at hc'
      subst hA
      obtain ⟨x0, x1, _, _⟩ := two_cells HXr.out
      by_cases hd : n' = n
      · subst hd
        have dn : (n' != n') = false := by simp
        have dn2 : ((n' : Int) != (n' : Int)) = false := by simp
        obtain ⟨E2, hE2⟩ : ∃ E2, chkRx (mxOf m k) = E2 := ⟨_, rfl⟩
        have HE2 := Lib.hid hE2
        clear hE2
        have HC0 := Lib.hid hc0
        go_upto_region 9 with (fail)
        go_quiet (fail)
        go_wp2_with fail
        clear x0 x1 hc0
        go_loopw [9] (fun i wr => ∃ j : Nat, j ≤ n' ∧ i = .int .i64 j ∧ Hid (chkRx ((mxOf m k).drop j) = E2) ∧ Hid (Below wa.heap.size wa wr)) (fun i _ => n' - (intOf i).toNat)
        case atStart => exact ⟨0, Nat.zero_le _, rfl, HE2.out, belowN (Below.refl _ _) _⟩
        case round =>
          obtain ⟨j, hj, rfl, HEj, HSj⟩ := hrel
          have hbk : b < wa.heap.size := Nat.lt_of_lt_of_le hbB (Nat.le_trans hB HBr.out.size)
          have hc0 := (HSj.out.cell (p := ⟨b, o + k, none⟩) hbk).trans HC0.out
          by_cases hjl : j < n'
          · obtain ⟨b', o', hA', hbB', hq0, hq1, hz0, hz1⟩ := ((HROW.out.mono (Nat.le_trans hB HBr.out.size)).below HSj.out (Nat.le_refl _)).2 j hjl
            have hjm : Hid (j < (mxOf m k).length) := by show _ < _; rw [HRL.out]; exact hjl
            obtain ⟨⟨s, t⟩, hst⟩ : ∃ p, rxOf (mxOf m k) j = p := ⟨_, rfl⟩
            have HST := Lib.hid hst
            rw [hst] at hq0 hq1 hz0 hz1
            dsimp only at hq0 hq1 hz0 hz1
            have hj0 : (0 : Int) ≤ (j : Int) := by omega
            have hjn : (j : Int) < (n' : Int) := by omega
            clear hst
            subst hA'
            go_upto_region 14 with (fail)
            clear HC0
            go_wp2_with fail
            refine (RCHECKRATIO_any s t hz0 hz1 _).mono ?_
            rintro e w6 ⟨rfl, hb⟩
            replace HSj := Lib.hid (HSj.out.trans (hb.mono HSj.out.size))
            clear hq0 hq1 hc0 hb
            by_cases hcq : chkQ s t = 0
            · have dq : (chkQ s t != 0) = false := by rw [hcq]; rfl
              have HN : Hid (chkRx ((mxOf m k).drop (j + 1)) = E2) := by
                show _ = _
                rw [← HEj.out, chkRx_step hjm.out (by rw [HST.out]; exact hcq)]
              clear hcq
              go_wp2_with fail
              go_roundw
              case rel => exact ⟨j + 1, by omega, by go_num, HN.out, HSj.out⟩
              case measure => simp [intOf]; omega
            ·
              have dq : (chkQ s t != 0) = true := by simpa using hcq
              have HE3 : Hid (E = chkQ s t) := by
                have h1 : chkRx (mxOf m k) = chkQ s t := by
                  rw [HE2.out, ← HEj.out, chkRx_bad hjm.out (by rw [HST.out]; exact hcq), HST.out]
                show _ = _
                rw [← HE.out, chkM_bad hkm.out HRL.out (by rw [h1]; exact hcq), h1]
              replace HHR := Lib.hid ((HSj.out.block g2 (blk_lt HRr.out)).trans HRr.out)
              replace HBX := Lib.hid (HBr.out.trans (HSj.out.mono HBr.out.size))
              clear HE hcq
              have h39 := HE3.out
              clear HE3
              subst h39
              obtain ⟨hr0, hr1, hf0, hf1⟩ := two_cells HHR.out
              have hl2 := blk_lt HHR.out
              go_wp2_with fail
              (try go_region)
              (try go_wp2_with fail)
              exact end_snd3 (o0 := .int .i64 0) (o1 := .slice none 0 0) rfl rfl rfl hr0 hr1 ⟨_, rfl, OwnRows.nil _ _, set2_below' HBX.out HG2.out⟩
          · obtain rfl : n' = j := by omega
            have HE0' : Hid (E2 = 0) := by
              show _ = _
              rw [← HEj.out, List.drop_of_length_le (by rw [HRL.out]; exact Nat.le_refl _)]; rfl
            have HN : Hid (chkM n' (m.drop (k + 1)) = E) := by
              show _ = _
              rw [← HE.out, chkM_step hkm.out HRL.out (by rw [HE2.out]; exact HE0'.out)]
            have HSn := Lib.hid (HS.out.trans (HSj.out.mono HS.out.size))
            go_wp2_with fail
            go_roundw
            case rel => exact ⟨k + 1, by omega, by go_num, HN.out, HSn.out⟩
            case measure => simp [intOf]; omega
      ·
        have dn : (n' != n) = true := by simpa using hd
        have dn2 : ((n' : Int) != (n : Int)) = true := by simp; omega
        have HE3 : Hid (E = 3) := by show _ = _; rw [← HE.out]; exact chkM_len hkm.out (by rw [HRL.out]; exact hd)
        clear HE
        go_upto_region 9 with (fail)
        go_quiet (fail)
        replace HHR : Hid ((wa.drewN nq).heap[g2]? = some (.cells #[.int .i64 0, .slice none 0 0] 24 (0, 0))) := HRr.out
        replace HBX := Lib.hid (belowN HBr.out nq)
        have h39 := HE3.out
        clear HE3
        subst h39
        obtain ⟨hr0, hr1, hf0, hf1⟩ := two_cells HHR.out
        have hl2 := blk_lt HHR.out
        go_wp2_with fail
        (try go_region)
        (try go_wp2_with fail)
        exact end_snd3 (o0 := .int .i64 0) (o1 := .slice none 0 0) rfl rfl rfl hr0 hr1 ⟨_, rfl, OwnRows.nil _ _, set2_below' HBX.out HG2.out⟩
    · obtain rfl : pm = k := by omega
      have HEN : Hid (E = 0) := by
        show _ = _
        rw [← HE.out, List.drop_of_length_le (by rw [HM.out.1]; exact Nat.le_refl _)]; rfl
      clear HE hk
      exact absurd HEN.out hE
end Go.Proofs.YtnhmhjhfoonakaaGreatDoor

/- Route, the document's, where all is right. -/
set_option linter.unusedSimpArgs false
set_option linter.unusedVariables false
namespace Go.Proofs.YtnhmhjhfoonakaaGreatDoor
open Go.RowKit Go.Dw
attribute [local go_sem ↓] Go.wp_at_zero Go.wp_at_succ
theorem heap_set3 {w : World} {g : Nat} {o0 o1 o2 v0 v1 v2 : Value} {t : TypeId} (h : w.heap[g]? = some (.cells #[o0, o1, o2] t (0, 0))) : (((w.setCell ⟨g, 0, none⟩ v0).setCell ⟨g, 1, none⟩ v1).setCell ⟨g, 2, none⟩ v2).heap[g]? = some (.cells #[v0, v1, v2] t (0, 0)) :=
  heap_setCell_same _ g 2 _ t v2 (heap_setCell_same _ g 1 _ t v1 (heap_setCell_same w g 0 _ t v0 h))
theorem numr_set3 {w : World} {g : Nat} {o0 o1 o2 : Value} (u0 u1 u2 : Value) {ng : Bool} {A A' : Option Addr} {n c n' c' : Nat} {q : Rat} (hg : w.heap[g]? = some (.cells #[o0, o1, o2] 56 (0, 0))) (h : NumR w w.heap.size ng A n c A' n' c' q) :
    NumR (((w.setCell ⟨g, 0, none⟩ u0).setCell ⟨g, 1, none⟩ u1).setCell ⟨g, 2, none⟩ u2) (((w.setCell ⟨g, 0, none⟩ u0).setCell ⟨g, 1, none⟩ u1).setCell ⟨g, 2, none⟩ u2).heap.size ng A n c A' n' c' q := by
  have ht : TyAt 56 w g := ⟨_, _, hg⟩
  refine ⟨h.1, NumAt.mono ?_ (show w.heap.size ≤ _ by simp), NumAt.mono ?_ (show w.heap.size ≤ _ by simp)⟩
  · exact ((h.2.1.set_far (p := ⟨g, 0, none⟩) ht (by decide) _).set_far (p := ⟨g, 1, none⟩) (ht.set _ _) (by decide) _).set_far (p := ⟨g, 2, none⟩) ((ht.set _ _).set _ _) (by decide) _
  · exact ((h.2.2.set_far (p := ⟨g, 0, none⟩) ht (by decide) _).set_far (p := ⟨g, 1, none⟩) (ht.set _ _) (by decide) _).set_far (p := ⟨g, 2, none⟩) ((ht.set _ _).set _ _) (by decide) _
set_option maxRecDepth 100000 in
set_option maxHeartbeats 4000000 in
theorem RROUTE_ok (r : Int) (ad : Addr) (AM : Option Addr) (n c pm cm : Nat) (xss : List (List Int)) (m : List (List Rx)) (hc : Hid (chkS r xss = 0)) (hok : Hid (OkS r xss)) (hp1 : 1 ≤ pm) (hp2 : pm ≤ 16) (hE9 : Hid (chkM n m = 0)) (w : World) (htab : Hid (TabAt w)) (B : Nat) (hB : B ≤ w.heap.size) (hh : Hid (RowsAt w B (some ad) n xss)) (HM : Hid (MatAt w B AM pm m)) :
    Calls Tryz.prog 11 #[.agg #[.int .i64 r, .slice (some ad) n c], .slice AM pm cm] w (OutS3 w r (clipS (rouT xss m)) (stS clipU 0 (rouT xss m)) 0) := by
  have hl := Lib.hid hh.out.1
  have hn16 : n ≤ 16 := by have := hok.out.few; have := hl.out; omega
  have hn : 0 < n := by have := hok.out.some; have := hl.out; omega
  have hm := hok.out.long
  have hq : (chkS r xss != 0) = false := by rw [hc.out]; rfl
  have d1 : decide (pm < 1) = false := by simp; omega
  have d2 : decide (16 < pm) = false := by simp; omega
  obtain ⟨E, hE0⟩ : ∃ E : Int, E = 0 := ⟨_, rfl⟩
  have HE0 : Hid (chkM n m = E) := by show _ = _; rw [hE0]; exact hE9.out
  obtain ⟨T, hT⟩ : ∃ T, rouT xss m = T := ⟨_, rfl⟩
  have HTl : Hid (T.length = pm) := by show _ = _; rw [← hT]; exact mtx_length.trans HM.out.1
  have HTm : Hid (∀ a, a < pm → (rowOf T a).length = len0 xss) := fun a ha => by rw [← hT]; exact mtx_len (by rw [HM.out.1]; exact ha)
  have HTe : Hid (∀ a i, a < pm → i < len0 xss → elOf (rowOf T a) i = nearQ (sumQ (mxOf m a) xss i xss.length)) := fun a i ha hi => by rw [← hT]; exact mtx_el (by rw [HM.out.1]; exact ha) hi
  have HTr : Hid (∀ t ∈ T, t.length = len0 xss) := by rw [← hT]; exact mtx_rows
  have HY0 : Hid ((clipS T).length = pm) := (clipS_length T).trans HTl.out
  have HYm0 : Hid (∀ a, a < (clipS T).length → (rowOf (clipS T) a).length = len0 xss) := fun a ha => by
    rw [clipS_length] at ha; rw [clipS_len ha]; exact HTm.out a (by rw [← HTl.out]; exact ha)
  have HYe0 : Hid (∀ a i, a < pm → i < len0 xss → elOf (rowOf (clipS T) a) i = clipV (elOf (rowOf T a) i)) := fun a i ha hi => clipS_el (by rw [HTl.out]; exact ha) (by rw [HTm.out a ha]; exact hi)
  rw [hT]
  obtain ⟨Y, hY⟩ : ∃ Y, clipS T = Y := ⟨_, rfl⟩
  have HY := HY0
  have HYm := HYm0
  have HYe := HYe0
  clear HY0 HYm0 HYe0
  rw [hY] at HY HYm HYe ⊢
  clear hT hY
  obtain ⟨W, gx, hW, hgx, HHW, HBX, HSW⟩ := boxes2 w (.cells #[.int .i64 r, .slice (some ad) n c] 24) (.cells #[.int .i64 0, .slice none 0 0] 24)
  have HGX := Lib.hid hgx
  obtain ⟨g2, hg2⟩ : ∃ g, g = gx + 1 := ⟨_, rfl⟩
  have HX : Hid (W.heap[gx]? = some (.cells #[.int .i64 r, .slice (some ad) n c] 24 (0, 0))) := HHW.out.1
  have HHR : Hid (W.heap[g2]? = some (.cells #[.int .i64 0, .slice none 0 0] 24 (0, 0))) := by rw [hg2]; exact HHW.out.2
  have HG2 : Hid (w.heap.size ≤ g2) := by show _ ≤ _; omega
  go_enter Tryz.func11, Tryz.ntmps11
  go_upto_region 1 with (fail)
  rw [← hW, ← hgx, ← hg2]
  clear hW hgx hg2 HHW HSW
  obtain ⟨x0, x1, _, _⟩ := two_cells HX.out
  go_wp2_with fail
  refine (RCHECK_any r (some ad) n c xss _ B (Nat.le_trans hB HBX.out.size) (hh.out.below HBX.out hB)).mono ?_
  rintro e w1 ⟨rfl, hb⟩
  replace HX := Lib.hid ((hb.block gx (blk_lt HX.out)).trans HX.out)
  replace HHR := Lib.hid ((hb.block g2 (blk_lt HHR.out)).trans HHR.out)
  replace HBX := Lib.hid (HBX.out.trans (hb.mono HBX.out.size))
  clear hb x0 x1
  obtain ⟨X, rfl⟩ : ∃ x : World, x = w1 := ⟨_, rfl⟩
  go_wp2_with fail
  go_loopw [8] (fun i wr => ∃ k : Nat, k ≤ pm ∧ i = .int .i64 k ∧ Hid (chkM n (m.drop k) = E) ∧ Hid (Below X.heap.size X wr)) (fun i _ => pm - (intOf i).toNat)
  case atStart => exact ⟨0, Nat.zero_le _, rfl, HE0.out, Below.refl _ _⟩
  case round =>
    obtain ⟨k, hk, rfl, HE, HS⟩ := hrel
    obtain ⟨wa, rfl⟩ : ∃ x : World, x = wr := ⟨_, rfl⟩
    have HXr := Lib.hid ((HS.out.block gx (blk_lt HX.out)).trans HX.out)
    have HRr := Lib.hid ((HS.out.block g2 (blk_lt HHR.out)).trans HHR.out)
    have HBr := Lib.hid (HBX.out.trans (HS.out.mono HBX.out.size))
    by_cases hlt : k < pm
    · obtain ⟨b, o, hA, hbB, A', n', c', hc0, hn', hc', hrow⟩ := (HM.out.below HBr.out hB).2 k hlt
      have HMW0 := HM.out.2 k hlt
      have hkm : Hid (k < m.length) := by show _ < _; rw [HM.out.1]; exact hlt
      have HROW := Lib.hid hrow
      have HRL := Lib.hid hrow.1
      clear hrow HMW0
      have hk0 : (0 : Int) ≤ (k : Int) := by omega
      have hkn : (k : Int) < (pm : Int) := by omega
      unfold maxLen at hc'
      subst hA
      obtain ⟨x0, x1, _, _⟩ := two_cells HXr.out
      by_cases hd : n' = n
      · subst hd
        have dn : (n' != n') = false := by simp
        have dn2 : ((n' : Int) != (n' : Int)) = false := by simp
        obtain ⟨E2, hE2⟩ : ∃ E2, chkRx (mxOf m k) = E2 := ⟨_, rfl⟩
        have HE2 := Lib.hid hE2
        clear hE2
        have HC0 := Lib.hid hc0
        go_upto_region 9 with (fail)
        go_quiet (fail)
        go_wp2_with fail
        clear x0 x1 hc0
        go_loopw [9] (fun i wr => ∃ j : Nat, j ≤ n' ∧ i = .int .i64 j ∧ Hid (chkRx ((mxOf m k).drop j) = E2) ∧ Hid (Below wa.heap.size wa wr)) (fun i _ => n' - (intOf i).toNat)
        case atStart => exact ⟨0, Nat.zero_le _, rfl, HE2.out, belowN (Below.refl _ _) _⟩
        case round =>
          obtain ⟨j, hj, rfl, HEj, HSj⟩ := hrel
          have hbk : b < wa.heap.size := Nat.lt_of_lt_of_le hbB (Nat.le_trans hB HBr.out.size)
          have hc0 := (HSj.out.cell (p := ⟨b, o + k, none⟩) hbk).trans HC0.out
          by_cases hjl : j < n'
          · obtain ⟨b', o', hA', hbB', hq0, hq1, hz0, hz1⟩ := ((HROW.out.mono (Nat.le_trans hB HBr.out.size)).below HSj.out (Nat.le_refl _)).2 j hjl
            have hjm : Hid (j < (mxOf m k).length) := by show _ < _; rw [HRL.out]; exact hjl
            obtain ⟨⟨s, t⟩, hst⟩ : ∃ p, rxOf (mxOf m k) j = p := ⟨_, rfl⟩
            have HST := Lib.hid hst
            rw [hst] at hq0 hq1 hz0 hz1
            dsimp only at hq0 hq1 hz0 hz1
            have hj0 : (0 : Int) ≤ (j : Int) := by omega
            have hjn : (j : Int) < (n' : Int) := by omega
            clear hst
            subst hA'
            go_upto_region 14 with (fail)
            clear HC0
            go_wp2_with fail
            refine (RCHECKRATIO_any s t hz0 hz1 _).mono ?_
            rintro e w6 ⟨rfl, hb⟩
            replace HSj := Lib.hid (HSj.out.trans (hb.mono HSj.out.size))
            clear hq0 hq1 hc0 hb
            by_cases hcq : chkQ s t = 0
            · have dq : (chkQ s t != 0) = false := by rw [hcq]; rfl
              have HN : Hid (chkRx ((mxOf m k).drop (j + 1)) = E2) := by
                show _ = _
                rw [← HEj.out, chkRx_step hjm.out (by rw [HST.out]; exact hcq)]
              clear hcq
              go_wp2_with fail
              go_roundw
              case rel => exact ⟨j + 1, by omega, by go_num, HN.out, HSj.out⟩
              case measure => simp [intOf]; omega
            ·
              have h1 : chkRx (mxOf m k) = chkQ s t := by
                rw [HE2.out, ← HEj.out, chkRx_bad hjm.out (by rw [HST.out]; exact hcq), HST.out]
              exact absurd (h1.symm.trans ((chkM_bad hkm.out HRL.out (by rw [h1]; exact hcq)).symm.trans (HE.out.trans hE0))) hcq
          · obtain rfl : n' = j := by omega
            have HE0' : Hid (E2 = 0) := by
              show _ = _
              rw [← HEj.out, List.drop_of_length_le (by rw [HRL.out]; exact Nat.le_refl _)]; rfl
            have HN : Hid (chkM n' (m.drop (k + 1)) = E) := by
              show _ = _
              rw [← HE.out, chkM_step hkm.out HRL.out (by rw [HE2.out]; exact HE0'.out)]
            have HSn := Lib.hid (HS.out.trans (HSj.out.mono HS.out.size))
            go_wp2_with fail
            go_roundw
            case rel => exact ⟨k + 1, by omega, by go_num, HN.out, HSn.out⟩
            case measure => simp [intOf]; omega
      ·
        exact absurd ((chkM_len hkm.out (T := n) (by rw [HRL.out]; exact hd)).symm.trans (HE.out.trans hE0)) (by decide)
    · obtain rfl : pm = k := by omega
      have HEN : Hid (E = 0) := by
        show _ = _
        rw [← HE.out, List.drop_of_length_le (by rw [HM.out.1]; exact Nat.le_refl _)]; rfl
      clear HE hk
      obtain ⟨V, rfl⟩ : ∃ x : World, x = X := ⟨_, rfl⟩
      clear HEN
      go_upto_region 17 with (fail)
      obtain ⟨gc, hgc⟩ : ∃ gc, gc = wa.heap.size := ⟨_, rfl⟩
      have hgx9 := blk_lt HXr.out
      have hg29 := blk_lt HRr.out
      have hwgc : w.heap.size ≤ gc := by rw [hgc]; exact HBr.out.size
      rw [← hgc] at hgx9 hg29
      refine wp_later gc ?_
      intro X hX hsX
      rw [← hgc] at hsX
      have hbX : Below gc wa X := hX
      have HXX := Lib.hid ((hbX.block gx hgx9).trans HXr.out)
      have HRX := Lib.hid ((hbX.block g2 hg29).trans HRr.out)
      have HBX9 := Lib.hid (HBr.out.trans (hbX.mono hwgc))
      have HXx := Lib.hid (hh.out.below HBX9.out hB)
      have HMX := Lib.hid (HM.out.below HBX9.out hB)
      clear hX hgc HX HHR HBX HS HXr HRr HBr hbX
      obtain ⟨hcs0, hcs1, _, _⟩ := two_cells HXX.out
      go_cut [11, 12] (fun s11 s12 wx => ∃ (g : Nat) (V : Value) (rows : List Value), s11 = .pointer (some ⟨g, 0, none⟩) ∧ s12 = .int .i64 0 ∧ Hid (wx.heap[g]? = some (.cells #[.int .i64 r, V] 24 (0, 0))) ∧ Hid (OwnRowsL wx (gc) V (zeroS pm (len0 xss)) rows) ∧ Hid (Below (gc) X wx) ∧ gc ≤ g)
      case first =>
        have HLe : Hid (len0 xss = len0 xss) := rfl
        go_region_held3 (fun w' => Below (gc) X w' ∧ ∀ z : Addr, z.block < gc → w'.cell? z = X.cell? z)
          ((refine (fun h => ⟨h, pcell h⟩) ?_; repeat (first | assumption | exact Below.refl _ _ | (refine Below.drew ?_) | (refine Below.alloc ?_ (by first | omega | (simp; omega) | exact Nat.le_trans hsX (Below.size (by assumption)) | (simp only [World.size_drew, World.size_alloc]; exact Nat.le_trans hsX (Nat.le_succ_of_le (Below.size (by assumption))))) _) | (refine Below.setCell ?_ (by first | omega | (simp; omega) | exact Nat.le_trans hsX (Below.size (by assumption))) _))))
          (first
            | (go_at_call 21; (with_reducible refine (RLONG_any r (some ad) n c xss _ B ?_ ?_ hn).mono ?_); (exact Below.ge ‹Below (gc) X _ ∧ _› hsX (by omega)); (exact HXx.out.below ((‹Below (gc) X _ ∧ _›).1.mono (by omega)) (Nat.le_refl _)); rintro e w7 ⟨rfl, hb7⟩; have hbS := Below.next (‹Below (gc) X _ ∧ _›).1 hsX hb7; have hz7 := pcell hb7; have hy7 := fun b o => (bcell hb7).2 b o; have hs7 := hb7.size; (try simp only [World.size_alloc, World.size_drew, Nat.add_one_le_iff] at hs7); (try have hk7 : X.heap.size < w7.heap.size := by omega); (first | have hx9 := (hb7.block X.heap.size (by omega)).trans hx9 | have hx9 := (hb7.block X.heap.size (by simp)).trans (heap_alloc_new X (.cells #[.int .i64 0, .slice none 0 0] 24)) | skip))
            | (go_at_call 20; (with_reducible refine (REMPTY_any r pm (len0 xss) ?_ ?_ _).mono ?_); (omega); (omega); rintro e w8 ⟨v8, rfl, ho8, hb8⟩; obtain ⟨A8, c8, rfl, _, _⟩ := ho8.form; have hbS8 := Below.next (‹Below (gc) X _ ∧ _›).1 hsX hb8; have hz8 := pcell hb8; have hy8 := fun b o => (bcell hb8).2 b o; have hs8 := hb8.size; (try simp only [World.size_alloc, Nat.add_one_le_iff] at hs8)))
        all_goals (go_wp2_with fail; go_meet)
        all_goals (try rw [HLe.out])
        · obtain ⟨rows, hL2⟩ := ho8
          have hq8 := hbS8.size
          have hq7 := hbS.size
          have hq3 := hsX
          exact ⟨w8.heap.size, _, rows, rfl, rfl, heap_alloc_new _ _, (hL2.alloc _).base (by first | omega | (simp; omega)), hbS8.alloc (by omega) _, by omega⟩
        all_goals
          obtain ⟨rows, hL2⟩ := ho8
          have hq8 := hbS8.size
          have hq7 := hbS.size
          have hq3 := hsX
          first
            | have hx := (hb8.block _ (by simp)).trans (heap_alloc_new _ (.cells #[.int .i64 0, .slice none 0 0] 24))
            | have hx := (hb8.block _ (by first | (simp; done) | omega | (simp; omega))).trans ((hb7.block _ (by simp)).trans (heap_alloc_new _ (.cells #[.int .i64 0, .slice none 0 0] 24)))
            | have hx := (hb8.block X.heap.size (by first | (simp; done) | omega | (simp; omega))).trans hx9
          exact ⟨_, _, rows, rfl, rfl, heap_set2 hx, (hL2.base (by first | omega | (simp; omega))).set2_far hx (by decide) (by decide) _ _, set2_below hbS8 (by first | omega | (simp; omega)), by first | omega | (simp; omega)⟩
      case rest =>
        obtain ⟨g, V9, rows, rfl, rfl, hbox, hL, hb, hg⟩ := hcut
        have hn0 := hn
        obtain ⟨AV, cV, hVe, _, _⟩ := own_form hL.out.outer
        rw [zeroS_length] at hVe
        subst hVe
        obtain ⟨gv, hgv⟩ : ∃ gv, AV = some ⟨gv, 0, none⟩ := by
          have h1 := hL.out.outer
          rw [zeroS_length] at h1
          obtain ⟨gv, cap, e, _⟩ := own_slot h1 hp1
          exact ⟨gv, by injection e⟩
        subst hgv
        have HF0 : Hid (FillI gc X g (.int .i64 r) gv pm cV rows wc (partK Y (len0 xss) 0 0)) := ⟨hb.out.mono (by omega), hbox.out, by rw [partK_start, HY.out]; exact hL.out.base (by omega), by omega⟩
        have hgx : gc ≤ X.heap.size := by omega
        clear hbox hL hb hcs0 hcs1
        go_wp2_with fail
        have hBg : B ≤ gc := Nat.le_trans hB hwgc
        have hB9X : B ≤ X.heap.size := Nat.le_trans hBg hgx
        have HTX := Lib.hid (htab.out.below HBX9.out)
        go_loopw [12, 13] (fun s i wr => ∃ k : Nat, k ≤ pm ∧ i = .int .i64 k ∧ s = .int .i64 (cntK T k 0) ∧ Hid (FillI gc X g (.int .i64 r) gv pm cV rows wr (partK Y (len0 xss) k 0))) (fun _ i _ => pm - (intOf i).toNat)
        case atStart => exact ⟨0, Nat.zero_le _, rfl, by rw [cntK_zero], HF0.out⟩
        case round =>
          clear HF0
          obtain ⟨k, hk, rfl, rfl, hF⟩ := hrel
          obtain ⟨wk, rfl⟩ : ∃ x : World, x = wr := ⟨_, rfl⟩
          by_cases hlt : k < pm
          · have hkY : Hid (k < Y.length) := by show _ < _; rw [HY.out]; exact hlt
            have hk0 : (0 : Int) ≤ (k : Int) := by omega
            have hkn : (k : Int) < (pm : Int) := by omega
            go_upto_region 22 with (fail)
            go_loopw [12, 14] (fun s i wr => ∃ j : Nat, j ≤ len0 xss ∧ i = .int .i64 j ∧ s = .int .i64 (cntK T k j) ∧ Hid (FillI gc X g (.int .i64 r) gv pm cV rows wr (partK Y (len0 xss) k j))) (fun _ i _ => len0 xss - (intOf i).toNat)
            case atStart => exact ⟨0, Nat.zero_le _, rfl, rfl, hF.out⟩
            case round =>
              clear hF
              obtain ⟨j, hj, rfl, rfl, hF⟩ := hrel
              obtain ⟨x0, x1, _, _⟩ := two_cells ((hF.out.below.block gx hgx9).trans HXX.out)
              have hbi : Below B w wr := (HBX9.out.mono hB).trans (hF.out.below.mono hBg)
              have hsz : B ≤ wr.heap.size := Nat.le_trans hB9X hF.out.below.size
              by_cases hjl : j < len0 xss
              · go_wp2_with fail
                refine (RLONG_any r _ n c xss _ B hsz (hh.out.below hbi (Nat.le_refl _)) hn).mono ?_
                rintro e w4 ⟨rfl, hb4⟩
                have hF4 := Lib.hid (hF.out.next hgx hb4)
                clear hbi hsz hF hb4 x0 x1
                have HTW : Hid (TabAt w4) := htab.out.below (HBX9.out.trans (hF4.out.below.mono hwgc))
                go_wp2_with fail
                refine (RINT_any 0 (by omega) (by omega) _ HTW).mono ?_
                rintro e w5 ⟨ng0, A0, n0, c0, D0, m0, d0, rfl, h0, k0, l0, hb⟩
                have H0 := Lib.hid h0
                have hF5 := Lib.hid (hF4.out.next hgx hb)
                clear h0 hb hF4 HTW
                go_upto_region 25 with (fail)
                obtain ⟨w8, g8, hX8, hg8, HG8, HB8, _⟩ := rcell_new w5 56 #[.bool ng0, .slice A0 n0 c0, .slice D0 m0 d0]
                rw [← hX8]
                subst hg8
                clear hX8
                have HN0 : Hid (NumR w8 w8.heap.size ng0 A0 n0 c0 D0 m0 d0 (sumQ (mxOf m k) xss j 0)) := H0.out.to HB8.out (Nat.le_refl _) HB8.out.size
                clear H0
                go_upto_region 26 with (fail)
                go_loopw [16] (fun i wr => ∃ u : Nat, u ≤ n ∧ i = .int .i64 u ∧ ∃ ng A1 n1 c1 D1 m1 d1, n1 ≤ 20 + 2022 * u ∧ m1 ≤ 1 + 2001 * u ∧ Hid (wr.heap[w5.heap.size]? = some (.cells #[.bool ng, .slice A1 n1 c1, .slice D1 m1 d1] 56 (0, 0))) ∧ Hid (NumR wr wr.heap.size ng A1 n1 c1 D1 m1 d1 (sumQ (mxOf m k) xss j u)) ∧ Hid (Below w5.heap.size w5 wr)) (fun i _ => n - (intOf i).toNat)
                case atStart => exact ⟨0, Nat.zero_le _, rfl, ng0, A0, n0, c0, D0, m0, d0, by omega, by omega, HG8.out, HN0.out, HB8.out⟩
                case round =>
                  clear HG8 HN0 HB8
                  obtain ⟨u, hu, rfl, ng, A1, n1, c1, D1, m1, d1, hn1, hm1, HG, HS, HBj⟩ := hrel
                  have HFr := Lib.hid (hF5.out.next hgx HBj.out)
                  have HTB : Hid (TabAt wr) := htab.out.below (HBX9.out.trans (HFr.out.below.mono hwgc))
                  obtain ⟨x0, x1, _, _⟩ := two_cells ((HFr.out.below.block gx hgx9).trans HXX.out)
                  by_cases hul : u < n
                  ·
                    have hux : Hid (u < xss.length) := by show _ < _; rw [hl.out]; exact hul
                    have hkm : Hid (k < m.length) := by show _ < _; rw [HM.out.1]; exact hlt
                    have hck := chkM_zero hE9.out _ (mx_mem hkm.out)
                    obtain ⟨b, o, hA, hbB, A', n', c', hc0, hn', hc', hrow⟩ := (HMX.out.below HFr.out.below hBg).2 k hlt
                    obtain rfl : n = n' := hck.1.symm.trans hrow.1
                    obtain ⟨b', o', hA', hbB', q0, q1, hz0, hz1⟩ := hrow.2 u hul
                    have HRT := Lib.hid (chkRx_zero hck.2 _ (rx_mem (l := mxOf m k) (k := u) (by rw [hck.1]; exact hul)))
                    obtain ⟨⟨s, t⟩, hst⟩ : ∃ p, rxOf (mxOf m k) u = p := ⟨_, rfl⟩
                    rw [hst] at q0 q1 HRT
                    dsimp only at q0 q1 HRT
                    obtain ⟨q, hq9⟩ : ∃ q, valQ s t = q := ⟨_, rfl⟩
                    have HRq : Hid (Rt s t q) := by show Rt _ _ _; rw [← hq9]; exact Rt.of HRT.out
                    obtain ⟨A3', n3', c3', hadB, hcell0, hn3', hc3', hi⟩ := hh.out.row hul
                    obtain rfl : n3' = len0 xss := hi.1.symm.trans (hok.out.row hux.out).1
                    obtain ⟨ad', rfl⟩ := hi.addr (by omega)
                    obtain ⟨y1, y2⟩ := hok.out.el hux.out hjl
                    obtain ⟨y, hy⟩ : ∃ y, elOf (rowOf xss u) j = y := ⟨_, rfl⟩
                    have hwX : Below B w wr := (HBX9.out.mono hB).trans (HFr.out.below.mono hBg)
                    have hBr : B ≤ wr.heap.size := Nat.le_trans hB9X HFr.out.below.size
                    have e0 := (hwX.cell (p := ad.add u) (by rw [block_of_add]; omega)).trans hcell0
                    have e1 := ((hi.below hwX (Nat.le_refl _)).at_ hjl).2
                    have e1b := ((hi.below hwX (Nat.le_refl _)).at_ hjl).1
                    have HSU : Hid (sumQ (mxOf m k) xss j (u + 1) = sumQ (mxOf m k) xss j u + q * (y : Rat)) := by
                      show sumQ (mxOf m k) xss j u + valQ (rxOf (mxOf m k) u).1 (rxOf (mxOf m k) u).2 * (elOf (rowOf xss u) j : Rat) = _
                      rw [hst, hy, ← hq9]
                    rw [hy] at e1 y1 y2
                    subst hA'
                    subst hA
                    clear hy hi hcell0 hst hq9 hrow hck HRT
                    unfold maxLen at hc3' hc'
                    have hu0 : (0 : Int) ≤ (u : Int) := by omega
                    have hun : (u : Int) < (n : Int) := by omega
                    have hj0 : (0 : Int) ≤ (j : Int) := by omega
                    have hjn : (j : Int) < (len0 xss : Int) := by omega
                    have hgxl : gx < wr.heap.size := Nat.lt_of_lt_of_le hgx9 (Nat.le_trans hgx HFr.out.below.size)
                    have hgl := blk_lt HG.out
                    obtain ⟨p0, p1, p2, _, _, _⟩ := three_cells HG.out
                    have HSS : Hid (∀ x9 : World, Below wr.heap.size wr x9 → x9.cell? ⟨gx, 1, none⟩ = some (.slice (some ad) n c) ∧ x9.cell? ⟨b, o + k, none⟩ = some (.slice (some ⟨b', o', none⟩) n c') ∧ x9.cell? ⟨b', o' + u * 2, none⟩ = some (.string s) ∧ x9.cell? ⟨b', o' + u * 2 + 1, none⟩ = some (.string t) ∧ x9.cell? (ad.add u) = some (.slice (some ad') (len0 xss) c3') ∧ x9.cell? (ad'.add j) = some (.int .i64 y) ∧ x9.cell? ⟨w5.heap.size, 0, none⟩ = some (.bool ng) ∧ x9.cell? ⟨w5.heap.size, 1, none⟩ = some (.slice A1 n1 c1) ∧ x9.cell? ⟨w5.heap.size, 2, none⟩ = some (.slice D1 m1 d1)) := fun x9 hb9 =>
                      ⟨(hb9.cell (p := ⟨gx, 1, none⟩) hgxl).trans x1, (hb9.cell (p := ⟨b, o + k, none⟩) (by dsimp only; omega)).trans hc0, (hb9.cell (p := ⟨b', o' + u * 2, none⟩) (by dsimp only; omega)).trans q0, (hb9.cell (p := ⟨b', o' + u * 2 + 1, none⟩) (by dsimp only; omega)).trans q1, (hb9.cell (p := ad.add u) (by rw [block_of_add]; omega)).trans e0, (hb9.cell (p := ad'.add j) (by rw [block_of_add]; omega)).trans e1, (hb9.cell (p := ⟨w5.heap.size, 0, none⟩) hgl).trans p0, (hb9.cell (p := ⟨w5.heap.size, 1, none⟩) hgl).trans p1, (hb9.cell (p := ⟨w5.heap.size, 2, none⟩) hgl).trans p2⟩
                    go_upto_region 28 with (fail)
                    clear hc0 q0 q1 e0 e1 p0 p1 p2 x0 x1 HFr
                    refine wp_region_text 20 (fun x9 => x9.cell? ⟨gx, 1, none⟩ = some (.slice (some ad) n c) ∧ x9.cell? ⟨b, o + k, none⟩ = some (.slice (some ⟨b', o', none⟩) n c') ∧ x9.cell? ⟨b', o' + u * 2, none⟩ = some (.string s) ∧ x9.cell? ⟨b', o' + u * 2 + 1, none⟩ = some (.string t) ∧ x9.cell? (ad.add u) = some (.slice (some ad') (len0 xss) c3') ∧ x9.cell? (ad'.add j) = some (.int .i64 y) ∧ x9.cell? ⟨w5.heap.size, 0, none⟩ = some (.bool ng) ∧ x9.cell? ⟨w5.heap.size, 1, none⟩ = some (.slice A1 n1 c1) ∧ x9.cell? ⟨w5.heap.size, 2, none⟩ = some (.slice D1 m1 d1)) (by kernel_rfl) (by kernel_rfl) ?_
                    have hS := HSS.out wr.drew (Below.refl _ _).drew
                    refine HT.load (i := 0) (oi := _) (v := ?_) rfl (by kernel_rfl) (by kernel_rfl) (by decide) (fun _ _ _ h => h) (by kernel_rfl) (Or.inl ⟨by rfl, ?_⟩) hS ?_
                    rotate_left
                    · intro wz hwz
                      try dsimp only at hwz
                      go_simp
                      try with_reducible rfl
                    simp only [List.getElem_toArray, List.getElem_cons_succ, List.getElem_cons_zero, Act.put, List.setIfInBounds_toArray, List.set_cons_zero, List.set_cons_succ]
                    refine HT.take (i := 1) (oi := _) (v := ?_) rfl (by kernel_rfl) (by kernel_rfl) (by decide) (fun _ _ _ h => h) (Or.inl ⟨by rfl, ?_⟩) hS ?_
                    rotate_left
                    · intro wz
                      go_simp
                      try with_reducible rfl
                    simp only [List.getElem_toArray, List.getElem_cons_succ, List.getElem_cons_zero, Act.put, List.setIfInBounds_toArray, List.set_cons_zero, List.set_cons_succ]
                    refine HT.take (i := 2) (oi := _) (v := ?_) rfl (by kernel_rfl) (by kernel_rfl) (by decide) (fun _ _ _ h => h) (Or.inl ⟨by rfl, ?_⟩) hS ?_
                    rotate_left
                    · intro wz
                      go_simp
                      try with_reducible rfl
                    simp only [List.getElem_toArray, List.getElem_cons_succ, List.getElem_cons_zero, Act.put, List.setIfInBounds_toArray, List.set_cons_zero, List.set_cons_succ]
                    refine HT.take (i := 3) (oi := _) (v := ?_) rfl (by kernel_rfl) (by kernel_rfl) (by decide) (fun _ _ _ h => h) (Or.inl ⟨by rfl, ?_⟩) hS ?_
                    rotate_left
                    · intro wz
                      go_simp
                      try with_reducible rfl
                    simp only [List.getElem_toArray, List.getElem_cons_succ, List.getElem_cons_zero, Act.put, List.setIfInBounds_toArray, List.set_cons_zero, List.set_cons_succ]
                    refine HT.load (i := 4) (oi := _) (v := ?_) rfl (by kernel_rfl) (by kernel_rfl) (by decide) (fun _ _ _ h => h) (by kernel_rfl) (Or.inl ⟨by rfl, ?_⟩) hS ?_
                    rotate_left
                    · intro wz hwz
                      try dsimp only at hwz
                      go_simp
                      try with_reducible rfl
                    simp only [List.getElem_toArray, List.getElem_cons_succ, List.getElem_cons_zero, Act.put, List.setIfInBounds_toArray, List.set_cons_zero, List.set_cons_succ]
                    refine HT.take (i := 5) (oi := _) (v := ?_) rfl (by kernel_rfl) (by kernel_rfl) (by decide) (fun _ _ _ h => h) (Or.inl ⟨by rfl, ?_⟩) hS ?_
                    rotate_left
                    · intro wz
                      go_simp
                      try with_reducible rfl
                    simp only [List.getElem_toArray, List.getElem_cons_succ, List.getElem_cons_zero, Act.put, List.setIfInBounds_toArray, List.set_cons_zero, List.set_cons_succ]
                    refine HT.take (i := 6) (oi := _) (v := ?_) rfl (by kernel_rfl) (by kernel_rfl) (by decide) (fun _ _ _ h => h) (Or.inl ⟨by rfl, ?_⟩) hS ?_
                    rotate_left
                    · intro wz
                      go_simp
                      try with_reducible rfl
                    simp only [List.getElem_toArray, List.getElem_cons_succ, List.getElem_cons_zero, Act.put, List.setIfInBounds_toArray, List.set_cons_zero, List.set_cons_succ]
                    refine HT.load (i := 7) (oi := _) (v := ?_) rfl (by kernel_rfl) (by kernel_rfl) (by decide) (fun _ _ _ h => h) (by kernel_rfl) (Or.inl ⟨by rfl, ?_⟩) hS ?_
                    rotate_left
                    · intro wz hwz
                      try dsimp only at hwz
                      go_simp
                      try with_reducible rfl
                    simp only [List.getElem_toArray, List.getElem_cons_succ, List.getElem_cons_zero, Act.put, List.setIfInBounds_toArray, List.set_cons_zero, List.set_cons_succ]
                    refine HT.take (i := 9) (oi := _) (v := ?_) rfl (by kernel_rfl) (by kernel_rfl) (by decide) (fun _ _ _ h => h) (Or.inl ⟨by rfl, ?_⟩) hS ?_
                    rotate_left
                    · intro wz
                      go_simp
                      try with_reducible rfl
                    simp only [List.getElem_toArray, List.getElem_cons_succ, List.getElem_cons_zero, Act.put, List.setIfInBounds_toArray, List.set_cons_zero, List.set_cons_succ]
                    refine HT.load (i := 10) (oi := _) (v := ?_) rfl (by kernel_rfl) (by kernel_rfl) (by decide) (fun _ _ _ h => h) (by kernel_rfl) (Or.inl ⟨by rfl, ?_⟩) hS ?_
                    rotate_left
                    · intro wz hwz
                      try dsimp only at hwz
                      go_simp
                      try with_reducible rfl
                    simp only [List.getElem_toArray, List.getElem_cons_succ, List.getElem_cons_zero, Act.put, List.setIfInBounds_toArray, List.set_cons_zero, List.set_cons_succ]
                    refine HT.take (i := 11) (oi := _) (v := ?_) rfl (by kernel_rfl) (by kernel_rfl) (by decide) (fun _ _ _ h => h) (Or.inl ⟨by rfl, ?_⟩) hS ?_
                    rotate_left
                    · intro wz
                      go_simp
                      try with_reducible rfl
                    simp only [List.getElem_toArray, List.getElem_cons_succ, List.getElem_cons_zero, Act.put, List.setIfInBounds_toArray, List.set_cons_zero, List.set_cons_succ]
                    refine HT.take (i := 12) (oi := _) (v := ?_) rfl (by kernel_rfl) (by kernel_rfl) (by decide) (fun _ _ _ h => h) (Or.inl ⟨by rfl, ?_⟩) hS ?_
                    rotate_left
                    · intro wz
                      go_simp
                      try with_reducible rfl
                    simp only [List.getElem_toArray, List.getElem_cons_succ, List.getElem_cons_zero, Act.put, List.setIfInBounds_toArray, List.set_cons_zero, List.set_cons_succ]
                    refine HT.load (i := 13) (oi := _) (v := ?_) rfl (by kernel_rfl) (by kernel_rfl) (by decide) (fun _ _ _ h => h) (by kernel_rfl) (Or.inl ⟨by rfl, ?_⟩) hS ?_
                    rotate_left
                    · intro wz hwz
                      try dsimp only at hwz
                      go_simp
                      try with_reducible rfl
                    simp only [List.getElem_toArray, List.getElem_cons_succ, List.getElem_cons_zero, Act.put, List.setIfInBounds_toArray, List.set_cons_zero, List.set_cons_succ]
                    refine HT.take (i := 14) (oi := _) (v := ?_) rfl (by kernel_rfl) (by kernel_rfl) (by decide) (fun _ _ _ h => h) (Or.inl ⟨by rfl, ?_⟩) hS ?_
                    rotate_left
                    · intro wz
                      go_simp
                      try with_reducible rfl
                    simp only [List.getElem_toArray, List.getElem_cons_succ, List.getElem_cons_zero, Act.put, List.setIfInBounds_toArray, List.set_cons_zero, List.set_cons_succ]
                    refine HT.take (i := 15) (oi := _) (v := ?_) rfl (by kernel_rfl) (by kernel_rfl) (by decide) (fun _ _ _ h => h) (Or.inl ⟨by rfl, ?_⟩) hS ?_
                    rotate_left
                    · intro wz
                      go_simp
                      try with_reducible rfl
                    simp only [List.getElem_toArray, List.getElem_cons_succ, List.getElem_cons_zero, Act.put, List.setIfInBounds_toArray, List.set_cons_zero, List.set_cons_succ]
                    refine HT.load (i := 16) (oi := _) (v := ?_) rfl (by kernel_rfl) (by kernel_rfl) (by decide) (fun _ _ _ h => h) (by kernel_rfl) (Or.inl ⟨by rfl, ?_⟩) hS ?_
                    rotate_left
                    · intro wz hwz
                      try dsimp only at hwz
                      go_simp
                      try with_reducible rfl
                    simp only [List.getElem_toArray, List.getElem_cons_succ, List.getElem_cons_zero, Act.put, List.setIfInBounds_toArray, List.set_cons_zero, List.set_cons_succ]
                    refine HT.one (i := 8) (o := _) rfl (by kernel_rfl) (by decide) (by rfl) ?_
                    intro K hK
                    go_simp
                    refine (ROF_ok HRq.out _).mono ?_
                    rintro e w10 ⟨ng5, A5, n5, c5, D5, m5, d5, rfl, h5, k5, l5, hb⟩
                    replace hb : Below wr.heap.size wr w10 := below_undrew hb
                    have H5 := Lib.hid h5
                    have HB10 := Lib.hid hb
                    have hS9 := HSS.out w10 HB10.out
                    refine hK.out _ _ hS9 ?_
                    clear hK K hS hb h5
                    have hS := hS9
                    clear hS9
                    try simp only [List.getElem_toArray, List.getElem_cons_succ, List.getElem_cons_zero, Act.put, List.setIfInBounds_toArray, List.set_cons_zero, List.set_cons_succ]
                    refine HT.one (i := 17) (o := _) rfl (by kernel_rfl) (by decide) (by rfl) ?_
                    intro K hK
                    go_simp
                    refine (RINT_any y (by omega) (by omega) _ (Lib.hid (HTB.out.below HB10.out))).mono ?_
                    rintro e w11 ⟨ng6, A6, n6, c6, D6, m6, d6, rfl, h6, k6, l6, hb⟩
                    have H6 := Lib.hid h6
                    have H51 := Lib.hid (H5.out.to hb (Nat.le_refl _) hb.size)
                    have HB11 := Lib.hid (HB10.out.trans (hb.mono HB10.out.size))
                    have hS9 := HSS.out w11 HB11.out
                    refine hK.out _ _ hS9 ?_
                    clear hK K hS hb h6 H5
                    have hS := hS9
                    clear hS9
                    try simp only [List.getElem_toArray, List.getElem_cons_succ, List.getElem_cons_zero, Act.put, List.setIfInBounds_toArray, List.set_cons_zero, List.set_cons_succ]
                    refine HT.one (i := 18) (o := _) rfl (by kernel_rfl) (by decide) (by rfl) ?_
                    intro K hK
                    go_simp
                    refine (RNTIMES_any ng5 ng6 A5 A6 D5 D6 n5 c5 m5 d5 n6 c6 m6 d6 q (y : Rat) (by omega) (by omega) (by omega) (by omega) _ w11.heap.size (Nat.le_refl _) H51 H6).mono ?_
                    rintro e w12 ⟨ng7, A7, n7, c7, D7, m7, d7, rfl, h7, k7, l7, hb⟩
                    have H7 := Lib.hid h7
                    have HB12 := Lib.hid (HB11.out.trans (hb.mono HB11.out.size))
                    have HS12 := Lib.hid (HS.out.to HB12.out (Nat.le_refl _) HB12.out.size)
                    have hS9 := HSS.out w12 HB12.out
                    refine hK.out _ _ hS9 ?_
                    clear hK K hS hb h7 H51 H6
                    have hS := hS9
                    clear hS9
                    try simp only [List.getElem_toArray, List.getElem_cons_succ, List.getElem_cons_zero, Act.put, List.setIfInBounds_toArray, List.set_cons_zero, List.set_cons_succ]
                    refine HT.one (i := 19) (o := _) rfl (by kernel_rfl) (by decide) (by rfl) ?_
                    intro K hK
                    go_simp
                    refine (RPLUS_any ng ng7 A1 A7 D1 D7 n1 c1 m1 d1 n7 c7 m7 d7 _ _ (by omega) (by omega) (by omega) (by omega) _ w12.heap.size (Nat.le_refl _) HS12 H7).mono ?_
                    rintro e w13 ⟨ng8, A8, n8, c8, D8, m8, d8, rfl, h8, k8, l8, hb⟩
                    rw [← HSU.out] at h8
                    have H8 := Lib.hid h8
                    have HB13 := Lib.hid (HB12.out.trans (hb.mono HB12.out.size))
                    have hS9 := HSS.out w13 HB13.out
                    refine hK.out _ _ hS9 ?_
                    clear hK K hS hb h8 HS12 H7
                    have hS := hS9
                    clear hS9
                    try simp only [List.getElem_toArray, List.getElem_cons_succ, List.getElem_cons_zero, Act.put, List.setIfInBounds_toArray, List.set_cons_zero, List.set_cons_succ]
                    refine HT.done (by kernel_rfl) ?_
                    clear hS
                    simp only [List.drop_succ_cons, List.drop_zero]
                    have HG13 := Lib.hid ((HB13.out.block w5.heap.size hgl).trans HG.out)
                    have HBj13 := Lib.hid (HBj.out.trans (HB13.out.mono HBj.out.size))
                    obtain ⟨t0, t1, t2, _, _, _⟩ := three_cells HG13.out
                    have hg8w := blk_lt HG13.out
                    go_wp2_with fail
                    go_roundw
                    case rel =>
                      refine ⟨u + 1, by omega, by go_num, ng8, A8, n8, c8, D8, m8, d8, by omega, by omega, ?_, ?_, ?_⟩
                      · exact Lib.hid (heap_set3 HG13.out)
                      · exact Lib.hid (numr_set3 _ _ _ HG13.out H8.out)
                      · exact Lib.hid (set3_below HBj13.out (Nat.le_refl _))
                    case measure => simp [intOf]; omega
                  · obtain rfl : n = u := by omega
                    have HK : Hid (cntK T k (j + 1) = cntK T k j + clipN (elOf (rowOf T k) j)) := cntK_step (by rw [HTm.out k hlt]; exact hjl)
                    have hcb := cntK_bd (T := T) (m := len0 xss) (k := k) (j := j) HTr.out (by rw [HTl.out]; omega) (by rw [HTl.out]; omega) (by omega)
                    have HNS : Hid (nearQ (sumQ (mxOf m k) xss j n) = elOf (rowOf T k) j) := by show _ = _; rw [HTe.out k j hlt hjl, hl.out]
                    have HEY : Hid (elOf (rowOf Y k) j = clipV (elOf (rowOf T k) j)) := HYe.out k j hlt hjl
                    obtain ⟨z, hz⟩ : ∃ z, elOf (rowOf T k) j = z := ⟨_, rfl⟩
                    obtain ⟨cc, hcc⟩ : ∃ cc, cntK T k j = cc := ⟨_, rfl⟩
                    rw [hz] at HK HNS HEY
                    rw [hcc] at hcb HK ⊢
                    obtain ⟨cb1, cb2⟩ := hcb
                    have hj0 : (0 : Int) ≤ (j : Int) := by omega
                    have hjn : (j : Int) < (len0 xss : Int) := by omega
                    obtain ⟨p0, p1, p2, _, _, _⟩ := three_cells HG.out
                    clear hz hcc
                    go_wp2_with fail
                    refine (RROUNDED2_any ng A1 D1 n1 c1 m1 d1 _ (by omega) (by omega) _ HTB wr.heap.size (Nat.le_refl _) HS).mono ?_
                    rintro e w9 ⟨rfl, hb9⟩
                    rw [HNS.out]
                    have hF9 := Lib.hid (HFr.out.next hgx hb9)
                    obtain ⟨b9, cap, hrk, hcap1, hcap2, -, hn3, hc3⟩ := hF9.out.slot (by rw [partK_length]; exact hkY.out) (partK_len hkY.out (HYm.out k hkY.out) hj) (by omega)
                    have HR := Lib.hid hrk
                    obtain ⟨q0, q1⟩ := hF9.out.cells hrk
                    obtain ⟨⟨vo, hvo⟩, hfz⟩ := hF9.out.elem hrk hjl
                    obtain ⟨y, hy⟩ : ∃ y, clipV z = y := ⟨_, rfl⟩
                    obtain ⟨y', hy'⟩ : ∃ y, clipN z = y := ⟨_, rfl⟩
                    have hy9 : 0 ≤ y' ∧ y' ≤ 1 := by rw [← hy']; unfold clipN; split <;> (try split) <;> omega
                    rw [hy] at HEY ⊢
                    rw [hy'] at HK ⊢
                    have hww := IntWalk.i64_in (cc + y') (by omega)
                    have HI6 := Lib.hid (hF9.out.put HR.out hkY.out (HYm.out k hkY.out) hjl HEY.out)
                    clear hy hy' hb9 p0 p1 p2 x0 x1 hrk HG HS HBj HFr HTB
                    unfold maxLen at hcap2
                    go_wp2_with fail
                    go_roundw
                    case rel => exact ⟨j + 1, by omega, by go_num, by rw [HK.out], HI6.out⟩
                    case measure => simp [intOf]; omega
              · obtain rfl : j = len0 xss := by omega
                go_wp2_with fail
                refine (RLONG_any r _ n c xss _ B hsz (hh.out.below hbi (Nat.le_refl _)) hn).mono ?_
                rintro e w4 ⟨rfl, hb4⟩
                have hi4 := Lib.hid (hF.out.next hgx hb4)
                clear hbi hsz hF hb4 x0 x1
                go_wp2_with fail
                go_roundw
                case rel => exact ⟨k + 1, by omega, by go_num, by rw [cntK_next (by rw [HTl.out]; exact hlt) (HTm.out k hlt)], by have := hi4.out; rw [partK_next HYm.out] at this; exact this⟩
                case measure => simp [intOf]; omega
          · obtain rfl : k = pm := by omega
            have hI9 := hF.out
            rw [partK_end HY.out] at hI9
            have HI9 := Lib.hid hI9
            rw [cntK_all HTl.out]
            obtain ⟨hcg0, hcg1, _, _⟩ := two_cells hI9.box
            have HR9 := Lib.hid ((hI9.below.block g2 hg29).trans HRX.out)
            obtain ⟨hcr0, hcr1, hfr0, hfr1⟩ := two_cells HR9.out
            have hne3 : ¬ g = g2 := by omega
            have hne4 : ¬ g2 = g := by omega
            clear hI9 hF
            go_wp2_with fail
            refine end_snd3 rfl rfl rfl hcr0 hcr1 ?_
            have hbw9 : Below w.heap.size w wk := HBX9.out.trans (HI9.out.below.mono hwgc)
            exact ⟨_, by rfl, ⟨rows, ((HI9.out.own.set_below (p := ⟨g2, 0, none⟩) (by simp; omega) _).set_below (p := ⟨g2, 1, none⟩) (by simp; omega) _).base hwgc⟩, set2_below hbw9 HG2.out⟩
end Go.Proofs.YtnhmhjhfoonakaaGreatDoor

/- Route, the document's: all ways. -/
set_option linter.unusedSimpArgs false
set_option linter.unusedVariables false
namespace Go.Proofs.YtnhmhjhfoonakaaGreatDoor
open Go.RowKit Go.Dw
theorem RROUTE_any (r : Int) (A AM : Option Addr) (n c pm cm : Nat) (xss : List (List Int)) (m : List (List Rx)) (w : World) (htab : Hid (TabAt w)) (B : Nat) (hB : B ≤ w.heap.size) (hh : RowsAt w B A n xss) (HM : MatAt w B AM pm m) :
    Calls Tryz.prog 11 #[.agg #[.int .i64 r, .slice A n c], .slice AM pm cm] w (OutS3 w (rouS r xss m).1 (rouS r xss m).2.1 (rouS r xss m).2.2.1 (rouS r xss m).2.2.2) := by
  unfold rouS
  by_cases hc : chkS r xss = 0
  · rw [if_neg (by simp [hc])]
    have hok := chkS_ok hc
    have hn : 0 < n := by have := hok.some; have := hh.1; omega
    obtain ⟨ad, rfl⟩ := hh.addr hn
    have hl := hh.1
    have hm := HM.1
    by_cases hd : m.length < 1 ∨ 16 < m.length
    · rw [if_pos hd]; exact RROUTE_few r (some ad) AM n c pm cm xss hc (by omega) w B hB hh
    · rw [if_neg hd, hl]
      by_cases he : chkM n m = 0
      · rw [if_neg (by simp [he])]; exact RROUTE_ok r ad AM n c pm cm xss m hc hok (by omega) (by omega) he w htab B hB hh HM
      · rw [if_pos he]; exact RROUTE_mat r (some ad) AM n c pm cm xss m (chkM n m) he hc (by omega) (by omega) rfl w B hB hh HM
  · rw [if_pos hc]; exact RROUTE_chk r A AM n c pm cm xss hc w B hB hh
end Go.Proofs.YtnhmhjhfoonakaaGreatDoor
