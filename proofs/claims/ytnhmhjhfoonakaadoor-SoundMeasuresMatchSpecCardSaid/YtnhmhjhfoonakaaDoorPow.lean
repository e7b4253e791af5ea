/- Power on both sides. -/
import Derived.Test.YtnhmhjhfoonakaaDoorCrg
import Derived.Test.YtnhmhjhfoonakaaDoorCutF
import Derived.Test.YtnhmhjhfoonakaaDoorCro
import Derived.Test.YtnhmhjhfoonakaaDoorRk
import Derived.RegionTactic
set_option linter.unusedSimpArgs false
set_option linter.unusedVariables false
namespace Go.Proofs.YtnhmhjhfoonakaaDoor
open Go.RowKit Go.Dw
attribute [local go_sem ↓] Go.wp_at_zero Go.wp_at_succ
theorem rat_ne0 {b : Int} (h : b ≠ 0) : (b : Rat) ≠ 0 := fun h' => h (by have := congrArg Rat.num h'; simpa using this)
/-- what Power returns -/
def powS (r : Int) (xss : List (List Int)) (t p q : Int) : R3 :=
  if chkS r xss ≠ 0 then (noB, noB, chkS r xss) else if t < 0 ∨ (xss.length : Int) ≤ t then (noB, noB, 1) else if cutF p q (len0 xss) ≠ 0 then (noB, noB, cutF p q (len0 xss))
  else if p = q then (noB, noB, 13) else ratioS (stR sqU 0 (cutRow p.toNat q.toNat (rowOf xss t.toNat))) (q - p)
set_option maxHeartbeats 1600000 in
theorem POWER_chk (r : Int) (A : Option Addr) (n c : Nat) (t p q : Int) (xss : List (List Int)) (hc : chkS r xss ≠ 0) (w : World) (B : Nat) (hB : B ≤ w.heap.size) (hh : Hid (RowsAt w B A n xss)) :
    Calls Tryd.prog 14 #[.agg #[.int .i64 r, .slice A n c], .int .i64 t, .agg #[.int .i64 p, .int .i64 q]] w fun e w' => e = .returned (tup3 (noB, noB, chkS r xss)) ∧ Below w.heap.size w w' := by
  have hq : (chkS r xss != 0) = true := by simpa using hc
  clear hc
  obtain ⟨W, gx, hW, hgx, HHW, HBX, HSW⟩ := boxes3 w (.cells #[.int .i64 r, .slice (A) n c] 24) (.cells #[.int .i64 p, .int .i64 q] 40) (.cells #[.string ⟨#[]⟩, .string ⟨#[]⟩] 42)
  have HGX := Lib.hid hgx
  obtain ⟨x0, x1, _, _⟩ := two_cells HHW.out.1
  obtain ⟨y0, y1, _, _⟩ := two_cells HHW.out.2.1
  have hgw := blk_lt HHW.out.2.2
  have hh1 := hh.out.below HBX.out hB
  have hB1 := Nat.le_trans hB HBX.out.size
  go_enter Tryd.func14, Tryd.ntmps14
  go_upto_region 1 with (fail)
  rw [← hW, ← hgx]
  clear hW hgx
  go_wp2_with fail
  refine (CHECK_any r (A) n c xss _ B hB1 hh1).mono ?_
  rintro e w1 ⟨rfl, hb1⟩
  clear x0 x1 y0 y1
  replace HHW := Lib.hid (And.intro ((hb1.block gx (by omega)).trans HHW.out.1) (And.intro ((hb1.block (gx + 1) (by omega)).trans HHW.out.2.1) ((hb1.block (gx + 1 + 1) hgw).trans HHW.out.2.2)))
  replace hgw := Nat.lt_of_lt_of_le hgw hb1.size
  obtain ⟨x0, x1, _, _⟩ := two_cells HHW.out.1
  obtain ⟨y0, y1, _, _⟩ := two_cells HHW.out.2.1
  replace HBX := Lib.hid (HBX.out.trans (hb1.mono HBX.out.size))
  clear hh1 hB1 hb1
  obtain ⟨hr0, hr1, hf0, hf1⟩ := two_cells HHW.out.2.2
  go_wp2_with fail
  exact end_ratio rfl rfl rfl hr0 hr1 ⟨rfl, set2_below' HBX.out (by have := HGX.out; omega)⟩
set_option maxHeartbeats 1600000 in
theorem POWER_bad (r : Int) (A : Option Addr) (n c : Nat) (t p q : Int) (xss : List (List Int)) (hc : Hid (chkS r xss = 0)) (hbad : t < 0 ∨ (n : Int) ≤ t) (w : World) (B : Nat) (hB : B ≤ w.heap.size) (hh : Hid (RowsAt w B A n xss)) :
    Calls Tryd.prog 14 #[.agg #[.int .i64 r, .slice A n c], .int .i64 t, .agg #[.int .i64 p, .int .i64 q]] w fun e w' => e = .returned (tup3 (noB, noB, 1)) ∧ Below w.heap.size w w' := by
  have hq : (chkS r xss != 0) = false := by rw [hc.out]; rfl
  by_cases h1 : t < 0
  · have d1 : decide (t < 0) = true := by simpa using h1
    clear h1 hbad
    obtain ⟨W, gx, hW, hgx, HHW, HBX, HSW⟩ := boxes3 w (.cells #[.int .i64 r, .slice (A) n c] 24) (.cells #[.int .i64 p, .int .i64 q] 40) (.cells #[.string ⟨#[]⟩, .string ⟨#[]⟩] 42)
    have HGX := Lib.hid hgx
    obtain ⟨x0, x1, _, _⟩ := two_cells HHW.out.1
    obtain ⟨y0, y1, _, _⟩ := two_cells HHW.out.2.1
    have hgw := blk_lt HHW.out.2.2
    have hh1 := hh.out.below HBX.out hB
    have hB1 := Nat.le_trans hB HBX.out.size
    go_enter Tryd.func14, Tryd.ntmps14
    go_upto_region 1 with (fail)
    rw [← hW, ← hgx]
    clear hW hgx
    go_wp2_with fail
    refine (CHECK_any r (A) n c xss _ B hB1 hh1).mono ?_
    rintro e w1 ⟨rfl, hb1⟩
    clear x0 x1 y0 y1
    replace HHW := Lib.hid (And.intro ((hb1.block gx (by omega)).trans HHW.out.1) (And.intro ((hb1.block (gx + 1) (by omega)).trans HHW.out.2.1) ((hb1.block (gx + 1 + 1) hgw).trans HHW.out.2.2)))
    replace hgw := Nat.lt_of_lt_of_le hgw hb1.size
    obtain ⟨x0, x1, _, _⟩ := two_cells HHW.out.1
    obtain ⟨y0, y1, _, _⟩ := two_cells HHW.out.2.1
    replace HBX := Lib.hid (HBX.out.trans (hb1.mono HBX.out.size))
    clear hh1 hB1 hb1
    obtain ⟨hr0, hr1, hf0, hf1⟩ := two_cells HHW.out.2.2
    go_wp2_with fail
    exact end_ratio rfl rfl rfl hr0 hr1 ⟨rfl, set2_below' HBX.out (by have := HGX.out; omega)⟩
  · have d1 : decide (t < 0) = false := by simpa using h1
    have d2 : decide ((n : Int) ≤ t) = true := by simp; omega
    clear h1 hbad
    obtain ⟨W, gx, hW, hgx, HHW, HBX, HSW⟩ := boxes3 w (.cells #[.int .i64 r, .slice (A) n c] 24) (.cells #[.int .i64 p, .int .i64 q] 40) (.cells #[.string ⟨#[]⟩, .string ⟨#[]⟩] 42)
    have HGX := Lib.hid hgx
    obtain ⟨x0, x1, _, _⟩ := two_cells HHW.out.1
    obtain ⟨y0, y1, _, _⟩ := two_cells HHW.out.2.1
    have hgw := blk_lt HHW.out.2.2
    have hh1 := hh.out.below HBX.out hB
    have hB1 := Nat.le_trans hB HBX.out.size
    go_enter Tryd.func14, Tryd.ntmps14
    go_upto_region 1 with (fail)
    rw [← hW, ← hgx]
    clear hW hgx
    go_wp2_with fail
    refine (CHECK_any r (A) n c xss _ B hB1 hh1).mono ?_
    rintro e w1 ⟨rfl, hb1⟩
    clear x0 x1 y0 y1
    replace HHW := Lib.hid (And.intro ((hb1.block gx (by omega)).trans HHW.out.1) (And.intro ((hb1.block (gx + 1) (by omega)).trans HHW.out.2.1) ((hb1.block (gx + 1 + 1) hgw).trans HHW.out.2.2)))
    replace hgw := Nat.lt_of_lt_of_le hgw hb1.size
    obtain ⟨x0, x1, _, _⟩ := two_cells HHW.out.1
    obtain ⟨y0, y1, _, _⟩ := two_cells HHW.out.2.1
    replace HBX := Lib.hid (HBX.out.trans (hb1.mono HBX.out.size))
    clear hh1 hB1 hb1
    obtain ⟨hr0, hr1, hf0, hf1⟩ := two_cells HHW.out.2.2
    go_wp2_with fail
    exact end_ratio rfl rfl rfl hr0 hr1 ⟨rfl, set2_below' HBX.out (by have := HGX.out; omega)⟩
set_option maxHeartbeats 1600000 in
theorem POWER_cut (r : Int) (A : Option Addr) (n c t : Nat) (p q : Int) (xss : List (List Int)) (hc : Hid (chkS r xss = 0)) (ht : t < n) (hd : cutF p q (len0 xss) ≠ 0) (w : World) (B : Nat) (hB : B ≤ w.heap.size) (hh : Hid (RowsAt w B A n xss)) :
    Calls Tryd.prog 14 #[.agg #[.int .i64 r, .slice A n c], .int .i64 t, .agg #[.int .i64 p, .int .i64 q]] w fun e w' => e = .returned (tup3 (noB, noB, cutF p q (len0 xss))) ∧ Below w.heap.size w w' := by
  have hq : (chkS r xss != 0) = false := by rw [hc.out]; rfl
  have hq2 : (cutF p q (len0 xss) != 0) = true := by simpa using hd
  have d1 : decide ((t : Int) < 0) = false := by simp
  have d2 : decide (n ≤ t) = false := by simp; omega
  have hn : 0 < n := by omega
  clear hd
  obtain ⟨W, gx, hW, hgx, HHW, HBX, HSW⟩ := boxes3 w (.cells #[.int .i64 r, .slice (A) n c] 24) (.cells #[.int .i64 p, .int .i64 q] 40) (.cells #[.string ⟨#[]⟩, .string ⟨#[]⟩] 42)
  have HGX := Lib.hid hgx
  obtain ⟨x0, x1, _, _⟩ := two_cells HHW.out.1
  obtain ⟨y0, y1, _, _⟩ := two_cells HHW.out.2.1
  have hgw := blk_lt HHW.out.2.2
  have hh1 := hh.out.below HBX.out hB
  have hB1 := Nat.le_trans hB HBX.out.size
  go_enter Tryd.func14, Tryd.ntmps14
  go_upto_region 1 with (fail)
  rw [← hW, ← hgx]
  clear hW hgx
  go_wp2_with fail
  refine (CHECK_any r (A) n c xss _ B hB1 hh1).mono ?_
  rintro e w1 ⟨rfl, hb1⟩
  clear x0 x1 y0 y1
  replace HHW := Lib.hid (And.intro ((hb1.block gx (by omega)).trans HHW.out.1) (And.intro ((hb1.block (gx + 1) (by omega)).trans HHW.out.2.1) ((hb1.block (gx + 1 + 1) hgw).trans HHW.out.2.2)))
  replace hgw := Nat.lt_of_lt_of_le hgw hb1.size
  obtain ⟨x0, x1, _, _⟩ := two_cells HHW.out.1
  obtain ⟨y0, y1, _, _⟩ := two_cells HHW.out.2.1
  replace HBX := Lib.hid (HBX.out.trans (hb1.mono HBX.out.size))
  clear hh1 hB1 hb1
  go_wp2_with fail
  refine (CHECKCUT_any r (A) n c p q xss hn _ B (Nat.le_trans hB HBX.out.size) (hh.out.below HBX.out hB)).mono ?_
  rintro e w2 ⟨rfl, hb1⟩
  clear x0 x1 y0 y1
  replace HHW := Lib.hid (And.intro ((hb1.block gx (by omega)).trans HHW.out.1) (And.intro ((hb1.block (gx + 1) (by omega)).trans HHW.out.2.1) ((hb1.block (gx + 1 + 1) hgw).trans HHW.out.2.2)))
  replace hgw := Nat.lt_of_lt_of_le hgw hb1.size
  obtain ⟨x0, x1, _, _⟩ := two_cells HHW.out.1
  obtain ⟨y0, y1, _, _⟩ := two_cells HHW.out.2.1
  replace HBX := Lib.hid (HBX.out.trans (hb1.mono HBX.out.size))
  clear hb1
  obtain ⟨hr0, hr1, hf0, hf1⟩ := two_cells HHW.out.2.2
  go_wp2_with fail
  exact end_ratio rfl rfl rfl hr0 hr1 ⟨rfl, set2_below' HBX.out (by have := HGX.out; omega)⟩
set_option maxHeartbeats 1600000 in
theorem POWER_nil (r : Int) (A : Option Addr) (n c t : Nat) (p : Int) (xss : List (List Int)) (hc : Hid (chkS r xss = 0)) (ht : t < n) (hd : Hid (cutF p p (len0 xss) = 0)) (w : World) (B : Nat) (hB : B ≤ w.heap.size) (hh : Hid (RowsAt w B A n xss)) :
    Calls Tryd.prog 14 #[.agg #[.int .i64 r, .slice A n c], .int .i64 t, .agg #[.int .i64 p, .int .i64 p]] w fun e w' => e = .returned (tup3 (noB, noB, 13)) ∧ Below w.heap.size w w' := by
  have hq : (chkS r xss != 0) = false := by rw [hc.out]; rfl
  have hq2 : (cutF p p (len0 xss) != 0) = false := by rw [hd.out]; rfl
  have d1 : decide ((t : Int) < 0) = false := by simp
  have d2 : decide (n ≤ t) = false := by simp; omega
  have hn : 0 < n := by omega
  obtain ⟨q, hpq⟩ : ∃ q, q = p := ⟨_, rfl⟩
  have d3 : (p == p) = true := by simp
  clear hpq q
  obtain ⟨W, gx, hW, hgx, HHW, HBX, HSW⟩ := boxes3 w (.cells #[.int .i64 r, .slice (A) n c] 24) (.cells #[.int .i64 p, .int .i64 p] 40) (.cells #[.string ⟨#[]⟩, .string ⟨#[]⟩] 42)
  have HGX := Lib.hid hgx
  obtain ⟨x0, x1, _, _⟩ := two_cells HHW.out.1
  obtain ⟨y0, y1, _, _⟩ := two_cells HHW.out.2.1
  have hgw := blk_lt HHW.out.2.2
  have hh1 := hh.out.below HBX.out hB
  have hB1 := Nat.le_trans hB HBX.out.size
  go_enter Tryd.func14, Tryd.ntmps14
  go_upto_region 1 with (fail)
  rw [← hW, ← hgx]
  clear hW hgx
  go_wp2_with fail
  refine (CHECK_any r (A) n c xss _ B hB1 hh1).mono ?_
  rintro e w1 ⟨rfl, hb1⟩
  clear x0 x1 y0 y1
  replace HHW := Lib.hid (And.intro ((hb1.block gx (by omega)).trans HHW.out.1) (And.intro ((hb1.block (gx + 1) (by omega)).trans HHW.out.2.1) ((hb1.block (gx + 1 + 1) hgw).trans HHW.out.2.2)))
  replace hgw := Nat.lt_of_lt_of_le hgw hb1.size
  obtain ⟨x0, x1, _, _⟩ := two_cells HHW.out.1
  obtain ⟨y0, y1, _, _⟩ := two_cells HHW.out.2.1
  replace HBX := Lib.hid (HBX.out.trans (hb1.mono HBX.out.size))
  clear hh1 hB1 hb1
  go_wp2_with fail
  refine (CHECKCUT_any r (A) n c p p xss hn _ B (Nat.le_trans hB HBX.out.size) (hh.out.below HBX.out hB)).mono ?_
  rintro e w2 ⟨rfl, hb1⟩
  clear x0 x1 y0 y1
  replace HHW := Lib.hid (And.intro ((hb1.block gx (by omega)).trans HHW.out.1) (And.intro ((hb1.block (gx + 1) (by omega)).trans HHW.out.2.1) ((hb1.block (gx + 1 + 1) hgw).trans HHW.out.2.2)))
  replace hgw := Nat.lt_of_lt_of_le hgw hb1.size
  obtain ⟨x0, x1, _, _⟩ := two_cells HHW.out.1
  obtain ⟨y0, y1, _, _⟩ := two_cells HHW.out.2.1
  replace HBX := Lib.hid (HBX.out.trans (hb1.mono HBX.out.size))
  clear hb1
  obtain ⟨hr0, hr1, hf0, hf1⟩ := two_cells HHW.out.2.2
  go_wp2_with fail
  exact end_ratio rfl rfl rfl hr0 hr1 ⟨rfl, set2_below' HBX.out (by have := HGX.out; omega)⟩
set_option maxHeartbeats 1600000 in
theorem RPOWER_chk (r : Int) (A : Option Addr) (n c : Nat) (t p q : Int) (xss : List (List Int)) (hc : chkS r xss ≠ 0) (w : World) (B : Nat) (hB : B ≤ w.heap.size) (hh : Hid (RowsAt w B A n xss)) :
    Calls Tryd.prog 15 #[.agg #[.int .i64 r, .slice A n c], .int .i64 t, .agg #[.int .i64 p, .int .i64 q]] w fun e w' => e = .returned (tup3 (noB, noB, chkS r xss)) ∧ Below w.heap.size w w' := by
  have hq : (chkS r xss != 0) = true := by simpa using hc
  clear hc
  obtain ⟨W, gx, hW, hgx, HHW, HBX, HSW⟩ := boxes3 w (.cells #[.int .i64 r, .slice (A) n c] 24) (.cells #[.int .i64 p, .int .i64 q] 40) (.cells #[.string ⟨#[]⟩, .string ⟨#[]⟩] 42)
  have HGX := Lib.hid hgx
  obtain ⟨x0, x1, _, _⟩ := two_cells HHW.out.1
  obtain ⟨y0, y1, _, _⟩ := two_cells HHW.out.2.1
  have hgw := blk_lt HHW.out.2.2
  have hh1 := hh.out.below HBX.out hB
  have hB1 := Nat.le_trans hB HBX.out.size
  go_enter Tryd.func15, Tryd.ntmps15
  go_upto_region 1 with (fail)
  rw [← hW, ← hgx]
  clear hW hgx
  go_wp2_with fail
  refine (RCHECK_any r (A) n c xss _ B hB1 hh1).mono ?_
  rintro e w1 ⟨rfl, hb1⟩
  clear x0 x1 y0 y1
  replace HHW := Lib.hid (And.intro ((hb1.block gx (by omega)).trans HHW.out.1) (And.intro ((hb1.block (gx + 1) (by omega)).trans HHW.out.2.1) ((hb1.block (gx + 1 + 1) hgw).trans HHW.out.2.2)))
  replace hgw := Nat.lt_of_lt_of_le hgw hb1.size
  obtain ⟨x0, x1, _, _⟩ := two_cells HHW.out.1
  obtain ⟨y0, y1, _, _⟩ := two_cells HHW.out.2.1
  replace HBX := Lib.hid (HBX.out.trans (hb1.mono HBX.out.size))
  clear hh1 hB1 hb1
  obtain ⟨hr0, hr1, hf0, hf1⟩ := two_cells HHW.out.2.2
  go_wp2_with fail
  exact end_ratio rfl rfl rfl hr0 hr1 ⟨rfl, set2_below' HBX.out (by have := HGX.out; omega)⟩
set_option maxHeartbeats 1600000 in
theorem RPOWER_bad (r : Int) (A : Option Addr) (n c : Nat) (t p q : Int) (xss : List (List Int)) (hc : Hid (chkS r xss = 0)) (hbad : t < 0 ∨ (n : Int) ≤ t) (w : World) (B : Nat) (hB : B ≤ w.heap.size) (hh : Hid (RowsAt w B A n xss)) :
    Calls Tryd.prog 15 #[.agg #[.int .i64 r, .slice A n c], .int .i64 t, .agg #[.int .i64 p, .int .i64 q]] w fun e w' => e = .returned (tup3 (noB, noB, 1)) ∧ Below w.heap.size w w' := by
  have hq : (chkS r xss != 0) = false := by rw [hc.out]; rfl
  by_cases h1 : t < 0
  · have d1 : decide (t < 0) = true := by simpa using h1
    clear h1 hbad
    obtain ⟨W, gx, hW, hgx, HHW, HBX, HSW⟩ := boxes3 w (.cells #[.int .i64 r, .slice (A) n c] 24) (.cells #[.int .i64 p, .int .i64 q] 40) (.cells #[.string ⟨#[]⟩, .string ⟨#[]⟩] 42)
    have HGX := Lib.hid hgx
    obtain ⟨x0, x1, _, _⟩ := two_cells HHW.out.1
    obtain ⟨y0, y1, _, _⟩ := two_cells HHW.out.2.1
    have hgw := blk_lt HHW.out.2.2
    have hh1 := hh.out.below HBX.out hB
    have hB1 := Nat.le_trans hB HBX.out.size
    go_enter Tryd.func15, Tryd.ntmps15
    go_upto_region 1 with (fail)
    rw [← hW, ← hgx]
    clear hW hgx
    go_wp2_with fail
    refine (RCHECK_any r (A) n c xss _ B hB1 hh1).mono ?_
    rintro e w1 ⟨rfl, hb1⟩
    clear x0 x1 y0 y1
    replace HHW := Lib.hid (And.intro ((hb1.block gx (by omega)).trans HHW.out.1) (And.intro ((hb1.block (gx + 1) (by omega)).trans HHW.out.2.1) ((hb1.block (gx + 1 + 1) hgw).trans HHW.out.2.2)))
    replace hgw := Nat.lt_of_lt_of_le hgw hb1.size
    obtain ⟨x0, x1, _, _⟩ := two_cells HHW.out.1
    obtain ⟨y0, y1, _, _⟩ := two_cells HHW.out.2.1
    replace HBX := Lib.hid (HBX.out.trans (hb1.mono HBX.out.size))
    clear hh1 hB1 hb1
    obtain ⟨hr0, hr1, hf0, hf1⟩ := two_cells HHW.out.2.2
    go_wp2_with fail
    exact end_ratio rfl rfl rfl hr0 hr1 ⟨rfl, set2_below' HBX.out (by have := HGX.out; omega)⟩
  · have d1 : decide (t < 0) = false := by simpa using h1
    have d2 : decide ((n : Int) ≤ t) = true := by simp; omega
    clear h1 hbad
    obtain ⟨W, gx, hW, hgx, HHW, HBX, HSW⟩ := boxes3 w (.cells #[.int .i64 r, .slice (A) n c] 24) (.cells #[.int .i64 p, .int .i64 q] 40) (.cells #[.string ⟨#[]⟩, .string ⟨#[]⟩] 42)
    have HGX := Lib.hid hgx
    obtain ⟨x0, x1, _, _⟩ := two_cells HHW.out.1
    obtain ⟨y0, y1, _, _⟩ := two_cells HHW.out.2.1
    have hgw := blk_lt HHW.out.2.2
    have hh1 := hh.out.below HBX.out hB
    have hB1 := Nat.le_trans hB HBX.out.size
    go_enter Tryd.func15, Tryd.ntmps15
    go_upto_region 1 with (fail)
    rw [← hW, ← hgx]
    clear hW hgx
    go_wp2_with fail
    refine (RCHECK_any r (A) n c xss _ B hB1 hh1).mono ?_
    rintro e w1 ⟨rfl, hb1⟩
    clear x0 x1 y0 y1
    replace HHW := Lib.hid (And.intro ((hb1.block gx (by omega)).trans HHW.out.1) (And.intro ((hb1.block (gx + 1) (by omega)).trans HHW.out.2.1) ((hb1.block (gx + 1 + 1) hgw).trans HHW.out.2.2)))
    replace hgw := Nat.lt_of_lt_of_le hgw hb1.size
    obtain ⟨x0, x1, _, _⟩ := two_cells HHW.out.1
    obtain ⟨y0, y1, _, _⟩ := two_cells HHW.out.2.1
    replace HBX := Lib.hid (HBX.out.trans (hb1.mono HBX.out.size))
    clear hh1 hB1 hb1
    obtain ⟨hr0, hr1, hf0, hf1⟩ := two_cells HHW.out.2.2
    go_wp2_with fail
    exact end_ratio rfl rfl rfl hr0 hr1 ⟨rfl, set2_below' HBX.out (by have := HGX.out; omega)⟩
set_option maxHeartbeats 1600000 in
theorem RPOWER_cut (r : Int) (A : Option Addr) (n c t : Nat) (p q : Int) (xss : List (List Int)) (hc : Hid (chkS r xss = 0)) (ht : t < n) (hd : cutF p q (len0 xss) ≠ 0) (w : World) (B : Nat) (hB : B ≤ w.heap.size) (hh : Hid (RowsAt w B A n xss)) :
    Calls Tryd.prog 15 #[.agg #[.int .i64 r, .slice A n c], .int .i64 t, .agg #[.int .i64 p, .int .i64 q]] w fun e w' => e = .returned (tup3 (noB, noB, cutF p q (len0 xss))) ∧ Below w.heap.size w w' := by
  have hq : (chkS r xss != 0) = false := by rw [hc.out]; rfl
  have hq2 : (cutF p q (len0 xss) != 0) = true := by simpa using hd
  have d1 : decide ((t : Int) < 0) = false := by simp
  have d2 : decide (n ≤ t) = false := by simp; omega
  have hn : 0 < n := by omega
  clear hd
  obtain ⟨W, gx, hW, hgx, HHW, HBX, HSW⟩ := boxes3 w (.cells #[.int .i64 r, .slice (A) n c] 24) (.cells #[.int .i64 p, .int .i64 q] 40) (.cells #[.string ⟨#[]⟩, .string ⟨#[]⟩] 42)
  have HGX := Lib.hid hgx
  obtain ⟨x0, x1, _, _⟩ := two_cells HHW.out.1
  obtain ⟨y0, y1, _, _⟩ := two_cells HHW.out.2.1
  have hgw := blk_lt HHW.out.2.2
  have hh1 := hh.out.below HBX.out hB
  have hB1 := Nat.le_trans hB HBX.out.size
  go_enter Tryd.func15, Tryd.ntmps15
  go_upto_region 1 with (fail)
  rw [← hW, ← hgx]
  clear hW hgx
  go_wp2_with fail
  refine (RCHECK_any r (A) n c xss _ B hB1 hh1).mono ?_
  rintro e w1 ⟨rfl, hb1⟩
  clear x0 x1 y0 y1
  replace HHW := Lib.hid (And.intro ((hb1.block gx (by omega)).trans HHW.out.1) (And.intro ((hb1.block (gx + 1) (by omega)).trans HHW.out.2.1) ((hb1.block (gx + 1 + 1) hgw).trans HHW.out.2.2)))
  replace hgw := Nat.lt_of_lt_of_le hgw hb1.size
  obtain ⟨x0, x1, _, _⟩ := two_cells HHW.out.1
  obtain ⟨y0, y1, _, _⟩ := two_cells HHW.out.2.1
  replace HBX := Lib.hid (HBX.out.trans (hb1.mono HBX.out.size))
  clear hh1 hB1 hb1
  go_wp2_with fail
  refine (RWITHIN_any r (A) n c p q xss hn _ B (Nat.le_trans hB HBX.out.size) (hh.out.below HBX.out hB)).mono ?_
  rintro e w2 ⟨rfl, hb1⟩
  clear x0 x1 y0 y1
  replace HHW := Lib.hid (And.intro ((hb1.block gx (by omega)).trans HHW.out.1) (And.intro ((hb1.block (gx + 1) (by omega)).trans HHW.out.2.1) ((hb1.block (gx + 1 + 1) hgw).trans HHW.out.2.2)))
  replace hgw := Nat.lt_of_lt_of_le hgw hb1.size
  obtain ⟨x0, x1, _, _⟩ := two_cells HHW.out.1
  obtain ⟨y0, y1, _, _⟩ := two_cells HHW.out.2.1
  replace HBX := Lib.hid (HBX.out.trans (hb1.mono HBX.out.size))
  clear hb1
  obtain ⟨hr0, hr1, hf0, hf1⟩ := two_cells HHW.out.2.2
  go_wp2_with fail
  exact end_ratio rfl rfl rfl hr0 hr1 ⟨rfl, set2_below' HBX.out (by have := HGX.out; omega)⟩
set_option maxHeartbeats 1600000 in
theorem RPOWER_nil (r : Int) (A : Option Addr) (n c t : Nat) (p : Int) (xss : List (List Int)) (hc : Hid (chkS r xss = 0)) (ht : t < n) (hd : Hid (cutF p p (len0 xss) = 0)) (w : World) (B : Nat) (hB : B ≤ w.heap.size) (hh : Hid (RowsAt w B A n xss)) :
    Calls Tryd.prog 15 #[.agg #[.int .i64 r, .slice A n c], .int .i64 t, .agg #[.int .i64 p, .int .i64 p]] w fun e w' => e = .returned (tup3 (noB, noB, 13)) ∧ Below w.heap.size w w' := by
  have hq : (chkS r xss != 0) = false := by rw [hc.out]; rfl
  have hq2 : (cutF p p (len0 xss) != 0) = false := by rw [hd.out]; rfl
  have d1 : decide ((t : Int) < 0) = false := by simp
  have d2 : decide (n ≤ t) = false := by simp; omega
  have hn : 0 < n := by omega
  obtain ⟨q, hpq⟩ : ∃ q, q = p := ⟨_, rfl⟩
  have d3 : (p == p) = true := by simp
  clear hpq q
  obtain ⟨W, gx, hW, hgx, HHW, HBX, HSW⟩ := boxes3 w (.cells #[.int .i64 r, .slice (A) n c] 24) (.cells #[.int .i64 p, .int .i64 p] 40) (.cells #[.string ⟨#[]⟩, .string ⟨#[]⟩] 42)
  have HGX := Lib.hid hgx
  obtain ⟨x0, x1, _, _⟩ := two_cells HHW.out.1
  obtain ⟨y0, y1, _, _⟩ := two_cells HHW.out.2.1
  have hgw := blk_lt HHW.out.2.2
  have hh1 := hh.out.below HBX.out hB
  have hB1 := Nat.le_trans hB HBX.out.size
  go_enter Tryd.func15, Tryd.ntmps15
  go_upto_region 1 with (fail)
  rw [← hW, ← hgx]
  clear hW hgx
  go_wp2_with fail
  refine (RCHECK_any r (A) n c xss _ B hB1 hh1).mono ?_
  rintro e w1 ⟨rfl, hb1⟩
  clear x0 x1 y0 y1
  replace HHW := Lib.hid (And.intro ((hb1.block gx (by omega)).trans HHW.out.1) (And.intro ((hb1.block (gx + 1) (by omega)).trans HHW.out.2.1) ((hb1.block (gx + 1 + 1) hgw).trans HHW.out.2.2)))
  replace hgw := Nat.lt_of_lt_of_le hgw hb1.size
  obtain ⟨x0, x1, _, _⟩ := two_cells HHW.out.1
  obtain ⟨y0, y1, _, _⟩ := two_cells HHW.out.2.1
  replace HBX := Lib.hid (HBX.out.trans (hb1.mono HBX.out.size))
  clear hh1 hB1 hb1
  go_wp2_with fail
  refine (RWITHIN_any r (A) n c p p xss hn _ B (Nat.le_trans hB HBX.out.size) (hh.out.below HBX.out hB)).mono ?_
  rintro e w2 ⟨rfl, hb1⟩
  clear x0 x1 y0 y1
  replace HHW := Lib.hid (And.intro ((hb1.block gx (by omega)).trans HHW.out.1) (And.intro ((hb1.block (gx + 1) (by omega)).trans HHW.out.2.1) ((hb1.block (gx + 1 + 1) hgw).trans HHW.out.2.2)))
  replace hgw := Nat.lt_of_lt_of_le hgw hb1.size
  obtain ⟨x0, x1, _, _⟩ := two_cells HHW.out.1
  obtain ⟨y0, y1, _, _⟩ := two_cells HHW.out.2.1
  replace HBX := Lib.hid (HBX.out.trans (hb1.mono HBX.out.size))
  clear hb1
  obtain ⟨hr0, hr1, hf0, hf1⟩ := two_cells HHW.out.2.2
  go_wp2_with fail
  exact end_ratio rfl rfl rfl hr0 hr1 ⟨rfl, set2_below' HBX.out (by have := HGX.out; omega)⟩
set_option maxRecDepth 100000 in
set_option maxHeartbeats 4000000 in
theorem POWER_ok (r : Int) (ad : Addr) (n c t p q : Nat) (xss : List (List Int)) (hc : Hid (chkS r xss = 0)) (hok : Hid (OkS r xss)) (ht : t < n) (hd : Hid (cutF p q (len0 xss) = 0)) (hpq : p < q) (hqm : q ≤ len0 xss) (w : World) (B : Nat) (hB : B ≤ w.heap.size) (hh : Hid (RowsAt w B (some ad) n xss)) :
    Calls Tryd.prog 14 #[.agg #[.int .i64 r, .slice (some ad) n c], .int .i64 t, .agg #[.int .i64 p, .int .i64 q]] w fun e w' => e = .returned (tup3 (ratioS (stR sqU 0 (cutRow p q (rowOf xss t))) ((q : Int) - p))) ∧ Below w.heap.size w w' := by
  have hl := Lib.hid hh.out.1
  have hm := hok.out.long
  have hn : 0 < n := by omega
  have hq0 : (chkS r xss != 0) = false := by rw [hc.out]; rfl
  have hq2 : (cutF p q (len0 xss) != 0) = false := by rw [hd.out]; rfl
  have d1 : decide ((t : Int) < 0) = false := by simp
  have d2 : decide (n ≤ t) = false := by simp; omega
  have d3 : ((p : Int) == q) = false := by simp; omega
  have d3' : (p == q) = false := by simp; omega
  have hkx : Hid (t < xss.length) := by show _ < _; have := hl.out; omega
  obtain ⟨A', n', c', hadB, hcell, hn', hc', hi⟩ := hh.out.row ht
  obtain rfl : n' = len0 xss := hi.1.symm.trans (hok.out.row hkx.out).1
  have hcut := hi.cut hn' (p := p) (q := q) (by omega) (by omega)
  have HRL := Lib.hid (hok.out.row hkx.out).1
  have HSM := Lib.hid (cutRow_smp (p := p) (q := q) (hok.out.smpRow hkx.out))
  have HCUT : Hid (IntsAt w B (cutA A' c' p) (q - p) (cutRow p q (rowOf xss t))) := hcut
  have HIN := Lib.hid hi
  have HCL := Lib.hid hcell
  have hcl : (cutRow p q (rowOf xss t)).length = q - p := cutRow_length (by omega) (by rw [HRL.out]; exact hqm)
  obtain ⟨row, hrow⟩ : ∃ row, cutRow p q (rowOf xss t) = row := ⟨_, rfl⟩
  rw [hrow] at HSM HCUT hcl
  have HRW := Lib.hid hrow
  have HLN := Lib.hid hcl
  have ht0 : (0 : Int) ≤ (t : Int) := by omega
  have htn : (t : Int) < (n : Int) := by omega
  unfold maxLen at hc'
  clear hi hcell hcut hrow hcl
  obtain ⟨W, gx, hW, hgx, HHW, HBX, HSW⟩ := boxes3 w (.cells #[.int .i64 r, .slice (some ad) n c] 24) (.cells #[.int .i64 p, .int .i64 q] 40) (.cells #[.string ⟨#[]⟩, .string ⟨#[]⟩] 42)
  have HGX := Lib.hid hgx
  obtain ⟨x0, x1, _, _⟩ := two_cells HHW.out.1
  obtain ⟨y0, y1, _, _⟩ := two_cells HHW.out.2.1
  have hgw := blk_lt HHW.out.2.2
  have hh1 := hh.out.below HBX.out hB
  have hB1 := Nat.le_trans hB HBX.out.size
  go_enter Tryd.func14, Tryd.ntmps14
  go_upto_region 1 with (fail)
  rw [← hW, ← hgx]
  clear hW hgx
  go_wp2_with fail
  refine (CHECK_any r (some ad) n c xss _ B hB1 hh1).mono ?_
  rintro e w1 ⟨rfl, hb1⟩
  clear x0 x1 y0 y1
  replace HHW := Lib.hid (And.intro ((hb1.block gx (by omega)).trans HHW.out.1) (And.intro ((hb1.block (gx + 1) (by omega)).trans HHW.out.2.1) ((hb1.block (gx + 1 + 1) hgw).trans HHW.out.2.2)))
  replace hgw := Nat.lt_of_lt_of_le hgw hb1.size
  obtain ⟨x0, x1, _, _⟩ := two_cells HHW.out.1
  obtain ⟨y0, y1, _, _⟩ := two_cells HHW.out.2.1
  replace HBX := Lib.hid (HBX.out.trans (hb1.mono HBX.out.size))
  clear hh1 hB1 hb1
  go_wp2_with fail
  refine (CHECKCUT_any r (some ad) n c p q xss hn _ B (Nat.le_trans hB HBX.out.size) (hh.out.below HBX.out hB)).mono ?_
  rintro e w2 ⟨rfl, hb1⟩
  clear x0 x1 y0 y1
  replace HHW := Lib.hid (And.intro ((hb1.block gx (by omega)).trans HHW.out.1) (And.intro ((hb1.block (gx + 1) (by omega)).trans HHW.out.2.1) ((hb1.block (gx + 1 + 1) hgw).trans HHW.out.2.2)))
  replace hgw := Nat.lt_of_lt_of_le hgw hb1.size
  obtain ⟨x0, x1, _, _⟩ := two_cells HHW.out.1
  obtain ⟨y0, y1, _, _⟩ := two_cells HHW.out.2.1
  replace HBX := Lib.hid (HBX.out.trans (hb1.mono HBX.out.size))
  clear hb1
  have hbr : Below B w w2 := HBX.out.mono hB
  have hca := (hbr.cell (p := ad.add t) (by rw [block_of_add]; omega)).trans HCL.out
  have hsl : ∀ W, (Instr.slice 49 (.slice A' (len0 xss) c') (some (.int .i64 (p : Int))) (some (.int .i64 (q : Int))) none).run Tryd.prog W = .ok (.slice (cutA A' c' p) (q - p) (c' - p)) W :=
    fun W => by
      obtain ⟨i, hi, h1, h2, _⟩ := info_parts int_info
      exact run_cut 49 3 Tryd.underlying49 i hi (by simp [h2]) A' (len0 xss) c' p q (by omega) (by omega) W
  go_wp2_with fail
  go_region
  clear hsl hca x0 x1
  have hSQ := sq_take_bd HSM.out (by rw [HLN.out]; omega)
  have HSQ := Lib.hid hSQ
  clear hSQ
  go_wp2_with fail
  go_loopw [10, 53] (fun s i wr => ∃ j : Nat, j ≤ q - p ∧ i = .int .i64 j ∧ s = .int .i64 (stR sqU 0 (row.take j)) ∧ wr = w2.drew) (fun _ i _ => (q - p) - (intOf i).toNat)
  case atStart => exact ⟨0, Nat.zero_le _, rfl, rfl, rfl⟩
  case round =>
    obtain ⟨j, hj, rfl, rfl, rfl⟩ := hrel
    obtain ⟨s0, s1⟩ := HSQ.out j
    by_cases hjl : j < q - p
    · obtain ⟨ad', hA⟩ := HCUT.out.addr (by omega)
      have hcx := ((hA ▸ (HCUT.out.below (hbr.trans (Below.refl B w2).drew) (Nat.le_refl _)) : IntsAt w2.drew B (some ad') (q - p) row).at_ hjl).2
      have HST := Lib.hid (sq_take (xs := row) (j := j) (by rw [HLN.out]; exact hjl))
      obtain ⟨t1, t2⟩ := HSQ.out (j + 1)
      obtain ⟨b0, b1⟩ := sq_le (x := elOf row j) (HSM.out _ (by
        have hjx : j < row.length := by rw [HLN.out]; exact hjl
        simp only [elOf, List.getD, List.getElem?_eq_getElem hjx, Option.getD_some]
        exact List.getElem_mem hjx))
      obtain ⟨x, hx⟩ : ∃ x, elOf row j = x := ⟨_, rfl⟩
      rw [hx] at hcx HST b0 b1
      obtain ⟨S, hS⟩ : ∃ S, stR sqU 0 (row.take j) = S := ⟨_, rfl⟩
      rw [hS] at s0 s1 HST ⊢
      rw [HST.out] at t1 t2
      have hw1 := IntWalk.i64_in (x * x) (by omega)
      have hw2 := IntWalk.i64_in (S + x * x) (by omega)
      have hj0 : (0 : Int) ≤ (j : Int) := by omega
      have hjn : (j : Int) < ((q - p : Nat) : Int) := by omega
      have hbq : Hid (cutA A' c' p = some ad') := hA
      clear hx hS hbr hA
      rw [hbq.out]
      go_wp2_with fail
      go_roundw
      case rel => exact ⟨j + 1, by omega, by go_num, by rw [HST.out], trivial⟩
      case measure => simp [intOf]; omega
    · obtain rfl : j = q - p := by omega
      have hTK : row.take (q - p) = row := List.take_of_length_le (by rw [HLN.out]; omega)
      rw [hTK] at s0 s1 ⊢
      obtain ⟨S, hS⟩ : ∃ S, stR sqU 0 row = S := ⟨_, rfl⟩
      have HSS := Lib.hid hS
      rw [hS] at s0 s1 ⊢
      have hsub := IntWalk.i64_in ((q : Int) - p) (by omega)
      clear hTK hS
      go_wp2_with fail
      refine (RATIOOF_any S ((q : Int) - p) (by omega) (by omega) (by omega) (by omega) _).mono ?_
      rintro e w3 ⟨rfl, hb1⟩
      replace hb1 := below_undrew hb1
      clear y0 y1
      have hhr := (hb1.block (gx + 1 + 1) hgw).trans HHW.out.2.2
      obtain ⟨hr0, hr1, hf0, hf1⟩ := two_cells hhr
      have HB3 := Lib.hid (HBX.out.trans (hb1.mono HBX.out.size))
      obtain ⟨⟨S1, T1, f1⟩, hV⟩ : ∃ z, ratioS S ((q : Int) - p) = z := ⟨_, rfl⟩
      have HV := Lib.hid hV
      rw [hV]
      unfold tup3
      dsimp only
      clear hV hb1 hhr
      go_wp2_with fail
      exact end_ratio rfl rfl rfl hr0 hr1 ⟨by rw [HRW.out, HSS.out, HV.out]; rfl, set2_below' HB3.out (by have := HGX.out; omega)⟩
set_option maxRecDepth 100000 in
set_option maxHeartbeats 4000000 in
theorem RPOWER_ok (r : Int) (ad : Addr) (n c t p q : Nat) (xss : List (List Int)) (hc : Hid (chkS r xss = 0)) (hok : Hid (OkS r xss)) (ht : t < n) (hd : Hid (cutF p q (len0 xss) = 0)) (hpq : p < q) (hqm : q ≤ len0 xss) (w : World) (htab : Hid (TabAt w)) (B : Nat) (hB : B ≤ w.heap.size) (hh : Hid (RowsAt w B (some ad) n xss)) :
    Calls Tryd.prog 15 #[.agg #[.int .i64 r, .slice (some ad) n c], .int .i64 t, .agg #[.int .i64 p, .int .i64 q]] w fun e w' => e = .returned (tup3 (ratioS (stR sqU 0 (cutRow p q (rowOf xss t))) ((q : Int) - p))) ∧ Below w.heap.size w w' := by
  have hl := Lib.hid hh.out.1
  have hm := hok.out.long
  have hn : 0 < n := by omega
  have hq0 : (chkS r xss != 0) = false := by rw [hc.out]; rfl
  have hq2 : (cutF p q (len0 xss) != 0) = false := by rw [hd.out]; rfl
  have d1 : decide ((t : Int) < 0) = false := by simp
  have d2 : decide (n ≤ t) = false := by simp; omega
  have d3 : ((p : Int) == q) = false := by simp; omega
  have d3' : (p == q) = false := by simp; omega
  have hkx : Hid (t < xss.length) := by show _ < _; have := hl.out; omega
  obtain ⟨A', n', c', hadB, hcell, hn', hc', hi⟩ := hh.out.row ht
  obtain rfl : n' = len0 xss := hi.1.symm.trans (hok.out.row hkx.out).1
  have hcut := hi.cut hn' (p := p) (q := q) (by omega) (by omega)
  have HRL := Lib.hid (hok.out.row hkx.out).1
  have HSM := Lib.hid (cutRow_smp (p := p) (q := q) (hok.out.smpRow hkx.out))
  have HCUT : Hid (IntsAt w B (cutA A' c' p) (q - p) (cutRow p q (rowOf xss t))) := hcut
  have HIN := Lib.hid hi
  have HCL := Lib.hid hcell
  have hcl : (cutRow p q (rowOf xss t)).length = q - p := cutRow_length (by omega) (by rw [HRL.out]; exact hqm)
  obtain ⟨row, hrow⟩ : ∃ row, cutRow p q (rowOf xss t) = row := ⟨_, rfl⟩
  rw [hrow] at HSM HCUT hcl
  have HRW := Lib.hid hrow
  have HLN := Lib.hid hcl
  have ht0 : (0 : Int) ≤ (t : Int) := by omega
  have htn : (t : Int) < (n : Int) := by omega
  unfold maxLen at hc'
  clear hi hcell hcut hrow hcl
  have HEL : Hid (∀ j, j < q - p → elOf row j = elOf (rowOf xss t) (p + j)) := fun j hj => by rw [← HRW.out]; exact cutRow_el (by rw [HRL.out]; exact hqm) hj
  obtain ⟨W, gx, hW, hgx, HHW, HBX, HSW⟩ := boxes3 w (.cells #[.int .i64 r, .slice (some ad) n c] 24) (.cells #[.int .i64 p, .int .i64 q] 40) (.cells #[.string ⟨#[]⟩, .string ⟨#[]⟩] 42)
  have HGX := Lib.hid hgx
  obtain ⟨x0, x1, _, _⟩ := two_cells HHW.out.1
  obtain ⟨y0, y1, _, _⟩ := two_cells HHW.out.2.1
  have hgw := blk_lt HHW.out.2.2
  have hh1 := hh.out.below HBX.out hB
  have hB1 := Nat.le_trans hB HBX.out.size
  go_enter Tryd.func15, Tryd.ntmps15
  go_upto_region 1 with (fail)
  rw [← hW, ← hgx]
  clear hW hgx
  go_wp2_with fail
  refine (RCHECK_any r (some ad) n c xss _ B hB1 hh1).mono ?_
  rintro e w1 ⟨rfl, hb1⟩
  clear x0 x1 y0 y1
  replace HHW := Lib.hid (And.intro ((hb1.block gx (by omega)).trans HHW.out.1) (And.intro ((hb1.block (gx + 1) (by omega)).trans HHW.out.2.1) ((hb1.block (gx + 1 + 1) hgw).trans HHW.out.2.2)))
  replace hgw := Nat.lt_of_lt_of_le hgw hb1.size
  obtain ⟨x0, x1, _, _⟩ := two_cells HHW.out.1
  obtain ⟨y0, y1, _, _⟩ := two_cells HHW.out.2.1
  replace HBX := Lib.hid (HBX.out.trans (hb1.mono HBX.out.size))
  clear hh1 hB1 hb1
  go_wp2_with fail
  refine (RWITHIN_any r (some ad) n c p q xss hn _ B (Nat.le_trans hB HBX.out.size) (hh.out.below HBX.out hB)).mono ?_
  rintro e w2 ⟨rfl, hb1⟩
  clear x0 x1 y0 y1
  replace HHW := Lib.hid (And.intro ((hb1.block gx (by omega)).trans HHW.out.1) (And.intro ((hb1.block (gx + 1) (by omega)).trans HHW.out.2.1) ((hb1.block (gx + 1 + 1) hgw).trans HHW.out.2.2)))
  replace hgw := Nat.lt_of_lt_of_le hgw hb1.size
  obtain ⟨x0, x1, _, _⟩ := two_cells HHW.out.1
  obtain ⟨y0, y1, _, _⟩ := two_cells HHW.out.2.1
  replace HBX := Lib.hid (HBX.out.trans (hb1.mono HBX.out.size))
  clear hb1
  have hSQ := sq_take_bd HSM.out (by rw [HLN.out]; omega)
  have HSQ := Lib.hid hSQ
  clear hSQ
  go_wp2_with fail
  clear x0 x1 y0 y1
  go_loopw [10, 11] (fun s i wr => ∃ j : Nat, j ≤ q - p ∧ i = .int .i64 ((p + j : Nat) : Int) ∧ s = .int .i64 (stR sqU 0 (row.take j)) ∧ Hid (Below w2.heap.size w2 wr)) (fun _ i _ => q - (intOf i).toNat)
  case atStart => exact ⟨0, Nat.zero_le _, rfl, rfl, Below.refl _ _⟩
  case round =>
    obtain ⟨j, hj, rfl, rfl, hS⟩ := hrel
    obtain ⟨s0, s1⟩ := HSQ.out j
    obtain ⟨x0, x1, _, _⟩ := two_cells ((hS.out.block gx (by omega)).trans HHW.out.1)
    obtain ⟨y0, y1, _, _⟩ := two_cells ((hS.out.block (gx + 1) (by omega)).trans HHW.out.2.1)
    by_cases hjl : j < q - p
    · obtain ⟨ad', rfl⟩ := HIN.out.addr (by omega)
      have hbr : Below B w wr := (HBX.out.mono hB).trans (hS.out.mono (by have := HBX.out.size; omega))
      have hca := (hbr.cell (p := ad.add t) (by rw [block_of_add]; omega)).trans HCL.out
      have hcx := ((HIN.out.below hbr (Nat.le_refl _)).at_ (k := p + j) (by omega)).2
      rw [← HEL.out j hjl] at hcx
      have HST := Lib.hid (sq_take (xs := row) (j := j) (by rw [HLN.out]; exact hjl))
      obtain ⟨t1, t2⟩ := HSQ.out (j + 1)
      obtain ⟨b0, b1⟩ := sq_le (x := elOf row j) (HSM.out _ (by
        have hjx : j < row.length := by rw [HLN.out]; exact hjl
        simp only [elOf, List.getD, List.getElem?_eq_getElem hjx, Option.getD_some]
        exact List.getElem_mem hjx))
      obtain ⟨x, hx⟩ : ∃ x, elOf row j = x := ⟨_, rfl⟩
      rw [hx] at hcx HST b0 b1
      obtain ⟨S, hS9⟩ : ∃ S, stR sqU 0 (row.take j) = S := ⟨_, rfl⟩
      rw [hS9] at s0 s1 HST ⊢
      rw [HST.out] at t1 t2
      have hw1 := IntWalk.i64_in (x * x) (by omega)
      have hw2 := IntWalk.i64_in (S + x * x) (by omega)
      obtain ⟨k, hk⟩ : ∃ k, k = p + j := ⟨_, rfl⟩
      rw [← hk] at hcx ⊢
      have hj0 : (0 : Int) ≤ (k : Int) := by omega
      have hjn : (k : Int) < (len0 xss : Int) := by omega
      have hkq : (k : Int) < (q : Int) := by omega
      have HK := Lib.hid hk
      clear hx hS9 hbr hk
      go_wp2_with fail
      go_region
      go_wp2_with fail
      go_roundw
      case rel => exact ⟨j + 1, by omega, by rw [HK.out]; go_num, by rw [HST.out], Lib.hid hS.out.drew⟩
      case measure => have := HK.out; simp [intOf]; omega
    · obtain rfl : j = q - p := by omega
      have hTK : row.take (q - p) = row := List.take_of_length_le (by rw [HLN.out]; omega)
      rw [hTK] at s0 s1 ⊢
      obtain ⟨S, hS9⟩ : ∃ S, stR sqU 0 row = S := ⟨_, rfl⟩
      have HSS := Lib.hid hS9
      rw [hS9] at s0 s1 ⊢
      have hsub := IntWalk.i64_in ((q : Int) - p) (by omega)
      have hqe : ((p + (q - p) : Nat) : Int) = (q : Int) := by omega
      rw [hqe]
      have HV : Hid (ratioS S ((q : Int) - p) = (txN ((S : Rat) / ((q : Int) - p : Int)), txD ((S : Rat) / ((q : Int) - p : Int)), 0)) := by
        show _ = _
        rw [ratioS_frac (by omega), resP_few (frac_few S ((q : Int) - p) (by omega) (by omega) (by omega) (by omega) (by omega))]
      have HNB : Hid ((((q : Int) - p : Int) : Rat) ≠ 0) := rat_ne0 (by omega)
      have HTW := Lib.hid (htab.out.below (HBX.out.trans (hS.out.mono HBX.out.size)))
      replace HBX := Lib.hid (HBX.out.trans (hS.out.mono HBX.out.size))
      have HHR := Lib.hid ((hS.out.block (gx + 1 + 1) hgw).trans HHW.out.2.2)
      replace hgw := Nat.lt_of_lt_of_le hgw hS.out.size
      clear hTK hS9 hqe HHW x0 x1
      go_upto_region 16 with (fail)
      obtain ⟨w3, rfl⟩ : ∃ x : World, x = wr := ⟨_, rfl⟩
      refine wp_region_text 10 (fun x9 => x9.cell? ⟨gx + 1, 0, none⟩ = some (.int .i64 (p : Int)) ∧ x9.cell? ⟨gx + 1, 1, none⟩ = some (.int .i64 (q : Int))) (by kernel_rfl) (by kernel_rfl) ?_
      obtain ⟨wc, hwc⟩ : ∃ x : World, x = w3.drew := ⟨_, rfl⟩
      have hbn : Below w3.heap.size w3 w3.drew := (Below.refl _ _).drew
      have HTW := Lib.hid (HTW.out.below hbn)
      have HHR := Lib.hid ((hbn.block (gx + 1 + 1) (blk_lt HHR.out)).trans HHR.out)
      clear hbn
      have HBc : Hid (Below w3.heap.size w3 wc) := by show Below _ _ _; rw [hwc]; exact (Below.refl _ _).drew
      have hS : wc.cell? ⟨gx + 1, 0, none⟩ = some (.int .i64 (p : Int)) ∧ wc.cell? ⟨gx + 1, 1, none⟩ = some (.int .i64 (q : Int)) := by rw [hwc]; exact ⟨y0, y1⟩
      have hg_0 : gx + 1 < wc.heap.size := by rw [hwc]; exact (show gx + 1 < w3.heap.size by omega)
      rw [← hwc] at HTW HHR
      rw [← hwc]
      clear hwc
      refine HT.take (i := 0) (oi := _) (v := ?_) rfl (by kernel_rfl) (by kernel_rfl) (by decide) (fun _ _ _ h => h) (Or.inl ⟨by rfl, ?_⟩) hS ?_
      rotate_left
      · intro wz
        go_simp
        try with_reducible rfl
      simp only [List.getElem_toArray, List.getElem_cons_succ, List.getElem_cons_zero, Act.put, List.setIfInBounds_toArray, List.set_cons_zero, List.set_cons_succ]
      refine HT.take (i := 2) (oi := _) (v := ?_) rfl (by kernel_rfl) (by kernel_rfl) (by decide) (fun _ _ _ h => h) (Or.inl ⟨by rfl, ?_⟩) hS ?_
      rotate_left
      · intro wz
        go_simp
        try with_reducible rfl
      simp only [List.getElem_toArray, List.getElem_cons_succ, List.getElem_cons_zero, Act.put, List.setIfInBounds_toArray, List.set_cons_zero, List.set_cons_succ]
      refine HT.load (i := 3) (oi := _) (v := ?_) rfl (by kernel_rfl) (by kernel_rfl) (by decide) (fun _ _ _ h => h) (by kernel_rfl) (Or.inl ⟨by rfl, ?_⟩) hS ?_
      rotate_left
      · intro wz hwz
        try dsimp only at hwz
        go_simp
        try with_reducible rfl
      simp only [List.getElem_toArray, List.getElem_cons_succ, List.getElem_cons_zero, Act.put, List.setIfInBounds_toArray, List.set_cons_zero, List.set_cons_succ]
      refine HT.take (i := 4) (oi := _) (v := ?_) rfl (by kernel_rfl) (by kernel_rfl) (by decide) (fun _ _ _ h => h) (Or.inl ⟨by rfl, ?_⟩) hS ?_
      rotate_left
      · intro wz
        go_simp
        try with_reducible rfl
      simp only [List.getElem_toArray, List.getElem_cons_succ, List.getElem_cons_zero, Act.put, List.setIfInBounds_toArray, List.set_cons_zero, List.set_cons_succ]
      refine HT.load (i := 5) (oi := _) (v := ?_) rfl (by kernel_rfl) (by kernel_rfl) (by decide) (fun _ _ _ h => h) (by kernel_rfl) (Or.inl ⟨by rfl, ?_⟩) hS ?_
      rotate_left
      · intro wz hwz
        try dsimp only at hwz
        go_simp
        try with_reducible rfl
      simp only [List.getElem_toArray, List.getElem_cons_succ, List.getElem_cons_zero, Act.put, List.setIfInBounds_toArray, List.set_cons_zero, List.set_cons_succ]
      refine HT.take (i := 6) (oi := _) (v := ?_) rfl (by kernel_rfl) (by kernel_rfl) (by decide) (fun _ _ _ h => h) (Or.inl ⟨by rfl, ?_⟩) hS ?_
      rotate_left
      · intro wz
        go_simp
        try with_reducible rfl
      simp only [List.getElem_toArray, List.getElem_cons_succ, List.getElem_cons_zero, Act.put, List.setIfInBounds_toArray, List.set_cons_zero, List.set_cons_succ]
      refine HT.one (i := 1) (o := _) rfl (by kernel_rfl) (by decide) (by rfl) ?_
      intro K hK
      go_simp
      refine (RINT_any S (by omega) (by omega) _ HTW).mono ?_
      rintro e wn ⟨ng1, A1, n1, c1, D1, m1, d1, rfl, hH1, k1, l1, hbn⟩
      have H1 := Lib.hid hH1
      clear hH1
      replace HTW := Lib.hid (HTW.out.below hbn)
      replace HHR := Lib.hid ((hbn.block (gx + 1 + 1) (blk_lt HHR.out)).trans HHR.out)
      have HBn := Lib.hid (HBc.out.trans (hbn.mono HBc.out.size))
      have hSn : wn.cell? ⟨gx + 1, 0, none⟩ = some (.int .i64 (p : Int)) ∧ wn.cell? ⟨gx + 1, 1, none⟩ = some (.int .i64 (q : Int)) := ⟨(hbn.cell (p := ⟨gx + 1, 0, none⟩) hg_0).trans hS.1, (hbn.cell (p := ⟨gx + 1, 1, none⟩) hg_0).trans hS.2⟩
      have hgn_0 := Nat.lt_of_lt_of_le hg_0 hbn.size
      refine hK.out _ _ hSn ?_
      clear hK K hS HBc hg_0
      try simp only [List.getElem_toArray, List.getElem_cons_succ, List.getElem_cons_zero, Act.put, List.setIfInBounds_toArray, List.set_cons_zero, List.set_cons_succ]
      have hS := hSn
      have HBc := HBn
      have hg_0 := hgn_0
      clear hSn HBn hbn hgn_0
      obtain ⟨wc, rfl⟩ : ∃ x : World, x = wn := ⟨_, rfl⟩
      refine HT.one (i := 7) (o := _) rfl (by kernel_rfl) (by decide) (by rfl) ?_
      intro K hK
      go_simp
      refine (RINT_any ((q : Int) - p) (by omega) (by omega) _ HTW).mono ?_
      rintro e wn ⟨ng2, A2, n2, c2, D2, m2, d2, rfl, hH2, k2, l2, hbn⟩
      have H2 := Lib.hid hH2
      clear hH2
      replace HTW := Lib.hid (HTW.out.below hbn)
      replace HHR := Lib.hid ((hbn.block (gx + 1 + 1) (blk_lt HHR.out)).trans HHR.out)
      replace H1 := Lib.hid (H1.out.to hbn (Nat.le_refl _) hbn.size)
      have HBn := Lib.hid (HBc.out.trans (hbn.mono HBc.out.size))
      have hSn : wn.cell? ⟨gx + 1, 0, none⟩ = some (.int .i64 (p : Int)) ∧ wn.cell? ⟨gx + 1, 1, none⟩ = some (.int .i64 (q : Int)) := ⟨(hbn.cell (p := ⟨gx + 1, 0, none⟩) hg_0).trans hS.1, (hbn.cell (p := ⟨gx + 1, 1, none⟩) hg_0).trans hS.2⟩
      have hgn_0 := Nat.lt_of_lt_of_le hg_0 hbn.size
      refine hK.out _ _ hSn ?_
      clear hK K hS HBc hg_0
      try simp only [List.getElem_toArray, List.getElem_cons_succ, List.getElem_cons_zero, Act.put, List.setIfInBounds_toArray, List.set_cons_zero, List.set_cons_succ]
      have hS := hSn
      have HBc := HBn
      have hg_0 := hgn_0
      clear hSn HBn hbn hgn_0
      obtain ⟨wc, rfl⟩ : ∃ x : World, x = wn := ⟨_, rfl⟩
      refine HT.one (i := 8) (o := _) rfl (by kernel_rfl) (by decide) (by rfl) ?_
      intro K hK
      go_simp
      refine (ROVER_any ng1 ng2 A1 A2 D1 D2 n1 c1 m1 d1 n2 c2 m2 d2 _ _ (by omega) (by omega) (by omega) (by omega) HNB.out _ wc.heap.size (Nat.le_refl _) H1 H2).mono ?_
      rintro e wn ⟨ng3, A3, n3, c3, D3, m3, d3, rfl, hH3, k3, l3, hbn⟩
      have H3 := Lib.hid hH3
      clear hH3
      clear H1 H2
      replace HTW := Lib.hid (HTW.out.below hbn)
      replace HHR := Lib.hid ((hbn.block (gx + 1 + 1) (blk_lt HHR.out)).trans HHR.out)
      have HBn := Lib.hid (HBc.out.trans (hbn.mono HBc.out.size))
      have hSn : wn.cell? ⟨gx + 1, 0, none⟩ = some (.int .i64 (p : Int)) ∧ wn.cell? ⟨gx + 1, 1, none⟩ = some (.int .i64 (q : Int)) := ⟨(hbn.cell (p := ⟨gx + 1, 0, none⟩) hg_0).trans hS.1, (hbn.cell (p := ⟨gx + 1, 1, none⟩) hg_0).trans hS.2⟩
      have hgn_0 := Nat.lt_of_lt_of_le hg_0 hbn.size
      refine hK.out _ _ hSn ?_
      clear hK K hS HBc hg_0
      try simp only [List.getElem_toArray, List.getElem_cons_succ, List.getElem_cons_zero, Act.put, List.setIfInBounds_toArray, List.set_cons_zero, List.set_cons_succ]
      have hS := hSn
      have HBc := HBn
      have hg_0 := hgn_0
      clear hSn HBn hbn hgn_0
      obtain ⟨wc, rfl⟩ : ∃ x : World, x = wn := ⟨_, rfl⟩
      refine HT.one (i := 9) (o := _) rfl (by kernel_rfl) (by decide) (by rfl) ?_
      intro K hK
      go_simp
      refine (ROUT_any ng3 A3 D3 n3 c3 m3 d3 _ (by omega) (by omega) _ HTW wc.heap.size (Nat.le_refl _) H3).mono ?_
      rintro e wn ⟨rfl, hbn⟩
      clear HTW H3
      replace HHR := Lib.hid ((hbn.block (gx + 1 + 1) (blk_lt HHR.out)).trans HHR.out)
      have HBn := Lib.hid (HBc.out.trans (hbn.mono HBc.out.size))
      have hSn : wn.cell? ⟨gx + 1, 0, none⟩ = some (.int .i64 (p : Int)) ∧ wn.cell? ⟨gx + 1, 1, none⟩ = some (.int .i64 (q : Int)) := ⟨(hbn.cell (p := ⟨gx + 1, 0, none⟩) hg_0).trans hS.1, (hbn.cell (p := ⟨gx + 1, 1, none⟩) hg_0).trans hS.2⟩
      have hgn_0 := Nat.lt_of_lt_of_le hg_0 hbn.size
      refine hK.out _ _ hSn ?_
      clear hK K hS HBc hg_0
      try simp only [List.getElem_toArray, List.getElem_cons_succ, List.getElem_cons_zero, Act.put, List.setIfInBounds_toArray, List.set_cons_zero, List.set_cons_succ]
      have hS := hSn
      have HBc := HBn
      have hg_0 := hgn_0
      clear hSn HBn hbn hgn_0
      obtain ⟨wc, rfl⟩ : ∃ x : World, x = wn := ⟨_, rfl⟩
      obtain ⟨hr0, hr1, hf0, hf1⟩ := two_cells HHR.out
      refine HT.done (by kernel_rfl) ?_
      clear hS
      simp only [List.drop_succ_cons, List.drop_zero]
      have HB9 := Lib.hid (HBX.out.trans (HBc.out.mono HBX.out.size))
      obtain ⟨S1, hS1⟩ : ∃ z, txN ((S : Rat) / ((q : Int) - p : Int)) = z := ⟨_, rfl⟩
      obtain ⟨S2, hS2⟩ : ∃ z, txD ((S : Rat) / ((q : Int) - p : Int)) = z := ⟨_, rfl⟩
      have HS1 := Lib.hid hS1
      have HS2 := Lib.hid hS2
      rw [hS1, hS2]
      clear hS1 hS2
      go_wp2_with fail
      exact end_ratio rfl rfl rfl hr0 hr1 ⟨by rw [HRW.out, HSS.out, HV.out, HS1.out, HS2.out]; rfl, set2_below' HB9.out (by have := HGX.out; omega)⟩
      -- HHR
theorem POWER_any (r : Int) (A : Option Addr) (n c : Nat) (t p q : Int) (xss : List (List Int)) (w : World)  (B : Nat) (hB : B ≤ w.heap.size) (hh : RowsAt w B A n xss) :
    Calls Tryd.prog 14 #[.agg #[.int .i64 r, .slice A n c], .int .i64 t, .agg #[.int .i64 p, .int .i64 q]] w fun e w' => e = .returned (tup3 (powS r xss t p q)) ∧ Below w.heap.size w w' := by
  unfold powS
  by_cases hc : chkS r xss = 0
  · have hok := chkS_ok hc
    have hl := hh.1
    have hn : 0 < n := by have := hok.some; omega
    obtain ⟨ad, rfl⟩ := hh.addr hn
    rw [if_neg (by simp [hc])]
    by_cases hb : t < 0 ∨ (xss.length : Int) ≤ t
    · rw [if_pos hb]
      rw [hl] at hb
      exact POWER_bad r (some ad) n c t p q xss hc hb w B hB hh
    · rw [if_neg hb]
      obtain ⟨t', rfl⟩ := Int.eq_ofNat_of_zero_le (show 0 ≤ t by omega)
      by_cases hd : cutF p q (len0 xss) = 0
      · rw [if_neg (by simp [hd])]
        obtain ⟨z1, z2, z3⟩ := cutF_zero hd
        by_cases he : p = q
        · subst he
          rw [if_pos rfl]
          exact POWER_nil r (some ad) n c t' p xss hc (by omega) hd w B hB hh
        · rw [if_neg he]
          obtain ⟨p', rfl⟩ := Int.eq_ofNat_of_zero_le z1
          obtain ⟨q', rfl⟩ := Int.eq_ofNat_of_zero_le (show 0 ≤ q by omega)
          exact POWER_ok r ad n c t' p' q' xss hc hok (by omega) hd (by omega) (by omega) w  B hB hh
      · rw [if_pos hd]
        exact POWER_cut r (some ad) n c t' p q xss hc (by omega) hd w B hB hh
  · rw [if_pos hc]
    exact POWER_chk r A n c t p q xss hc w B hB hh
theorem RPOWER_any (r : Int) (A : Option Addr) (n c : Nat) (t p q : Int) (xss : List (List Int)) (w : World) (htab : Hid (TabAt w)) (B : Nat) (hB : B ≤ w.heap.size) (hh : RowsAt w B A n xss) :
    Calls Tryd.prog 15 #[.agg #[.int .i64 r, .slice A n c], .int .i64 t, .agg #[.int .i64 p, .int .i64 q]] w fun e w' => e = .returned (tup3 (powS r xss t p q)) ∧ Below w.heap.size w w' := by
  unfold powS
  by_cases hc : chkS r xss = 0
  · have hok := chkS_ok hc
    have hl := hh.1
    have hn : 0 < n := by have := hok.some; omega
    obtain ⟨ad, rfl⟩ := hh.addr hn
    rw [if_neg (by simp [hc])]
    by_cases hb : t < 0 ∨ (xss.length : Int) ≤ t
    · rw [if_pos hb]
      rw [hl] at hb
      exact RPOWER_bad r (some ad) n c t p q xss hc hb w B hB hh
    · rw [if_neg hb]
      obtain ⟨t', rfl⟩ := Int.eq_ofNat_of_zero_le (show 0 ≤ t by omega)
      by_cases hd : cutF p q (len0 xss) = 0
      · rw [if_neg (by simp [hd])]
        obtain ⟨z1, z2, z3⟩ := cutF_zero hd
        by_cases he : p = q
        · subst he
          rw [if_pos rfl]
          exact RPOWER_nil r (some ad) n c t' p xss hc (by omega) hd w B hB hh
        · rw [if_neg he]
          obtain ⟨p', rfl⟩ := Int.eq_ofNat_of_zero_le z1
          obtain ⟨q', rfl⟩ := Int.eq_ofNat_of_zero_le (show 0 ≤ q by omega)
          exact RPOWER_ok r ad n c t' p' q' xss hc hok (by omega) hd (by omega) (by omega) w htab B hB hh
      · rw [if_pos hd]
        exact RPOWER_cut r (some ad) n c t' p q xss hc (by omega) hd w B hB hh
  · rw [if_pos hc]
    exact RPOWER_chk r A n c t p q xss hc w B hB hh
end Go.Proofs.YtnhmhjhfoonakaaDoor
