/- Normal, the sound's. -/
import Derived.Test.YtnhmhjhfoonakaaGas
import Derived.Test.YtnhmhjhfoonakaaCro
import Derived.Test.YtnhmhjhfoonakaaLrp
set_option linter.unusedSimpArgs false
set_option linter.unusedVariables false
namespace Go.Proofs.Ytnhmhjhfoonakaa
open Go.RowKit Go.Dw
attribute [local go_sem ↓] Go.wp_at_zero Go.wp_at_succ
/-- what Normal returns -/
structure NoR where
  rate : Int
  rows : List (List Int)
  num : ByteArray
  den : ByteArray
  flt : Int
def normS (r : Int) (xss : List (List Int)) (want : Int) : NoR :=
  if chkS r xss ≠ 0 then ⟨0, [], noB, noB, chkS r xss⟩ else if want < 1 ∨ 8388607 < want then ⟨0, [], noB, noB, 1⟩ else if pkS 0 xss = 0 then ⟨0, [], noB, noB, 13⟩
  else ⟨r, xss.map (List.map (gnV ((want : Rat) / pkS 0 xss))), txN ((want : Rat) / pkS 0 xss), txD ((want : Rat) / pkS 0 xss), 0⟩
def OutNo (w : World) (p : NoR) (e : Ending) (w' : World) : Prop :=
  ∃ v, e = .returned (.tuple #[.agg #[.int .i64 p.rate, v], .agg #[.string p.num, .string p.den], .int .i64 p.flt]) ∧ OwnRows w' w.heap.size v p.rows ∧ Below w.heap.size w w'
theorem norm_set {w0 : World} {g g' : Nat} {o0 o1 p0 p1 v0 v1 s0 s1 : Value} (h : w0.heap[g]? = some (.cells #[o0, o1] 24 (0, 0))) (h' : w0.heap[g']? = some (.cells #[p0, p1] 36 (0, 0))) (hne : ¬ g = g') :
    ((((w0.setCell ⟨g, 0, none⟩ v0).setCell ⟨g, 1, none⟩ v1).setCell ⟨g', 0, none⟩ s0).setCell ⟨g', 1, none⟩ s1).heap[g]? = some (.cells #[v0, v1] 24 (0, 0)) ∧
    ((((w0.setCell ⟨g, 0, none⟩ v0).setCell ⟨g, 1, none⟩ v1).setCell ⟨g', 0, none⟩ s0).setCell ⟨g', 1, none⟩ s1).heap[g']? = some (.cells #[s0, s1] 36 (0, 0)) := by
  constructor
  · rw [Below.heap_setCell _ _ _ _ (by simpa using hne), Below.heap_setCell _ _ _ _ (by simpa using hne)]
    exact heap_set2 h
  · refine heap_set2 (o0 := p0) (o1 := p1) ?_
    rw [Below.heap_setCell _ _ _ _ (by simpa using fun e => hne e.symm), Below.heap_setCell _ _ _ _ (by simpa using fun e => hne e.symm)]
    exact h'
theorem fin_norm {fn : Func} {R : Ending → World → Prop} {a : Act} {w : World} {p u x : Tmp} {g g' : Nat} {v0 v1 s0 s1 : Value} (h : fn.results = #[.cell p 24, .cell u 36, .tmp x]) (hp : a.tmps.getD p undef = .pointer (some ⟨g, 0, none⟩)) (hu : a.tmps.getD u undef = .pointer (some ⟨g', 0, none⟩)) (hd : a.defers = [])
    (hg : w.heap[g]? = some (.cells #[v0, v1] 24 (0, 0))) (hg' : w.heap[g']? = some (.cells #[s0, s1] 36 (0, 0)))
    (hR : R (.returned (.tuple #[.agg #[v0, v1], .agg #[s0, s1], a.tmps.getD x undef])) w) : bodyPost Try.prog fn R .ret a w := by
  obtain ⟨c0, c1, _, _⟩ := two_cells hg
  obtain ⟨d0, d1, _, _⟩ := two_cells hg'
  refine bodyPost_ret ?_ hd hR
  have hp' : a.tmps[p]?.getD undef = .pointer (some ⟨g, 0, none⟩) := by simpa using hp
  have hu' : a.tmps[u]?.getD undef = .pointer (some ⟨g', 0, none⟩) := by simpa using hu
  have h1 := load_snd w g v0 v1 c0 c1
  have h2 : (loadVar 36 ⟨g', 0, none⟩).run Try.prog w = .ok (.agg #[s0, s1]) w := by simp [loadVar, go_sem, d0, d1]
  simp [results, h, hp', hu', asAddr, h1, h2]
theorem fin_norm_drew {fn : Func} {R : Ending → World → Prop} {a : Act} {w : World} {p u x : Tmp} {g g' : Nat} {v0 v1 s0 s1 : Value} (h : fn.results = #[.cell p 24, .cell u 36, .tmp x]) (hp : a.tmps.getD p undef = .pointer (some ⟨g, 0, none⟩)) (hu : a.tmps.getD u undef = .pointer (some ⟨g', 0, none⟩)) (hd : a.defers = [])
    (hg : w.heap[g]? = some (.cells #[v0, v1] 24 (0, 0))) (hg' : w.heap[g']? = some (.cells #[s0, s1] 36 (0, 0)))
    (hR : R (.returned (.tuple #[.agg #[v0, v1], .agg #[s0, s1], a.tmps.getD x undef])) w.drew) : bodyPost Try.prog fn R .ret a w.drew := fin_norm h hp hu hd hg hg' hR
set_option maxHeartbeats 800000 in
theorem NORMAL_chk (r : Int) (A : Option Addr) (n c : Nat) (want : Int) (xss : List (List Int)) (hc : chkS r xss ≠ 0) (w : World) (B : Nat) (hB : B ≤ w.heap.size) (hh : Hid (RowsAt w B A n xss)) :
    Calls Try.prog 13 #[.agg #[.int .i64 r, .slice A n c], .int .i64 want] w (OutNo w ⟨0, [], noB, noB, chkS r xss⟩) := by
  have hq : (chkS r xss != 0) = true := by simpa using hc
  clear hc
  obtain ⟨W, gx, hW, hgx, HHW, HBX, HSW⟩ := boxes3 w (.cells #[.int .i64 r, .slice (A) n c] 24) (.cells #[.int .i64 0, .slice none 0 0] 24) (.cells #[.string ⟨#[]⟩, .string ⟨#[]⟩] 36)
  have HGX := Lib.hid hgx
  obtain ⟨g2, hg2⟩ : ∃ g, g = gx + 1 := ⟨_, rfl⟩
  obtain ⟨g3, hg3⟩ : ∃ g, g = gx + 1 + 1 := ⟨_, rfl⟩
  have HX : Hid (W.heap[gx]? = some (.cells #[.int .i64 r, .slice (A) n c] 24 (0, 0))) := HHW.out.1
  have HHR : Hid (W.heap[g2]? = some (.cells #[.int .i64 0, .slice none 0 0] 24 (0, 0))) := by rw [hg2]; exact HHW.out.2.1
  have HRR : Hid (W.heap[g3]? = some (.cells #[.string ⟨#[]⟩, .string ⟨#[]⟩] 36 (0, 0))) := by rw [hg3]; exact HHW.out.2.2
  have HG2 : Hid (w.heap.size ≤ g2 ∧ w.heap.size ≤ g3) := ⟨by have := hgx; omega, by have := hgx; omega⟩
  have hne1 : ¬ g2 = g3 := by omega
  have hne2 : ¬ g3 = g2 := by omega
  go_enter Try.func13, Try.ntmps13
  go_upto_region 1 with (fail)
  rw [← hW, ← hgx, ← hg3, ← hg2]
  clear hW hgx hg2 hg3 HHW HSW
  obtain ⟨x0, x1, _, _⟩ := two_cells HX.out
  go_wp2_with fail
  refine (CHECK_any r (A) n c xss _ B (Nat.le_trans hB HBX.out.size) (hh.out.below HBX.out hB)).mono ?_
  rintro e w1 ⟨rfl, hb⟩
  replace HX := Lib.hid ((hb.block gx (blk_lt HX.out)).trans HX.out)
  replace HHR := Lib.hid ((hb.block g2 (blk_lt HHR.out)).trans HHR.out)
  replace HRR := Lib.hid ((hb.block g3 (blk_lt HRR.out)).trans HRR.out)
  replace HBX := Lib.hid (HBX.out.trans (hb.mono HBX.out.size))
  clear hb x0 x1
  obtain ⟨hr0, hr1, hf0, hf1⟩ := two_cells HHR.out
  obtain ⟨hs0, hs1, hk0, hk1⟩ := two_cells HRR.out
  have hl2 := blk_lt HHR.out
  have hl3 := blk_lt HRR.out
  go_wp2_with fail
  (try go_region)
  (try go_wp2_with fail)
  exact fin_norm rfl rfl rfl rfl (norm_set HHR.out HRR.out hne1).1 (norm_set HHR.out HRR.out hne1).2 ⟨_, rfl, OwnRows.nil _ _, set2_below' (set2_below' HBX.out HG2.out.1) HG2.out.2⟩
set_option maxHeartbeats 800000 in
theorem NORMAL_bad (r : Int) (A : Option Addr) (n c : Nat) (want : Int) (xss : List (List Int)) (hc : Hid (chkS r xss = 0)) (hb0 : want < 1 ∨ 8388607 < want) (w : World) (B : Nat) (hB : B ≤ w.heap.size) (hh : Hid (RowsAt w B A n xss)) :
    Calls Try.prog 13 #[.agg #[.int .i64 r, .slice A n c], .int .i64 want] w (OutNo w ⟨0, [], noB, noB, 1⟩) := by
  have hq : (chkS r xss != 0) = false := by rw [hc.out]; rfl
  by_cases h1 : want < 1
  · have d1 : decide (want < 1) = true := by simpa using h1
    clear h1 hb0
    obtain ⟨W, gx, hW, hgx, HHW, HBX, HSW⟩ := boxes3 w (.cells #[.int .i64 r, .slice (A) n c] 24) (.cells #[.int .i64 0, .slice none 0 0] 24) (.cells #[.string ⟨#[]⟩, .string ⟨#[]⟩] 36)
    have HGX := Lib.hid hgx
    obtain ⟨g2, hg2⟩ : ∃ g, g = gx + 1 := ⟨_, rfl⟩
    obtain ⟨g3, hg3⟩ : ∃ g, g = gx + 1 + 1 := ⟨_, rfl⟩
    have HX : Hid (W.heap[gx]? = some (.cells #[.int .i64 r, .slice (A) n c] 24 (0, 0))) := HHW.out.1
    have HHR : Hid (W.heap[g2]? = some (.cells #[.int .i64 0, .slice none 0 0] 24 (0, 0))) := by rw [hg2]; exact HHW.out.2.1
    have HRR : Hid (W.heap[g3]? = some (.cells #[.string ⟨#[]⟩, .string ⟨#[]⟩] 36 (0, 0))) := by rw [hg3]; exact HHW.out.2.2
    have HG2 : Hid (w.heap.size ≤ g2 ∧ w.heap.size ≤ g3) := ⟨by have := hgx; omega, by have := hgx; omega⟩
    have hne1 : ¬ g2 = g3 := by omega
    have hne2 : ¬ g3 = g2 := by omega
    go_enter Try.func13, Try.ntmps13
    go_upto_region 1 with (fail)
    rw [← hW, ← hgx, ← hg3, ← hg2]
    clear hW hgx hg2 hg3 HHW HSW
    obtain ⟨x0, x1, _, _⟩ := two_cells HX.out
    go_wp2_with fail
    refine (CHECK_any r (A) n c xss _ B (Nat.le_trans hB HBX.out.size) (hh.out.below HBX.out hB)).mono ?_
    rintro e w1 ⟨rfl, hb⟩
    replace HX := Lib.hid ((hb.block gx (blk_lt HX.out)).trans HX.out)
    replace HHR := Lib.hid ((hb.block g2 (blk_lt HHR.out)).trans HHR.out)
    replace HRR := Lib.hid ((hb.block g3 (blk_lt HRR.out)).trans HRR.out)
    replace HBX := Lib.hid (HBX.out.trans (hb.mono HBX.out.size))
    clear hb x0 x1
    obtain ⟨hr0, hr1, hf0, hf1⟩ := two_cells HHR.out
    obtain ⟨hs0, hs1, hk0, hk1⟩ := two_cells HRR.out
    have hl2 := blk_lt HHR.out
    have hl3 := blk_lt HRR.out
    go_wp2_with fail
    (try go_region)
    (try go_wp2_with fail)
    exact fin_norm rfl rfl rfl rfl (norm_set HHR.out HRR.out hne1).1 (norm_set HHR.out HRR.out hne1).2 ⟨_, rfl, OwnRows.nil _ _, set2_below' (set2_below' HBX.out HG2.out.1) HG2.out.2⟩
  · have d1 : decide (want < 1) = false := by simpa using h1
    have d2 : decide (8388607 < want) = true := by simp; omega
    clear h1 hb0
    obtain ⟨W, gx, hW, hgx, HHW, HBX, HSW⟩ := boxes3 w (.cells #[.int .i64 r, .slice (A) n c] 24) (.cells #[.int .i64 0, .slice none 0 0] 24) (.cells #[.string ⟨#[]⟩, .string ⟨#[]⟩] 36)
    have HGX := Lib.hid hgx
    obtain ⟨g2, hg2⟩ : ∃ g, g = gx + 1 := ⟨_, rfl⟩
    obtain ⟨g3, hg3⟩ : ∃ g, g = gx + 1 + 1 := ⟨_, rfl⟩
    have HX : Hid (W.heap[gx]? = some (.cells #[.int .i64 r, .slice (A) n c] 24 (0, 0))) := HHW.out.1
    have HHR : Hid (W.heap[g2]? = some (.cells #[.int .i64 0, .slice none 0 0] 24 (0, 0))) := by rw [hg2]; exact HHW.out.2.1
    have HRR : Hid (W.heap[g3]? = some (.cells #[.string ⟨#[]⟩, .string ⟨#[]⟩] 36 (0, 0))) := by rw [hg3]; exact HHW.out.2.2
    have HG2 : Hid (w.heap.size ≤ g2 ∧ w.heap.size ≤ g3) := ⟨by have := hgx; omega, by have := hgx; omega⟩
    have hne1 : ¬ g2 = g3 := by omega
    have hne2 : ¬ g3 = g2 := by omega
    go_enter Try.func13, Try.ntmps13
    go_upto_region 1 with (fail)
    rw [← hW, ← hgx, ← hg3, ← hg2]
    clear hW hgx hg2 hg3 HHW HSW
    obtain ⟨x0, x1, _, _⟩ := two_cells HX.out
    go_wp2_with fail
    refine (CHECK_any r (A) n c xss _ B (Nat.le_trans hB HBX.out.size) (hh.out.below HBX.out hB)).mono ?_
    rintro e w1 ⟨rfl, hb⟩
    replace HX := Lib.hid ((hb.block gx (blk_lt HX.out)).trans HX.out)
    replace HHR := Lib.hid ((hb.block g2 (blk_lt HHR.out)).trans HHR.out)
    replace HRR := Lib.hid ((hb.block g3 (blk_lt HRR.out)).trans HRR.out)
    replace HBX := Lib.hid (HBX.out.trans (hb.mono HBX.out.size))
    clear hb x0 x1
    obtain ⟨hr0, hr1, hf0, hf1⟩ := two_cells HHR.out
    obtain ⟨hs0, hs1, hk0, hk1⟩ := two_cells HRR.out
    have hl2 := blk_lt HHR.out
    have hl3 := blk_lt HRR.out
    go_wp2_with fail
    (try go_region)
    (try go_wp2_with fail)
    exact fin_norm rfl rfl rfl rfl (norm_set HHR.out HRR.out hne1).1 (norm_set HHR.out HRR.out hne1).2 ⟨_, rfl, OwnRows.nil _ _, set2_below' (set2_below' HBX.out HG2.out.1) HG2.out.2⟩
set_option maxHeartbeats 1600000 in
theorem NORMAL_nil (r : Int) (ad : Addr) (n c : Nat) (want : Int) (xss : List (List Int)) (hn : 0 < n) (hc : Hid (chkS r xss = 0)) (hok : Hid (OkS r xss)) (hw1 : 1 ≤ want) (hw2 : want ≤ 8388607) (hp : pkS 0 xss = 0) (w : World) (B : Nat) (hB : B ≤ w.heap.size) (hh : Hid (RowsAt w B (some ad) n xss)) :
    Calls Try.prog 13 #[.agg #[.int .i64 r, .slice (some ad) n c], .int .i64 want] w (OutNo w ⟨0, [], noB, noB, 13⟩) := by
  have hq : (chkS r xss != 0) = false := by rw [hc.out]; rfl
  have d1 : decide (want < 1) = false := by simp; omega
  have d2 : decide (8388607 < want) = false := by simp; omega
  obtain ⟨W, gx, hW, hgx, HHW, HBX, HSW⟩ := boxes3 w (.cells #[.int .i64 r, .slice (some ad) n c] 24) (.cells #[.int .i64 0, .slice none 0 0] 24) (.cells #[.string ⟨#[]⟩, .string ⟨#[]⟩] 36)
  have HGX := Lib.hid hgx
  obtain ⟨g2, hg2⟩ : ∃ g, g = gx + 1 := ⟨_, rfl⟩
  obtain ⟨g3, hg3⟩ : ∃ g, g = gx + 1 + 1 := ⟨_, rfl⟩
  have HX : Hid (W.heap[gx]? = some (.cells #[.int .i64 r, .slice (some ad) n c] 24 (0, 0))) := HHW.out.1
  have HHR : Hid (W.heap[g2]? = some (.cells #[.int .i64 0, .slice none 0 0] 24 (0, 0))) := by rw [hg2]; exact HHW.out.2.1
  have HRR : Hid (W.heap[g3]? = some (.cells #[.string ⟨#[]⟩, .string ⟨#[]⟩] 36 (0, 0))) := by rw [hg3]; exact HHW.out.2.2
  have HG2 : Hid (w.heap.size ≤ g2 ∧ w.heap.size ≤ g3) := ⟨by have := hgx; omega, by have := hgx; omega⟩
  have hne1 : ¬ g2 = g3 := by omega
  have hne2 : ¬ g3 = g2 := by omega
  go_enter Try.func13, Try.ntmps13
  go_upto_region 1 with (fail)
  rw [← hW, ← hgx, ← hg3, ← hg2]
  clear hW hgx hg2 hg3 HHW HSW
  obtain ⟨x0, x1, _, _⟩ := two_cells HX.out
  go_wp2_with fail
  refine (CHECK_any r (some ad) n c xss _ B (Nat.le_trans hB HBX.out.size) (hh.out.below HBX.out hB)).mono ?_
  rintro e w1 ⟨rfl, hb⟩
  replace HX := Lib.hid ((hb.block gx (blk_lt HX.out)).trans HX.out)
  replace HHR := Lib.hid ((hb.block g2 (blk_lt HHR.out)).trans HHR.out)
  replace HRR := Lib.hid ((hb.block g3 (blk_lt HRR.out)).trans HRR.out)
  replace HBX := Lib.hid (HBX.out.trans (hb.mono HBX.out.size))
  clear hb x0 x1
  obtain ⟨x0, x1, _, _⟩ := two_cells HX.out
  go_wp2_with fail
  refine (PEAKU_ok r ad n c xss hn hok _ B (Nat.le_trans hB HBX.out.size) (hh.out.below HBX.out hB)).mono ?_
  rintro e w2 ⟨rfl, hb⟩
  replace HX := Lib.hid ((hb.block gx (blk_lt HX.out)).trans HX.out)
  replace HHR := Lib.hid ((hb.block g2 (blk_lt HHR.out)).trans HHR.out)
  replace HRR := Lib.hid ((hb.block g3 (blk_lt HRR.out)).trans HRR.out)
  replace HBX := Lib.hid (HBX.out.trans (hb.mono HBX.out.size))
  clear hb x0 x1
  rw [hp]
  clear hp
  obtain ⟨hr0, hr1, hf0, hf1⟩ := two_cells HHR.out
  obtain ⟨hs0, hs1, hk0, hk1⟩ := two_cells HRR.out
  have hl2 := blk_lt HHR.out
  have hl3 := blk_lt HRR.out
  go_wp2_with fail
  (try go_region)
  (try go_wp2_with fail)
  exact fin_norm rfl rfl rfl rfl (norm_set HHR.out HRR.out hne1).1 (norm_set HHR.out HRR.out hne1).2 ⟨_, rfl, OwnRows.nil _ _, set2_below' (set2_below' HBX.out HG2.out.1) HG2.out.2⟩
set_option maxRecDepth 100000 in
set_option maxHeartbeats 400000 in
theorem NORMAL_ok (r : Int) (ad : Addr) (n c : Nat) (want : Int) (xss : List (List Int)) (hn : 0 < n) (hc : Hid (chkS r xss = 0)) (hok : Hid (OkS r xss)) (hw1 : 1 ≤ want) (hw2 : want ≤ 8388607) (hp : pkS 0 xss ≠ 0) (w : World) (B : Nat) (hB : B ≤ w.heap.size) (hh : Hid (RowsAt w B (some ad) n xss)) :
    Calls Try.prog 13 #[.agg #[.int .i64 r, .slice (some ad) n c], .int .i64 want] w (OutNo w ⟨r, xss.map (List.map (gnV ((want : Rat) / pkS 0 xss))), txN ((want : Rat) / pkS 0 xss), txD ((want : Rat) / pkS 0 xss), 0⟩) := by
  have hpb := pkS_bd (xss := xss) (m := 0) (by omega) (by omega) hok.out.smp
  obtain ⟨pk, hpk⟩ : ∃ pk, pkS 0 xss = pk := ⟨_, rfl⟩
  have HPK := Lib.hid hpk
  rw [hpk] at hp hpb ⊢
  clear hpk
  obtain ⟨p1, p2⟩ := hpb
  have hp0 : (pk == 0) = false := by simpa using hp
  obtain ⟨q, hq9⟩ : ∃ q, (want : Rat) / pk = q := ⟨_, rfl⟩
  have HQV : Hid (ratioS want pk = (txN q, txD q, 0)) := by show _ = _; rw [← hq9, ratioS_frac hp, resP_few (frac_few want pk (by omega) (by omega) (by omega) (by omega) hp)]
  have hfew : fewT q 2000 = true := by rw [← hq9]; exact frac_few want pk (by omega) (by omega) (by omega) (by omega) hp
  rw [hq9]
  clear hq9
  have HRT0 := Rt.tx hfew
  obtain ⟨S, hS⟩ : ∃ S, txN q = S := ⟨_, rfl⟩
  obtain ⟨T, hT⟩ : ∃ T, txD q = T := ⟨_, rfl⟩
  have HQ9 := Lib.hid (And.intro hS hT)
  rw [hS, hT] at HQV HRT0
  have HRT := Lib.hid HRT0
  clear hS hT hfew HRT0
  have hq : (chkS r xss != 0) = false := by rw [hc.out]; rfl
  have d1 : decide (want < 1) = false := by simp; omega
  have d2 : decide (8388607 < want) = false := by simp; omega
  obtain ⟨W, gx, hW, hgx, HHW, HBX, HSW⟩ := boxes3 w (.cells #[.int .i64 r, .slice (some ad) n c] 24) (.cells #[.int .i64 0, .slice none 0 0] 24) (.cells #[.string ⟨#[]⟩, .string ⟨#[]⟩] 36)
  have HGX := Lib.hid hgx
  obtain ⟨g2, hg2⟩ : ∃ g, g = gx + 1 := ⟨_, rfl⟩
  obtain ⟨g3, hg3⟩ : ∃ g, g = gx + 1 + 1 := ⟨_, rfl⟩
  have HX : Hid (W.heap[gx]? = some (.cells #[.int .i64 r, .slice (some ad) n c] 24 (0, 0))) := HHW.out.1
  have HHR : Hid (W.heap[g2]? = some (.cells #[.int .i64 0, .slice none 0 0] 24 (0, 0))) := by rw [hg2]; exact HHW.out.2.1
  have HRR : Hid (W.heap[g3]? = some (.cells #[.string ⟨#[]⟩, .string ⟨#[]⟩] 36 (0, 0))) := by rw [hg3]; exact HHW.out.2.2
  have HG2 : Hid (w.heap.size ≤ g2 ∧ w.heap.size ≤ g3) := ⟨by have := hgx; omega, by have := hgx; omega⟩
  have hne1 : ¬ g2 = g3 := by omega
  have hne2 : ¬ g3 = g2 := by omega
  go_enter Try.func13, Try.ntmps13
  go_upto_region 1 with (fail)
  rw [← hW, ← hgx, ← hg3, ← hg2]
  clear hW hgx hg2 hg3 HHW HSW
  obtain ⟨x0, x1, _, _⟩ := two_cells HX.out
  go_wp2_with fail
  refine (CHECK_any r (some ad) n c xss _ B (Nat.le_trans hB HBX.out.size) (hh.out.below HBX.out hB)).mono ?_
  rintro e w1 ⟨rfl, hb⟩
  replace HX := Lib.hid ((hb.block gx (blk_lt HX.out)).trans HX.out)
  replace HHR := Lib.hid ((hb.block g2 (blk_lt HHR.out)).trans HHR.out)
  replace HRR := Lib.hid ((hb.block g3 (blk_lt HRR.out)).trans HRR.out)
  replace HBX := Lib.hid (HBX.out.trans (hb.mono HBX.out.size))
  clear hb x0 x1
  obtain ⟨x0, x1, _, _⟩ := two_cells HX.out
  go_wp2_with fail
  refine (PEAKU_ok r ad n c xss hn hok _ B (Nat.le_trans hB HBX.out.size) (hh.out.below HBX.out hB)).mono ?_
  rintro e w2 ⟨rfl, hb⟩
  replace HX := Lib.hid ((hb.block gx (blk_lt HX.out)).trans HX.out)
  replace HHR := Lib.hid ((hb.block g2 (blk_lt HHR.out)).trans HHR.out)
  replace HRR := Lib.hid ((hb.block g3 (blk_lt HRR.out)).trans HRR.out)
  replace HBX := Lib.hid (HBX.out.trans (hb.mono HBX.out.size))
  clear hb x0 x1
  rw [HPK.out]
  go_wp2_with fail
  refine (RATIOOF_any want pk (by omega) (by omega) (by omega) (by omega) _).mono ?_
  rintro e w3 ⟨rfl, hb⟩
  rw [HQV.out]
  unfold tup3
  dsimp only
  have x0 := 0
  have x1 := 0
  replace HX := Lib.hid ((hb.block gx (blk_lt HX.out)).trans HX.out)
  replace HHR := Lib.hid ((hb.block g2 (blk_lt HHR.out)).trans HHR.out)
  replace HRR := Lib.hid ((hb.block g3 (blk_lt HRR.out)).trans HRR.out)
  replace HBX := Lib.hid (HBX.out.trans (hb.mono HBX.out.size))
  clear hb x0 x1
  go_upto_region 10 with (fail)
  obtain ⟨W, g9, hX, hg, HT9, hb9, _⟩ := cell_new w3 36 #[.string S, .string T]
  rw [← hX, ← hg]
  have hb := hb9.out
  have x0 := 0
  have x1 := 0
  have HG9 : Hid (g9 ≠ g2 ∧ g9 ≠ g3) := ⟨by have := blk_lt HHR.out; omega, by have := blk_lt HRR.out; omega⟩
  replace HX := Lib.hid ((hb.block gx (blk_lt HX.out)).trans HX.out)
  replace HHR := Lib.hid ((hb.block g2 (blk_lt HHR.out)).trans HHR.out)
  replace HRR := Lib.hid ((hb.block g3 (blk_lt HRR.out)).trans HRR.out)
  replace HBX := Lib.hid (HBX.out.trans (hb.mono HBX.out.size))
  clear hb x0 x1
  clear hX hg hb9
  go_upto_region 12 with (fail)
  obtain ⟨x0, x1, _, _⟩ := two_cells HX.out
  obtain ⟨y0, y1, _, _⟩ := two_cells HT9.out
  have HRW := Lib.hid (hh.out.below HBX.out hB)
  have hBW : B ≤ W.heap.size := Nat.le_trans hB HBX.out.size
  have hl0 := blk_lt HX.out
  have hl9 := blk_lt HT9.out
  have hgW2 : Hid (g2 < W.heap.size ∧ g3 < W.heap.size ∧ g9 < W.heap.size ∧ g9 ≠ g2 ∧ g9 ≠ g3) := ⟨blk_lt HHR.out, blk_lt HRR.out, hl9, HG9.out⟩
  refine wp_region_text 8 (fun x9 => x9.cell? ⟨gx, 0, none⟩ = some (.int .i64 r) ∧ x9.cell? ⟨gx, 1, none⟩ = some (.slice (some ad) n c) ∧ x9.cell? ⟨g9, 0, none⟩ = some (.string S) ∧ x9.cell? ⟨g9, 1, none⟩ = some (.string T)) (by kernel_rfl) (by kernel_rfl) ?_
  obtain ⟨wc, hwc⟩ : ∃ x : World, x = W.drew := ⟨_, rfl⟩
  have hbn : Below W.heap.size W W.drew := (Below.refl _ _).drew
  have HHR := Lib.hid ((hbn.block g2 (blk_lt HHR.out)).trans HHR.out)
  have HRR := Lib.hid ((hbn.block g3 (blk_lt HRR.out)).trans HRR.out)
  have HT9 := Lib.hid ((hbn.block g9 (blk_lt HT9.out)).trans HT9.out)
  clear hbn
  have HBc : Hid (Below W.heap.size W wc) := by show Below _ _ _; rw [hwc]; exact (Below.refl _ _).drew
  have hS : wc.cell? ⟨gx, 0, none⟩ = some (.int .i64 r) ∧ wc.cell? ⟨gx, 1, none⟩ = some (.slice (some ad) n c) ∧ wc.cell? ⟨g9, 0, none⟩ = some (.string S) ∧ wc.cell? ⟨g9, 1, none⟩ = some (.string T) := by rw [hwc]; exact ⟨x0, x1, y0, y1⟩
  have hg_0 : gx < wc.heap.size := by rw [hwc]; exact hl0
  have hg_1 : g9 < wc.heap.size := by rw [hwc]; exact hl9
  rw [← hwc] at HHR HRR HT9
  rw [← hwc]
  clear hwc
  refine HT.load (i := 0) (oi := _) (v := ?_) rfl (by kernel_rfl) (by kernel_rfl) (by decide) (fun _ _ _ h => h) (by kernel_rfl) (Or.inl ⟨by rfl, ?_⟩) hS ?_
  rotate_left
  · intro wz hwz
    try dsimp only at hwz
    go_simp
    try with_reducible rfl
  simp only [List.getElem_toArray, List.getElem_cons_succ, List.getElem_cons_zero, Act.put, List.setIfInBounds_toArray, List.set_cons_zero, List.set_cons_succ]
  refine HT.load (i := 1) (oi := _) (v := ?_) rfl (by kernel_rfl) (by kernel_rfl) (by decide) (fun _ _ _ h => h) (by kernel_rfl) (Or.inl ⟨by rfl, ?_⟩) hS ?_
  rotate_left
  · intro wz hwz
    try dsimp only at hwz
    go_simp
    try with_reducible rfl
  simp only [List.getElem_toArray, List.getElem_cons_succ, List.getElem_cons_zero, Act.put, List.setIfInBounds_toArray, List.set_cons_zero, List.set_cons_succ]
  refine HT.two 2 7 (o := _) (o' := _) rfl rfl (by kernel_rfl) (by decide) (by decide) (by rfl) (by rfl) ?_ ?_
  · intro K hK
    go_simp
    refine (FROM_ok HRT.out _).mono ?_
    rintro e wn ⟨ng1, A1, n1, c1, D1, m1, d1, rfl, hH1, k1, l1, hbn⟩
    have H1 := Lib.hid hH1
    clear hH1
    replace HHR := Lib.hid ((hbn.block g2 (blk_lt HHR.out)).trans HHR.out)
    replace HRR := Lib.hid ((hbn.block g3 (blk_lt HRR.out)).trans HRR.out)
    replace HT9 := Lib.hid ((hbn.block g9 (blk_lt HT9.out)).trans HT9.out)
    have HBn := Lib.hid (HBc.out.trans (hbn.mono HBc.out.size))
    have hSn : wn.cell? ⟨gx, 0, none⟩ = some (.int .i64 r) ∧ wn.cell? ⟨gx, 1, none⟩ = some (.slice (some ad) n c) ∧ wn.cell? ⟨g9, 0, none⟩ = some (.string S) ∧ wn.cell? ⟨g9, 1, none⟩ = some (.string T) := ⟨(hbn.cell (p := ⟨gx, 0, none⟩) hg_0).trans hS.1, (hbn.cell (p := ⟨gx, 1, none⟩) hg_0).trans hS.2.1, (hbn.cell (p := ⟨g9, 0, none⟩) hg_1).trans hS.2.2.1, (hbn.cell (p := ⟨g9, 1, none⟩) hg_1).trans hS.2.2.2⟩
    have hgn_0 := Nat.lt_of_lt_of_le hg_0 hbn.size
    have hgn_1 := Nat.lt_of_lt_of_le hg_1 hbn.size
    refine hK.out _ _ hSn ?_
    clear hK K hS HBc hg_0 hg_1
    try simp only [List.getElem_toArray, List.getElem_cons_succ, List.getElem_cons_zero, Act.put, List.setIfInBounds_toArray, List.set_cons_zero, List.set_cons_succ]
    have hS := hSn
    have HBc := HBn
    have hg_0 := hgn_0
    have hg_1 := hgn_1
    clear hSn HBn hbn hgn_0 hgn_1
    obtain ⟨wc, rfl⟩ : ∃ x : World, x = wn := ⟨_, rfl⟩
    refine HT.two 3 7 (o := _) (o' := _) rfl rfl (by kernel_rfl) (by decide) (by decide) (by rfl) (by rfl) ?_ ?_
    · intro K hK
      go_simp
      have HRc := Lib.hid ((HRW.out.below HBc.out hBW).mono (Nat.le_trans hBW HBc.out.size))
      refine (STIMES_ok r ad n c xss hok ng1 A1 n1 c1 D1 m1 d1 q (by omega) (by omega) _ wc.heap.size (Nat.le_refl _) HRc H1).mono ?_
      rintro e wn ⟨v2, rfl, hO2, hbn⟩
      obtain ⟨A2, c2, rfl, _, _⟩ := hO2.form
      replace hO2 := hO2.base (show W.heap.size ≤ wc.heap.size from HBc.out.size)
      clear HRc
      have O2 := Lib.hid hO2
      clear hO2
      clear H1
      replace HHR := Lib.hid ((hbn.block g2 (blk_lt HHR.out)).trans HHR.out)
      replace HRR := Lib.hid ((hbn.block g3 (blk_lt HRR.out)).trans HRR.out)
      replace HT9 := Lib.hid ((hbn.block g9 (blk_lt HT9.out)).trans HT9.out)
      have HBn := Lib.hid (HBc.out.trans (hbn.mono HBc.out.size))
      have hSn : wn.cell? ⟨gx, 0, none⟩ = some (.int .i64 r) ∧ wn.cell? ⟨gx, 1, none⟩ = some (.slice (some ad) n c) ∧ wn.cell? ⟨g9, 0, none⟩ = some (.string S) ∧ wn.cell? ⟨g9, 1, none⟩ = some (.string T) := ⟨(hbn.cell (p := ⟨gx, 0, none⟩) hg_0).trans hS.1, (hbn.cell (p := ⟨gx, 1, none⟩) hg_0).trans hS.2.1, (hbn.cell (p := ⟨g9, 0, none⟩) hg_1).trans hS.2.2.1, (hbn.cell (p := ⟨g9, 1, none⟩) hg_1).trans hS.2.2.2⟩
      have hgn_0 := Nat.lt_of_lt_of_le hg_0 hbn.size
      have hgn_1 := Nat.lt_of_lt_of_le hg_1 hbn.size
      refine hK.out _ _ hSn ?_
      clear hK K hS HBc hg_0 hg_1
      try simp only [List.getElem_toArray, List.getElem_cons_succ, List.getElem_cons_zero, Act.put, List.setIfInBounds_toArray, List.set_cons_zero, List.set_cons_succ]
      have hS := hSn
      have HBc := HBn
      have hg_0 := hgn_0
      have hg_1 := hgn_1
      clear hSn HBn hbn hgn_0 hgn_1
      obtain ⟨wc, rfl⟩ : ∃ x : World, x = wn := ⟨_, rfl⟩
      refine HT.take (i := 4) (oi := _) (v := ?_) rfl (by kernel_rfl) (by kernel_rfl) (by decide) (fun _ _ _ h => h) (Or.inl ⟨by rfl, ?_⟩) hS ?_
      rotate_left
      · intro wz
        go_simp
        try with_reducible rfl
      simp only [List.getElem_toArray, List.getElem_cons_succ, List.getElem_cons_zero, Act.put, List.setIfInBounds_toArray, List.set_cons_zero, List.set_cons_succ]
      refine HT.take (i := 5) (oi := _) (v := ?_) rfl (by kernel_rfl) (by kernel_rfl) (by decide) (fun _ _ _ h => h) (Or.inl ⟨by rfl, ?_⟩) hS ?_
      rotate_left
      · intro wz
        go_simp
        try with_reducible rfl
      simp only [List.getElem_toArray, List.getElem_cons_succ, List.getElem_cons_zero, Act.put, List.setIfInBounds_toArray, List.set_cons_zero, List.set_cons_succ]
      refine HT.take (i := 6) (oi := _) (v := ?_) rfl (by kernel_rfl) (by kernel_rfl) (by decide) (fun _ _ _ h => h) (Or.inl ⟨by rfl, ?_⟩) hS ?_
      rotate_left
      · intro wz
        go_simp
        try with_reducible rfl
      simp only [List.getElem_toArray, List.getElem_cons_succ, List.getElem_cons_zero, Act.put, List.setIfInBounds_toArray, List.set_cons_zero, List.set_cons_succ]
      refine HT.one (i := 7) (o := _) rfl (by kernel_rfl) (by decide) (by rfl) ?_
      intro K hK
      go_simp
      obtain ⟨wn, ga, hwn, hga9, hHA, hbn0, _⟩ := cell_new0 wc 24 #[.int .i64 0, .slice none 0 0]
      have hbn := hbn0.out
      have HGga : Hid (W.heap.size ≤ ga) := by show _ ≤ _; rw [hga9]; exact HBc.out.size
      have hne_g2_ga : g2 ≠ ga := by have := blk_lt HHR.out; omega
      have hne_g3_ga : g3 ≠ ga := by have := blk_lt HRR.out; omega
      have hne_g9_ga : g9 ≠ ga := by have := blk_lt HT9.out; omega
      rw [← hwn, ← hga9]
      have HA := hHA
      clear hwn hga9 hbn0 hHA
      replace HHR := Lib.hid ((hbn.block g2 (blk_lt HHR.out)).trans HHR.out)
      replace HRR := Lib.hid ((hbn.block g3 (blk_lt HRR.out)).trans HRR.out)
      replace HT9 := Lib.hid ((hbn.block g9 (blk_lt HT9.out)).trans HT9.out)
      replace O2 := Lib.hid (O2.out.below hbn)
      have HBn := Lib.hid (HBc.out.trans (hbn.mono HBc.out.size))
      have hSn : wn.cell? ⟨gx, 0, none⟩ = some (.int .i64 r) ∧ wn.cell? ⟨gx, 1, none⟩ = some (.slice (some ad) n c) ∧ wn.cell? ⟨g9, 0, none⟩ = some (.string S) ∧ wn.cell? ⟨g9, 1, none⟩ = some (.string T) := ⟨(hbn.cell (p := ⟨gx, 0, none⟩) hg_0).trans hS.1, (hbn.cell (p := ⟨gx, 1, none⟩) hg_0).trans hS.2.1, (hbn.cell (p := ⟨g9, 0, none⟩) hg_1).trans hS.2.2.1, (hbn.cell (p := ⟨g9, 1, none⟩) hg_1).trans hS.2.2.2⟩
      have hgn_0 := Nat.lt_of_lt_of_le hg_0 hbn.size
      have hgn_1 := Nat.lt_of_lt_of_le hg_1 hbn.size
      refine hK.out _ _ hSn ?_
      clear hK K hS HBc hg_0 hg_1
      try simp only [List.getElem_toArray, List.getElem_cons_succ, List.getElem_cons_zero, Act.put, List.setIfInBounds_toArray, List.set_cons_zero, List.set_cons_succ]
      have hS := hSn
      have HBc := HBn
      have hg_0 := hgn_0
      have hg_1 := hgn_1
      clear hSn HBn hbn hgn_0 hgn_1
      obtain ⟨wc, rfl⟩ : ∃ x : World, x = wn := ⟨_, rfl⟩
      obtain ⟨hr0, hr1, hf0, hf1⟩ := two_cells HHR.out
      obtain ⟨hs0, hs1, hk0, hk1⟩ := two_cells HRR.out
      obtain ⟨ht0, ht1, _, _⟩ := two_cells HT9.out
      obtain ⟨ha0, ha1, hfa0, hfa1⟩ := two_cells HA.out
      have hla := blk_lt HA.out
      have hl2 := blk_lt HHR.out
      have hl3 := blk_lt HRR.out
      have hl9 := blk_lt HT9.out
      refine HT.done (by kernel_rfl) ?_
      clear hS
      simp only [List.drop_succ_cons, List.drop_zero]
      have hga9 := HGga.out
      have hgW := hgW2.out
      have hna2 : ¬ ga = g2 := by omega
      have hna3 : ¬ ga = g3 := by omega
      have hna9 : ¬ ga = g9 := by omega
      have hna2' : ¬ g2 = ga := by omega
      have hna3' : ¬ g3 = ga := by omega
      have hna9' : ¬ g9 = ga := by omega
      go_wp2_with fail
      go_region
      go_wp2_with fail
      have HB9 := HBX.out.trans (HBc.out.mono HBX.out.size)
      have hbx9 := HBX.out.size
      have hg29 := HG2.out
      obtain ⟨rows, hL⟩ := O2.out
      simp only [List.length_map] at hL
      have H2' : ((wc.setCell ⟨ga, 0, none⟩ (.int .i64 r)).setCell ⟨ga, 1, none⟩ (.slice A2 xss.length c2)).heap[g2]? = some (.cells #[.int .i64 0, .slice none 0 0] 24 (0, 0)) := by
        rw [Below.heap_setCell _ _ _ _ (by simpa using hna2'), Below.heap_setCell _ _ _ _ (by simpa using hna2')]; exact HHR.out
      have H3' : ((wc.setCell ⟨ga, 0, none⟩ (.int .i64 r)).setCell ⟨ga, 1, none⟩ (.slice A2 xss.length c2)).heap[g3]? = some (.cells #[.string ⟨#[]⟩, .string ⟨#[]⟩] 36 (0, 0)) := by
        rw [Below.heap_setCell _ _ _ _ (by simpa using hna3'), Below.heap_setCell _ _ _ _ (by simpa using hna3')]; exact HRR.out
      exact fin_norm_drew rfl rfl rfl rfl (norm_set H2' H3' hne1).1 (norm_set H2' H3' hne1).2 ⟨_, by rw [HQ9.out.1, HQ9.out.2]; rfl, ⟨rows, (((((hL.set2_far HA.out (by decide) (by decide) _ _).set_below (p := ⟨g2, 0, none⟩) (by simp; omega) _).set_below (p := ⟨g2, 1, none⟩) (by simp; omega) _).set_below (p := ⟨g3, 0, none⟩) (by simp; omega) _).set_below (p := ⟨g3, 1, none⟩) (by simp; omega) _).drew.base hbx9⟩, (set2_below' (set2_below' (set2_below' HB9 (by omega)) hg29.1) hg29.2).drew⟩
      -- HHR HRR HT9 HA O2
    · intro K hK
      go_simp
      obtain ⟨wn, ga, hwn, hga9, hHA, hbn0, _⟩ := cell_new0 wc 24 #[.int .i64 0, .slice none 0 0]
      have hbn := hbn0.out
      have HGga : Hid (W.heap.size ≤ ga) := by show _ ≤ _; rw [hga9]; exact HBc.out.size
      have hne_g2_ga : g2 ≠ ga := by have := blk_lt HHR.out; omega
      have hne_g3_ga : g3 ≠ ga := by have := blk_lt HRR.out; omega
      have hne_g9_ga : g9 ≠ ga := by have := blk_lt HT9.out; omega
      rw [← hwn, ← hga9]
      have HA := hHA
      clear hwn hga9 hbn0 hHA
      replace HHR := Lib.hid ((hbn.block g2 (blk_lt HHR.out)).trans HHR.out)
      replace HRR := Lib.hid ((hbn.block g3 (blk_lt HRR.out)).trans HRR.out)
      replace HT9 := Lib.hid ((hbn.block g9 (blk_lt HT9.out)).trans HT9.out)
      replace H1 := Lib.hid (H1.out.to hbn (Nat.le_refl _) hbn.size)
      have HBn := Lib.hid (HBc.out.trans (hbn.mono HBc.out.size))
      have hSn : wn.cell? ⟨gx, 0, none⟩ = some (.int .i64 r) ∧ wn.cell? ⟨gx, 1, none⟩ = some (.slice (some ad) n c) ∧ wn.cell? ⟨g9, 0, none⟩ = some (.string S) ∧ wn.cell? ⟨g9, 1, none⟩ = some (.string T) := ⟨(hbn.cell (p := ⟨gx, 0, none⟩) hg_0).trans hS.1, (hbn.cell (p := ⟨gx, 1, none⟩) hg_0).trans hS.2.1, (hbn.cell (p := ⟨g9, 0, none⟩) hg_1).trans hS.2.2.1, (hbn.cell (p := ⟨g9, 1, none⟩) hg_1).trans hS.2.2.2⟩
      have hgn_0 := Nat.lt_of_lt_of_le hg_0 hbn.size
      have hgn_1 := Nat.lt_of_lt_of_le hg_1 hbn.size
      refine hK.out _ _ hSn ?_
      clear hK K hS HBc hg_0 hg_1
      try simp only [List.getElem_toArray, List.getElem_cons_succ, List.getElem_cons_zero, Act.put, List.setIfInBounds_toArray, List.set_cons_zero, List.set_cons_succ]
      have hS := hSn
      have HBc := HBn
      have hg_0 := hgn_0
      have hg_1 := hgn_1
      clear hSn HBn hbn hgn_0 hgn_1
      obtain ⟨wc, rfl⟩ : ∃ x : World, x = wn := ⟨_, rfl⟩
      refine HT.one (i := 3) (o := _) rfl (by kernel_rfl) (by decide) (by rfl) ?_
      intro K hK
      go_simp
      have HRc := Lib.hid ((HRW.out.below HBc.out hBW).mono (Nat.le_trans hBW HBc.out.size))
      refine (STIMES_ok r ad n c xss hok ng1 A1 n1 c1 D1 m1 d1 q (by omega) (by omega) _ wc.heap.size (Nat.le_refl _) HRc H1).mono ?_
      rintro e wn ⟨v2, rfl, hO2, hbn⟩
      obtain ⟨A2, c2, rfl, _, _⟩ := hO2.form
      replace hO2 := hO2.base (show W.heap.size ≤ wc.heap.size from HBc.out.size)
      clear HRc
      have O2 := Lib.hid hO2
      clear hO2
      clear H1
      replace HHR := Lib.hid ((hbn.block g2 (blk_lt HHR.out)).trans HHR.out)
      replace HRR := Lib.hid ((hbn.block g3 (blk_lt HRR.out)).trans HRR.out)
      replace HT9 := Lib.hid ((hbn.block g9 (blk_lt HT9.out)).trans HT9.out)
      replace HA := Lib.hid ((hbn.block ga (blk_lt HA.out)).trans HA.out)
      have HBn := Lib.hid (HBc.out.trans (hbn.mono HBc.out.size))
      have hSn : wn.cell? ⟨gx, 0, none⟩ = some (.int .i64 r) ∧ wn.cell? ⟨gx, 1, none⟩ = some (.slice (some ad) n c) ∧ wn.cell? ⟨g9, 0, none⟩ = some (.string S) ∧ wn.cell? ⟨g9, 1, none⟩ = some (.string T) := ⟨(hbn.cell (p := ⟨gx, 0, none⟩) hg_0).trans hS.1, (hbn.cell (p := ⟨gx, 1, none⟩) hg_0).trans hS.2.1, (hbn.cell (p := ⟨g9, 0, none⟩) hg_1).trans hS.2.2.1, (hbn.cell (p := ⟨g9, 1, none⟩) hg_1).trans hS.2.2.2⟩
      have hgn_0 := Nat.lt_of_lt_of_le hg_0 hbn.size
      have hgn_1 := Nat.lt_of_lt_of_le hg_1 hbn.size
      refine hK.out _ _ hSn ?_
      clear hK K hS HBc hg_0 hg_1
      try simp only [List.getElem_toArray, List.getElem_cons_succ, List.getElem_cons_zero, Act.put, List.setIfInBounds_toArray, List.set_cons_zero, List.set_cons_succ]
      have hS := hSn
      have HBc := HBn
      have hg_0 := hgn_0
      have hg_1 := hgn_1
      clear hSn HBn hbn hgn_0 hgn_1
      obtain ⟨wc, rfl⟩ : ∃ x : World, x = wn := ⟨_, rfl⟩
      refine HT.take (i := 4) (oi := _) (v := ?_) rfl (by kernel_rfl) (by kernel_rfl) (by decide) (fun _ _ _ h => h) (Or.inl ⟨by rfl, ?_⟩) hS ?_
      rotate_left
      · intro wz
        go_simp
        try with_reducible rfl
      simp only [List.getElem_toArray, List.getElem_cons_succ, List.getElem_cons_zero, Act.put, List.setIfInBounds_toArray, List.set_cons_zero, List.set_cons_succ]
      refine HT.take (i := 5) (oi := _) (v := ?_) rfl (by kernel_rfl) (by kernel_rfl) (by decide) (fun _ _ _ h => h) (Or.inl ⟨by rfl, ?_⟩) hS ?_
      rotate_left
      · intro wz
        go_simp
        try with_reducible rfl
      simp only [List.getElem_toArray, List.getElem_cons_succ, List.getElem_cons_zero, Act.put, List.setIfInBounds_toArray, List.set_cons_zero, List.set_cons_succ]
      refine HT.take (i := 6) (oi := _) (v := ?_) rfl (by kernel_rfl) (by kernel_rfl) (by decide) (fun _ _ _ h => h) (Or.inl ⟨by rfl, ?_⟩) hS ?_
      rotate_left
      · intro wz
        go_simp
        try with_reducible rfl
      simp only [List.getElem_toArray, List.getElem_cons_succ, List.getElem_cons_zero, Act.put, List.setIfInBounds_toArray, List.set_cons_zero, List.set_cons_succ]
      obtain ⟨hr0, hr1, hf0, hf1⟩ := two_cells HHR.out
      obtain ⟨hs0, hs1, hk0, hk1⟩ := two_cells HRR.out
      obtain ⟨ht0, ht1, _, _⟩ := two_cells HT9.out
      obtain ⟨ha0, ha1, hfa0, hfa1⟩ := two_cells HA.out
      have hla := blk_lt HA.out
      have hl2 := blk_lt HHR.out
      have hl3 := blk_lt HRR.out
      have hl9 := blk_lt HT9.out
      refine HT.done (by kernel_rfl) ?_
      clear hS
      simp only [List.drop_succ_cons, List.drop_zero]
      have hga9 := HGga.out
      have hgW := hgW2.out
      have hna2 : ¬ ga = g2 := by omega
      have hna3 : ¬ ga = g3 := by omega
      have hna9 : ¬ ga = g9 := by omega
      have hna2' : ¬ g2 = ga := by omega
      have hna3' : ¬ g3 = ga := by omega
      have hna9' : ¬ g9 = ga := by omega
      go_wp2_with fail
      go_region
      go_wp2_with fail
      have HB9 := HBX.out.trans (HBc.out.mono HBX.out.size)
      have hbx9 := HBX.out.size
      have hg29 := HG2.out
      obtain ⟨rows, hL⟩ := O2.out
      simp only [List.length_map] at hL
      have H2' : ((wc.setCell ⟨ga, 0, none⟩ (.int .i64 r)).setCell ⟨ga, 1, none⟩ (.slice A2 xss.length c2)).heap[g2]? = some (.cells #[.int .i64 0, .slice none 0 0] 24 (0, 0)) := by
        rw [Below.heap_setCell _ _ _ _ (by simpa using hna2'), Below.heap_setCell _ _ _ _ (by simpa using hna2')]; exact HHR.out
      have H3' : ((wc.setCell ⟨ga, 0, none⟩ (.int .i64 r)).setCell ⟨ga, 1, none⟩ (.slice A2 xss.length c2)).heap[g3]? = some (.cells #[.string ⟨#[]⟩, .string ⟨#[]⟩] 36 (0, 0)) := by
        rw [Below.heap_setCell _ _ _ _ (by simpa using hna3'), Below.heap_setCell _ _ _ _ (by simpa using hna3')]; exact HRR.out
      exact fin_norm_drew rfl rfl rfl rfl (norm_set H2' H3' hne1).1 (norm_set H2' H3' hne1).2 ⟨_, by rw [HQ9.out.1, HQ9.out.2]; rfl, ⟨rows, (((((hL.set2_far HA.out (by decide) (by decide) _ _).set_below (p := ⟨g2, 0, none⟩) (by simp; omega) _).set_below (p := ⟨g2, 1, none⟩) (by simp; omega) _).set_below (p := ⟨g3, 0, none⟩) (by simp; omega) _).set_below (p := ⟨g3, 1, none⟩) (by simp; omega) _).drew.base hbx9⟩, (set2_below' (set2_below' (set2_below' HB9 (by omega)) hg29.1) hg29.2).drew⟩
      -- HHR HRR HT9 HA O2
  · intro K hK
    go_simp
    obtain ⟨wn, ga, hwn, hga9, hHA, hbn0, _⟩ := cell_new0 wc 24 #[.int .i64 0, .slice none 0 0]
    have hbn := hbn0.out
    have HGga : Hid (W.heap.size ≤ ga) := by show _ ≤ _; rw [hga9]; exact HBc.out.size
    have hne_g2_ga : g2 ≠ ga := by have := blk_lt HHR.out; omega
    have hne_g3_ga : g3 ≠ ga := by have := blk_lt HRR.out; omega
    have hne_g9_ga : g9 ≠ ga := by have := blk_lt HT9.out; omega
    rw [← hwn, ← hga9]
    have HA := hHA
    clear hwn hga9 hbn0 hHA
    replace HHR := Lib.hid ((hbn.block g2 (blk_lt HHR.out)).trans HHR.out)
    replace HRR := Lib.hid ((hbn.block g3 (blk_lt HRR.out)).trans HRR.out)
    replace HT9 := Lib.hid ((hbn.block g9 (blk_lt HT9.out)).trans HT9.out)
    have HBn := Lib.hid (HBc.out.trans (hbn.mono HBc.out.size))
    have hSn : wn.cell? ⟨gx, 0, none⟩ = some (.int .i64 r) ∧ wn.cell? ⟨gx, 1, none⟩ = some (.slice (some ad) n c) ∧ wn.cell? ⟨g9, 0, none⟩ = some (.string S) ∧ wn.cell? ⟨g9, 1, none⟩ = some (.string T) := ⟨(hbn.cell (p := ⟨gx, 0, none⟩) hg_0).trans hS.1, (hbn.cell (p := ⟨gx, 1, none⟩) hg_0).trans hS.2.1, (hbn.cell (p := ⟨g9, 0, none⟩) hg_1).trans hS.2.2.1, (hbn.cell (p := ⟨g9, 1, none⟩) hg_1).trans hS.2.2.2⟩
    have hgn_0 := Nat.lt_of_lt_of_le hg_0 hbn.size
    have hgn_1 := Nat.lt_of_lt_of_le hg_1 hbn.size
    refine hK.out _ _ hSn ?_
    clear hK K hS HBc hg_0 hg_1
    try simp only [List.getElem_toArray, List.getElem_cons_succ, List.getElem_cons_zero, Act.put, List.setIfInBounds_toArray, List.set_cons_zero, List.set_cons_succ]
    have hS := hSn
    have HBc := HBn
    have hg_0 := hgn_0
    have hg_1 := hgn_1
    clear hSn HBn hbn hgn_0 hgn_1
    obtain ⟨wc, rfl⟩ : ∃ x : World, x = wn := ⟨_, rfl⟩
    refine HT.one (i := 2) (o := _) rfl (by kernel_rfl) (by decide) (by rfl) ?_
    intro K hK
    go_simp
    refine (FROM_ok HRT.out _).mono ?_
    rintro e wn ⟨ng1, A1, n1, c1, D1, m1, d1, rfl, hH1, k1, l1, hbn⟩
    have H1 := Lib.hid hH1
    clear hH1
    replace HHR := Lib.hid ((hbn.block g2 (blk_lt HHR.out)).trans HHR.out)
    replace HRR := Lib.hid ((hbn.block g3 (blk_lt HRR.out)).trans HRR.out)
    replace HT9 := Lib.hid ((hbn.block g9 (blk_lt HT9.out)).trans HT9.out)
    replace HA := Lib.hid ((hbn.block ga (blk_lt HA.out)).trans HA.out)
    have HBn := Lib.hid (HBc.out.trans (hbn.mono HBc.out.size))
    have hSn : wn.cell? ⟨gx, 0, none⟩ = some (.int .i64 r) ∧ wn.cell? ⟨gx, 1, none⟩ = some (.slice (some ad) n c) ∧ wn.cell? ⟨g9, 0, none⟩ = some (.string S) ∧ wn.cell? ⟨g9, 1, none⟩ = some (.string T) := ⟨(hbn.cell (p := ⟨gx, 0, none⟩) hg_0).trans hS.1, (hbn.cell (p := ⟨gx, 1, none⟩) hg_0).trans hS.2.1, (hbn.cell (p := ⟨g9, 0, none⟩) hg_1).trans hS.2.2.1, (hbn.cell (p := ⟨g9, 1, none⟩) hg_1).trans hS.2.2.2⟩
    have hgn_0 := Nat.lt_of_lt_of_le hg_0 hbn.size
    have hgn_1 := Nat.lt_of_lt_of_le hg_1 hbn.size
    refine hK.out _ _ hSn ?_
    clear hK K hS HBc hg_0 hg_1
    try simp only [List.getElem_toArray, List.getElem_cons_succ, List.getElem_cons_zero, Act.put, List.setIfInBounds_toArray, List.set_cons_zero, List.set_cons_succ]
    have hS := hSn
    have HBc := HBn
    have hg_0 := hgn_0
    have hg_1 := hgn_1
    clear hSn HBn hbn hgn_0 hgn_1
    obtain ⟨wc, rfl⟩ : ∃ x : World, x = wn := ⟨_, rfl⟩
    refine HT.one (i := 3) (o := _) rfl (by kernel_rfl) (by decide) (by rfl) ?_
    intro K hK
    go_simp
    have HRc := Lib.hid ((HRW.out.below HBc.out hBW).mono (Nat.le_trans hBW HBc.out.size))
    refine (STIMES_ok r ad n c xss hok ng1 A1 n1 c1 D1 m1 d1 q (by omega) (by omega) _ wc.heap.size (Nat.le_refl _) HRc H1).mono ?_
    rintro e wn ⟨v2, rfl, hO2, hbn⟩
    obtain ⟨A2, c2, rfl, _, _⟩ := hO2.form
    replace hO2 := hO2.base (show W.heap.size ≤ wc.heap.size from HBc.out.size)
    clear HRc
    have O2 := Lib.hid hO2
    clear hO2
    clear H1
    replace HHR := Lib.hid ((hbn.block g2 (blk_lt HHR.out)).trans HHR.out)
    replace HRR := Lib.hid ((hbn.block g3 (blk_lt HRR.out)).trans HRR.out)
    replace HT9 := Lib.hid ((hbn.block g9 (blk_lt HT9.out)).trans HT9.out)
    replace HA := Lib.hid ((hbn.block ga (blk_lt HA.out)).trans HA.out)
    have HBn := Lib.hid (HBc.out.trans (hbn.mono HBc.out.size))
    have hSn : wn.cell? ⟨gx, 0, none⟩ = some (.int .i64 r) ∧ wn.cell? ⟨gx, 1, none⟩ = some (.slice (some ad) n c) ∧ wn.cell? ⟨g9, 0, none⟩ = some (.string S) ∧ wn.cell? ⟨g9, 1, none⟩ = some (.string T) := ⟨(hbn.cell (p := ⟨gx, 0, none⟩) hg_0).trans hS.1, (hbn.cell (p := ⟨gx, 1, none⟩) hg_0).trans hS.2.1, (hbn.cell (p := ⟨g9, 0, none⟩) hg_1).trans hS.2.2.1, (hbn.cell (p := ⟨g9, 1, none⟩) hg_1).trans hS.2.2.2⟩
    have hgn_0 := Nat.lt_of_lt_of_le hg_0 hbn.size
    have hgn_1 := Nat.lt_of_lt_of_le hg_1 hbn.size
    refine hK.out _ _ hSn ?_
    clear hK K hS HBc hg_0 hg_1
    try simp only [List.getElem_toArray, List.getElem_cons_succ, List.getElem_cons_zero, Act.put, List.setIfInBounds_toArray, List.set_cons_zero, List.set_cons_succ]
    have hS := hSn
    have HBc := HBn
    have hg_0 := hgn_0
    have hg_1 := hgn_1
    clear hSn HBn hbn hgn_0 hgn_1
    obtain ⟨wc, rfl⟩ : ∃ x : World, x = wn := ⟨_, rfl⟩
    refine HT.take (i := 4) (oi := _) (v := ?_) rfl (by kernel_rfl) (by kernel_rfl) (by decide) (fun _ _ _ h => h) (Or.inl ⟨by rfl, ?_⟩) hS ?_
    rotate_left
    · intro wz
      go_simp
      try with_reducible rfl
    simp only [List.getElem_toArray, List.getElem_cons_succ, List.getElem_cons_zero, Act.put, List.setIfInBounds_toArray, List.set_cons_zero, List.set_cons_succ]
    refine HT.take (i := 5) (oi := _) (v := ?_) rfl (by kernel_rfl) (by kernel_rfl) (by decide) (fun _ _ _ h => h) (Or.inl ⟨by rfl, ?_⟩) hS ?_
    rotate_left
    · intro wz
      go_simp
      try with_reducible rfl
    simp only [List.getElem_toArray, List.getElem_cons_succ, List.getElem_cons_zero, Act.put, List.setIfInBounds_toArray, List.set_cons_zero, List.set_cons_succ]
    refine HT.take (i := 6) (oi := _) (v := ?_) rfl (by kernel_rfl) (by kernel_rfl) (by decide) (fun _ _ _ h => h) (Or.inl ⟨by rfl, ?_⟩) hS ?_
    rotate_left
    · intro wz
      go_simp
      try with_reducible rfl
    simp only [List.getElem_toArray, List.getElem_cons_succ, List.getElem_cons_zero, Act.put, List.setIfInBounds_toArray, List.set_cons_zero, List.set_cons_succ]
    obtain ⟨hr0, hr1, hf0, hf1⟩ := two_cells HHR.out
    obtain ⟨hs0, hs1, hk0, hk1⟩ := two_cells HRR.out
    obtain ⟨ht0, ht1, _, _⟩ := two_cells HT9.out
    obtain ⟨ha0, ha1, hfa0, hfa1⟩ := two_cells HA.out
    have hla := blk_lt HA.out
    have hl2 := blk_lt HHR.out
    have hl3 := blk_lt HRR.out
    have hl9 := blk_lt HT9.out
    refine HT.done (by kernel_rfl) ?_
    clear hS
    simp only [List.drop_succ_cons, List.drop_zero]
    have hga9 := HGga.out
    have hgW := hgW2.out
    have hna2 : ¬ ga = g2 := by omega
    have hna3 : ¬ ga = g3 := by omega
    have hna9 : ¬ ga = g9 := by omega
    have hna2' : ¬ g2 = ga := by omega
    have hna3' : ¬ g3 = ga := by omega
    have hna9' : ¬ g9 = ga := by omega
    go_wp2_with fail
    go_region
    go_wp2_with fail
    have HB9 := HBX.out.trans (HBc.out.mono HBX.out.size)
    have hbx9 := HBX.out.size
    have hg29 := HG2.out
    obtain ⟨rows, hL⟩ := O2.out
    simp only [List.length_map] at hL
    have H2' : ((wc.setCell ⟨ga, 0, none⟩ (.int .i64 r)).setCell ⟨ga, 1, none⟩ (.slice A2 xss.length c2)).heap[g2]? = some (.cells #[.int .i64 0, .slice none 0 0] 24 (0, 0)) := by
      rw [Below.heap_setCell _ _ _ _ (by simpa using hna2'), Below.heap_setCell _ _ _ _ (by simpa using hna2')]; exact HHR.out
    have H3' : ((wc.setCell ⟨ga, 0, none⟩ (.int .i64 r)).setCell ⟨ga, 1, none⟩ (.slice A2 xss.length c2)).heap[g3]? = some (.cells #[.string ⟨#[]⟩, .string ⟨#[]⟩] 36 (0, 0)) := by
      rw [Below.heap_setCell _ _ _ _ (by simpa using hna3'), Below.heap_setCell _ _ _ _ (by simpa using hna3')]; exact HRR.out
    exact fin_norm_drew rfl rfl rfl rfl (norm_set H2' H3' hne1).1 (norm_set H2' H3' hne1).2 ⟨_, by rw [HQ9.out.1, HQ9.out.2]; rfl, ⟨rows, (((((hL.set2_far HA.out (by decide) (by decide) _ _).set_below (p := ⟨g2, 0, none⟩) (by simp; omega) _).set_below (p := ⟨g2, 1, none⟩) (by simp; omega) _).set_below (p := ⟨g3, 0, none⟩) (by simp; omega) _).set_below (p := ⟨g3, 1, none⟩) (by simp; omega) _).drew.base hbx9⟩, (set2_below' (set2_below' (set2_below' HB9 (by omega)) hg29.1) hg29.2).drew⟩
    -- HHR HRR HT9 HA O2
theorem NORMAL_any (r : Int) (A : Option Addr) (n c : Nat) (want : Int) (xss : List (List Int)) (w : World)  (B : Nat) (hB : B ≤ w.heap.size) (hh : RowsAt w B A n xss) :
    Calls Try.prog 13 #[.agg #[.int .i64 r, .slice A n c], .int .i64 want] w (OutNo w (normS r xss want)) := by
  unfold normS
  by_cases hc : chkS r xss = 0
  · have hok := chkS_ok hc
    have hn : 0 < n := by have := hok.some; have := hh.1; omega
    obtain ⟨ad, rfl⟩ := hh.addr hn
    rw [if_neg (by simp [hc])]
    by_cases hd : want < 1 ∨ 8388607 < want
    · rw [if_pos hd]; exact NORMAL_bad r (some ad) n c want xss hc hd w B hB hh
    · rw [if_neg hd]
      by_cases hp : pkS 0 xss = 0
      · rw [if_pos hp]; exact NORMAL_nil r ad n c want xss hn hc hok (by omega) (by omega) hp w B hB hh
      · rw [if_neg hp]; exact NORMAL_ok r ad n c want xss hn hc hok (by omega) (by omega) hp w  B hB hh
  · rw [if_pos hc]; exact NORMAL_chk r A n c want xss hc w B hB hh
end Go.Proofs.Ytnhmhjhfoonakaa
