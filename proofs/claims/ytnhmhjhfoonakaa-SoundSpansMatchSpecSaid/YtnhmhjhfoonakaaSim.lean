/- Silences, of the sound. -/
import Derived.Test.YtnhmhjhfoonakaaSil
import Derived.Test.YtnhmhjhfoonakaaZb
import Derived.Test.YtnhmhjhfoonakaaWb
set_option linter.unusedSimpArgs false
set_option linter.unusedVariables false
namespace Go.Proofs.Ytnhmhjhfoonakaa
open Go.RowKit Go.Dw
theorem OwnPrs.lower {E : TypeId} {w : World} {B base : Nat} {v : Value} {bs : List Pr} (h : OwnPrs E w B v bs) (hb : base ≤ B) : OwnPrs E w base v bs := by
  rcases h with ⟨hl, h0 | ⟨g, cap, cur, e, hg, r⟩⟩
  · exact ⟨hl, .inl h0⟩
  · exact ⟨hl, .inr ⟨g, cap, cur, e, Nat.le_trans hb hg, r⟩⟩
theorem box_two (w : World) (o1 o2 : Obj) : ∃ W gx, W = (w.alloc o1).alloc o2 ∧ gx = w.heap.size ∧ Hid (W.heap[gx]? = some o1 ∧ W.heap[gx + 1]? = some o2) ∧ Hid (Below w.heap.size w W) ∧ Hid (W.heap.size = w.heap.size + 2) := by
  refine ⟨_, _, rfl, rfl, ⟨?_, ?_⟩, ?_, ?_⟩
  · rw [Below.heap_alloc _ _ _ (by simp)]
    exact heap_alloc_new _ _
  · have := heap_alloc_new (w.alloc o1) o2
    rwa [World.size_alloc] at this
  · exact ((Below.refl _ _).alloc (Nat.le_refl _) _).alloc (by simp) _
  · show _ = _; simp
set_option maxRecDepth 100000 in
set_option maxHeartbeats 2000000 in
theorem SILENCES_chk (r : Int) (A : Option Addr) (n c : Nat) (xss : List (List Int)) (level least : Int) (hc : chkS r xss ≠ 0) (w : World) (B : Nat) (hB : B ≤ w.heap.size) (hh : Hid (RowsAt w B A n xss)) :
    Calls Try.prog 15 #[.agg #[.int .i64 r, .slice A n c], .int .i64 level, .int .i64 least] w (OutT2 48 w ([], chkS r xss)) := by
  have hq : (chkS r xss != 0) = true := by simpa using hc
  clear hc
  obtain ⟨W, gx, hW, hgx, HHW, HB, HSW⟩ := box_two w (.cells #[.int .i64 r, .slice (A) n c] 24) (.cells #[.int .i64 level] 3)
  have hbB : Hid (Below B w W) := HB.out.mono hB
  have hsW : B ≤ W.heap.size := by have := HSW.out; omega
  obtain ⟨x0, x1⟩ := cells_two HHW.out.1
  have v0 := own_cell1 HHW.out.2 0
  simp at v0
  have hg1 := blk_lt HHW.out.2
  go_enter Try.func15, Try.ntmps15
  go_upto_region 1 with (fail)
  rw [← hW, ← hgx]
  clear hW hgx
  go_wp2_with fail
  refine (CHECK_any r (A) n c xss _ B hsW (hh.out.below hbB.out (Nat.le_refl _))).mono ?_
  rintro e w1 ⟨rfl, hb1⟩
  have hz1 := pcell hb1
  have HB1 := Lib.hid (HB.out.trans (hb1.mono HB.out.size))
  have hs1 := hb1.size
  have HX1 := Lib.hid ((hb1.block gx (by omega)).trans HHW.out.1)
  have HL1 := Lib.hid ((hb1.block (gx + 1) (by omega)).trans HHW.out.2)
  have y0 := (hb1.cell (p := ⟨gx, 0, none⟩) (by dsimp only; omega)).trans x0
  have y1 := (hb1.cell (p := ⟨gx, 1, none⟩) (by dsimp only; omega)).trans x1
  have yv := (hb1.cell (p := ⟨gx + 1, 0, none⟩) (by dsimp only; omega)).trans v0
  clear hb1 x0 x1 v0 hz1
  go_wp2_with fail
  refine bodyPost_ret (v := .tuple #[.slice none 0 0, .int .i64 (chkS r xss)]) (by simp [results, Try.results15, go_sem]) rfl ?_
  exact ⟨_, rfl, OwnPrs.nil _ _ _, HB1.out⟩
set_option maxRecDepth 100000 in
set_option maxHeartbeats 4000000 in
theorem SILENCES_rng (r : Int) (A : Option Addr) (n c : Nat) (xss : List (List Int)) (level least : Int) (hc : Hid (chkS r xss = 0)) (hr : level < 0 ∨ 8388608 < level ∨ least < 1 ∨ 100000 < least) (w : World) (B : Nat) (hB : B ≤ w.heap.size) (hh : Hid (RowsAt w B A n xss)) :
    Calls Try.prog 15 #[.agg #[.int .i64 r, .slice A n c], .int .i64 level, .int .i64 least] w (OutT2 48 w ([], 1)) := by
  have hq : (chkS r xss != 0) = false := by rw [hc.out]; rfl
  obtain ⟨W, gx, hW, hgx, HHW, HB, HSW⟩ := box_two w (.cells #[.int .i64 r, .slice (A) n c] 24) (.cells #[.int .i64 level] 3)
  have hbB : Hid (Below B w W) := HB.out.mono hB
  have hsW : B ≤ W.heap.size := by have := HSW.out; omega
  obtain ⟨x0, x1⟩ := cells_two HHW.out.1
  have v0 := own_cell1 HHW.out.2 0
  simp at v0
  have hg1 := blk_lt HHW.out.2
  go_enter Try.func15, Try.ntmps15
  go_upto_region 1 with (fail)
  rw [← hW, ← hgx]
  clear hW hgx
  go_wp2_with fail
  refine (CHECK_any r (A) n c xss _ B hsW (hh.out.below hbB.out (Nat.le_refl _))).mono ?_
  rintro e w1 ⟨rfl, hb1⟩
  have hz1 := pcell hb1
  have HB1 := Lib.hid (HB.out.trans (hb1.mono HB.out.size))
  have hs1 := hb1.size
  have HX1 := Lib.hid ((hb1.block gx (by omega)).trans HHW.out.1)
  have HL1 := Lib.hid ((hb1.block (gx + 1) (by omega)).trans HHW.out.2)
  have y0 := (hb1.cell (p := ⟨gx, 0, none⟩) (by dsimp only; omega)).trans x0
  have y1 := (hb1.cell (p := ⟨gx, 1, none⟩) (by dsimp only; omega)).trans x1
  have yv := (hb1.cell (p := ⟨gx + 1, 0, none⟩) (by dsimp only; omega)).trans v0
  clear hb1 x0 x1 v0 hz1
  by_cases c0 : level < 0
  · clear hr
    go_wp2_with fail
    refine bodyPost_ret (v := .tuple #[.slice none 0 0, .int .i64 1]) (by simp [results, Try.results15, go_sem]) rfl ?_
    exact ⟨_, rfl, OwnPrs.nil _ _ _, HB1.out⟩
  by_cases c1 : 8388608 < level
  · clear hr
    go_wp2_with fail
    refine bodyPost_ret (v := .tuple #[.slice none 0 0, .int .i64 1]) (by simp [results, Try.results15, go_sem]) rfl ?_
    exact ⟨_, rfl, OwnPrs.nil _ _ _, HB1.out⟩
  by_cases c2 : least < 1
  · clear hr
    go_wp2_with fail
    refine bodyPost_ret (v := .tuple #[.slice none 0 0, .int .i64 1]) (by simp [results, Try.results15, go_sem]) rfl ?_
    exact ⟨_, rfl, OwnPrs.nil _ _ _, HB1.out⟩
  have c3 : 100000 < least := by omega
  clear hr
  go_wp2_with fail
  refine bodyPost_ret (v := .tuple #[.slice none 0 0, .int .i64 1]) (by simp [results, Try.results15, go_sem]) rfl ?_
  exact ⟨_, rfl, OwnPrs.nil _ _ _, HB1.out⟩
set_option maxRecDepth 100000 in
set_option maxHeartbeats 4000000 in
theorem SILENCES_ok (r : Int) (A : Option Addr) (n c : Nat) (xss : List (List Int)) (level least : Int) (hc : Hid (chkS r xss = 0)) (h1 : 0 ≤ level) (h2 : level ≤ 8388608) (h3 : 1 ≤ least) (h4 : least ≤ 100000) (w : World) (B : Nat) (hB : B ≤ w.heap.size) (hh : Hid (RowsAt w B A n xss)) :
    Calls Try.prog 15 #[.agg #[.int .i64 r, .slice A n c], .int .i64 level, .int .i64 least] w (OutT2 48 w (fewS (runsS (quietB xss level) (len0 xss) least))) := by
  have hq : (chkS r xss != 0) = false := by rw [hc.out]; rfl
  have hok := Lib.hid (chkS_ok hc.out)
  have hn0 : 0 < n := by have := hok.out.some; have := hh.out.1; omega
  obtain ⟨ad, rfl⟩ := hh.out.addr hn0
  have hm := hok.out.long
  obtain ⟨R, hR⟩ : ∃ R, runsS (quietB xss level) (len0 xss) least = R := ⟨_, rfl⟩
  have HR := Lib.hid hR
  rw [hR]
  clear hR
  obtain ⟨W, gx, hW, hgx, HHW, HB, HSW⟩ := box_two w (.cells #[.int .i64 r, .slice (some ad) n c] 24) (.cells #[.int .i64 level] 3)
  have hbB : Hid (Below B w W) := HB.out.mono hB
  have hsW : B ≤ W.heap.size := by have := HSW.out; omega
  obtain ⟨x0, x1⟩ := cells_two HHW.out.1
  have v0 := own_cell1 HHW.out.2 0
  simp at v0
  have hg1 := blk_lt HHW.out.2
  go_enter Try.func15, Try.ntmps15
  go_upto_region 1 with (fail)
  rw [← hW, ← hgx]
  clear hW hgx
  go_wp2_with fail
  refine (CHECK_any r (some ad) n c xss _ B hsW (hh.out.below hbB.out (Nat.le_refl _))).mono ?_
  rintro e w1 ⟨rfl, hb1⟩
  have hz1 := pcell hb1
  have HB1 := Lib.hid (HB.out.trans (hb1.mono HB.out.size))
  have hs1 := hb1.size
  have HX1 := Lib.hid ((hb1.block gx (by omega)).trans HHW.out.1)
  have HL1 := Lib.hid ((hb1.block (gx + 1) (by omega)).trans HHW.out.2)
  have y0 := (hb1.cell (p := ⟨gx, 0, none⟩) (by dsimp only; omega)).trans x0
  have y1 := (hb1.cell (p := ⟨gx, 1, none⟩) (by dsimp only; omega)).trans x1
  have yv := (hb1.cell (p := ⟨gx + 1, 0, none⟩) (by dsimp only; omega)).trans v0
  clear hb1 x0 x1 v0 hz1
  have c0 : ¬ level < 0 := by omega
  have c1 : ¬ 8388608 < level := by omega
  have c2 : ¬ least < 1 := by omega
  have c3 : ¬ 100000 < least := by omega
  have hB1 : Hid (Below B w w1) := HB1.out.mono hB
  have hsB : B ≤ w1.heap.size := by omega
  go_wp2_with fail
  refine (LENGTH_any r (some ad) n c xss _ B hsB (hh.out.below hB1.out (Nat.le_refl _)) hn0).mono ?_
  rintro e w2 ⟨rfl, hb2⟩
  have hs2 := hb2.size
  have HB2 := Lib.hid (HB1.out.trans (hb2.mono HB1.out.size))
  have HX2 := Lib.hid ((hb2.block gx (by omega)).trans HX1.out)
  have HL2 := Lib.hid ((hb2.block (gx + 1) (by omega)).trans HL1.out)
  have hsB2 : B ≤ w2.heap.size := by omega
  have hg2 : gx + 1 < w2.heap.size := by omega
  clear hb2 y0 y1 yv c0 c1 c2 c3 HX1 HL1
  have hh2 := Lib.hid (hh.out.below (HB2.out.mono hB) (Nat.le_refl _))
  go_wp2_with fail
  refine (ROWS_any (quietB xss level) (len0 xss) hm least h3 h4 33 #[.pointer (some ⟨gx, 0, none⟩), .pointer (some ⟨gx + 1, 0, none⟩)] w2 (fun _ _ => rfl) (fun i w3 hi hb3 => ?_)).mono ?_
  · have := SILENCES1_any r ad n c xss level hok i hi gx (gx + 1) w3 B (Nat.le_trans hsB2 hb3.size) (Lib.hid ((hb3.block gx (by omega)).trans HX2.out)) (Lib.hid (hh2.out.below hb3 hsB2)) (Lib.hid ((hb3.block (gx + 1) hg2).trans HL2.out))
    exact this
  rw [HR.out]
  rintro e w4 ⟨v, rfl, hO, hb4⟩
  obtain ⟨A4, c4, rfl, _, _⟩ := hO.len
  have HO := Lib.hid (OwnPrs.lower hO HB2.out.size)
  have HB4 := Lib.hid (HB2.out.trans (hb4.mono HB2.out.size))
  obtain ⟨q, hq9⟩ : ∃ q, R.length = q := ⟨_, rfl⟩
  have HQ := Lib.hid hq9
  rw [hq9] at HO ⊢
  clear hq9 hO hb4
  by_cases hqn : 1000 < q
  · have HV : Hid (fewS R = ([], 2)) := by show _ = _; unfold fewS; rw [HQ.out, if_pos hqn]
    have hqi : (1000 : Int) < (q : Int) := by omega
    go_wp2_with fail
    refine bodyPost_ret (v := .tuple #[.slice none 0 0, .int .i64 2]) (by simp [results, Try.results15, go_sem]) rfl ?_
    unfold OutT2
    rw [HV.out]
    exact ⟨_, rfl, OwnPrs.nil _ _ _, HB4.out⟩
  · have HV : Hid (fewS R = (R, 0)) := by show _ = _; unfold fewS; rw [HQ.out, if_neg hqn]
    have hqi : ¬ (1000 : Int) < (q : Int) := by omega
    go_wp2_with fail
    refine bodyPost_ret (v := .tuple #[.slice A4 q c4, .int .i64 0]) (by simp [results, Try.results15, go_sem]) rfl ?_
    unfold OutT2
    rw [HV.out]
    exact ⟨_, rfl, HO.out, HB4.out⟩
theorem SILENCES_any (r : Int) (A : Option Addr) (n c : Nat) (xss : List (List Int)) (level least : Int) (w : World) (B : Nat) (hB : B ≤ w.heap.size) (hh : Hid (RowsAt w B A n xss)) :
    Calls Try.prog 15 #[.agg #[.int .i64 r, .slice A n c], .int .i64 level, .int .i64 least] w (OutT2 48 w (sileS r xss level least)) := by
  unfold sileS
  by_cases hc : chkS r xss = 0
  · rw [if_neg (by simp [hc])]
    by_cases hr : level < 0 ∨ 8388608 < level ∨ least < 1 ∨ 100000 < least
    · rw [if_pos hr]; exact SILENCES_rng r A n c xss level least hc hr w B hB hh
    · rw [if_neg hr]; exact SILENCES_ok r A n c xss level least hc (by omega) (by omega) (by omega) (by omega) w B hB hh
  · rw [if_pos hc]; exact SILENCES_chk r A n c xss level least hc w B hB hh
end Go.Proofs.Ytnhmhjhfoonakaa
