/- Silences, of the document. -/
import Derived.Test.YtnhmhjhfoonakaaRsp
import Derived.Test.YtnhmhjhfoonakaaRPeak
import Derived.Test.YtnhmhjhfoonakaaYq
set_option linter.unusedSimpArgs false
set_option linter.unusedVariables false
namespace Go.Proofs.Ytnhmhjhfoonakaa
open Go.RowKit Go.Dw
/-- a block of marks -/
def BlkB (w : World) (g n : Nat) (f : Nat → Bool) : Prop := ∃ cs : Array Value, w.heap[g]? = some (.cells cs 4 (0, 0)) ∧ cs.size = n ∧ ∀ k, k < n → cs[k]? = some (.bool (f k))
theorem BlkB.new (w : World) (n : Nat) : BlkB (w.alloc (.cells (madeCells #[.bool false] n) 4)) w.heap.size n fun _ => false := by
  refine ⟨_, heap_alloc_new _ _, by simp [size_madeCells], fun k hk => ?_⟩
  have := toList_madeCells_one (.bool false) n
  have h2 : (madeCells #[Value.bool false] n).toList[k]? = some (.bool false) := by rw [this]; simp [hk]
  simpa using h2
theorem BlkB.below {w w' : World} {g n : Nat} {f : Nat → Bool} (h : BlkB w g n f) (hb : Below w.heap.size w w') : BlkB w' g n f := by
  obtain ⟨cs, h1, h2⟩ := h
  exact ⟨cs, (hb.block g (blk_lt h1)).trans h1, h2⟩
theorem BlkB.set_ {w : World} {g n k : Nat} {f : Nat → Bool} (h : BlkB w g n f) (y : Bool) : BlkB (w.setCell ⟨g, k, none⟩ (.bool y)) g n (fun j => if j = k then y else f j) := by
  obtain ⟨cs, h1, h2, h3⟩ := h
  refine ⟨_, heap_setCell_same w g k _ _ _ h1, by simpa using h2, fun j hj => ?_⟩
  by_cases e : j = k
  · subst e
    simp [Array.getElem?_setIfInBounds, h2, hj]
  · have := h3 j hj
    dsimp only
    rw [if_neg e]
    rw [Array.getElem?_setIfInBounds, if_neg (fun h => e h.symm)]
    exact this
theorem BlkB.cell {w : World} {g n k : Nat} {f : Nat → Bool} (h : BlkB w g n f) (hk : k < n) : w.cell? ⟨g, k, none⟩ = some (.bool (f k)) ∧ w.frozen? ⟨g, k, none⟩ = false := by
  obtain ⟨cs, h1, h2, h3⟩ := h
  exact ⟨by rw [own_cell1 h1 k]; exact h3 k hk, frozen_of_row w g k _ _ h1⟩
theorem BlkB.lt {w : World} {g n : Nat} {f : Nat → Bool} (h : BlkB w g n f) : g < w.heap.size := by
  obtain ⟨cs, h1, _⟩ := h
  exact blk_lt h1
theorem BlkB.at_ {w : World} {g n : Nat} {f : Nat → Bool} (h : BlkB w g n f) : VsAt w w.heap.size (some ⟨g, 0, none⟩) n fun k => .bool (f k) := fun k hk => ⟨g, 0, rfl, h.lt, by rw [Nat.zero_add]; exact (h.cell hk).1⟩
theorem BlkB.congr {w : World} {g n : Nat} {f f' : Nat → Bool} (h : BlkB w g n f) (e : ∀ k, k < n → f k = f' k) : BlkB w g n f' := by
  obtain ⟨cs, h1, h2, h3⟩ := h
  exact ⟨cs, h1, h2, fun k hk => by rw [← e k hk]; exact h3 k hk⟩
/-- how quiet the first tracks are -/
def quietT (xss : List (List Int)) (level : Int) (i t : Nat) : Bool := (xss.take t).all fun l => decide (max (elOf l i) (-(elOf l i)) ≤ level)
theorem quietT_all {xss : List (List Int)} {level : Int} {i n : Nat} (h : xss.length = n) : quietT xss level i n = quietB xss level i := by
  unfold quietT quietB; rw [List.take_of_length_le (by omega)]
theorem quietT_step {xss : List (List Int)} {level : Int} {i t : Nat} (h : t < xss.length) : quietT xss level i (t + 1) = (quietT xss level i t && decide (absI (elOf (rowOf xss t) i) ≤ level)) := by
  unfold quietT
  rw [List.take_succ_eq_append_getElem h, List.all_append]
  simp only [List.all_cons, List.all_nil, Bool.and_true]
  have e : rowOf xss t = xss[t] := by simp [rowOf, List.getD, List.getElem?_eq_getElem h]
  rw [e]
  rfl
set_option maxRecDepth 100000 in
set_option maxHeartbeats 2000000 in
theorem RSILENCES_chk (r : Int) (A : Option Addr) (n c : Nat) (xss : List (List Int)) (level least : Int) (hc : chkS r xss ≠ 0) (w : World) (B : Nat) (hB : B ≤ w.heap.size) (hh : Hid (RowsAt w B A n xss)) :
    Calls Try.prog 16 #[.agg #[.int .i64 r, .slice A n c], .int .i64 level, .int .i64 least] w (OutT2 48 w ([], chkS r xss)) := by
  have hq : (chkS r xss != 0) = true := by simpa using hc
  clear hc
  obtain ⟨W, gx, hW, hgx, B0, HB⟩ := sbox_new w r (A) n c xss (hh.out.mono hB)
  have hsW : B ≤ W.heap.size := Nat.le_trans hB HB.out.size
  obtain ⟨x0, x1, _, _⟩ := sbox_cells B0.out
  have hbB : Hid (Below B w W) := HB.out.mono hB
  go_enter Try.func16, Try.ntmps16
  go_upto_region 1 with (fail)
  rw [← hW, ← hgx]
  clear hW hgx
  go_wp2_with fail
  refine (RCHECK_any r (A) n c xss _ B hsW (hh.out.below hbB.out (Nat.le_refl _))).mono ?_
  rintro e w1 ⟨rfl, hb1⟩
  have HB1 := Lib.hid (HB.out.trans (hb1.mono HB.out.size))
  have B1 := Lib.hid (B0.out.below hb1)
  clear hb1 x0 x1 B0
  obtain ⟨y0, y1, _, _⟩ := sbox_cells B1.out
  go_wp2_with fail
  refine bodyPost_ret (v := .tuple #[.slice none 0 0, .int .i64 (chkS r xss)]) (by simp [results, Try.results16, go_sem]) rfl ?_
  exact ⟨_, rfl, OwnPrs.nil _ _ _, HB1.out⟩
set_option maxRecDepth 100000 in
set_option maxHeartbeats 4000000 in
theorem RSILENCES_rng (r : Int) (A : Option Addr) (n c : Nat) (xss : List (List Int)) (level least : Int) (hc : Hid (chkS r xss = 0)) (hr : level < 0 ∨ 8388608 < level ∨ least < 1 ∨ 100000 < least) (w : World) (B : Nat) (hB : B ≤ w.heap.size) (hh : Hid (RowsAt w B A n xss)) :
    Calls Try.prog 16 #[.agg #[.int .i64 r, .slice A n c], .int .i64 level, .int .i64 least] w (OutT2 48 w ([], 1)) := by
  have hq : (chkS r xss != 0) = false := by rw [hc.out]; rfl
  obtain ⟨W, gx, hW, hgx, B0, HB⟩ := sbox_new w r (A) n c xss (hh.out.mono hB)
  have hsW : B ≤ W.heap.size := Nat.le_trans hB HB.out.size
  obtain ⟨x0, x1, _, _⟩ := sbox_cells B0.out
  have hbB : Hid (Below B w W) := HB.out.mono hB
  go_enter Try.func16, Try.ntmps16
  go_upto_region 1 with (fail)
  rw [← hW, ← hgx]
  clear hW hgx
  go_wp2_with fail
  refine (RCHECK_any r (A) n c xss _ B hsW (hh.out.below hbB.out (Nat.le_refl _))).mono ?_
  rintro e w1 ⟨rfl, hb1⟩
  have HB1 := Lib.hid (HB.out.trans (hb1.mono HB.out.size))
  have B1 := Lib.hid (B0.out.below hb1)
  clear hb1 x0 x1 B0
  obtain ⟨y0, y1, _, _⟩ := sbox_cells B1.out
  by_cases c0 : level < 0
  · clear hr
    go_wp2_with fail
    refine bodyPost_ret (v := .tuple #[.slice none 0 0, .int .i64 1]) (by simp [results, Try.results16, go_sem]) rfl ?_
    exact ⟨_, rfl, OwnPrs.nil _ _ _, HB1.out⟩
  by_cases c1 : 8388608 < level
  · clear hr
    go_wp2_with fail
    refine bodyPost_ret (v := .tuple #[.slice none 0 0, .int .i64 1]) (by simp [results, Try.results16, go_sem]) rfl ?_
    exact ⟨_, rfl, OwnPrs.nil _ _ _, HB1.out⟩
  by_cases c2 : least < 1
  · clear hr
    go_wp2_with fail
    refine bodyPost_ret (v := .tuple #[.slice none 0 0, .int .i64 1]) (by simp [results, Try.results16, go_sem]) rfl ?_
    exact ⟨_, rfl, OwnPrs.nil _ _ _, HB1.out⟩
  have c3 : 100000 < least := by omega
  clear hr
  go_wp2_with fail
  refine bodyPost_ret (v := .tuple #[.slice none 0 0, .int .i64 1]) (by simp [results, Try.results16, go_sem]) rfl ?_
  exact ⟨_, rfl, OwnPrs.nil _ _ _, HB1.out⟩
set_option maxRecDepth 100000 in
set_option maxHeartbeats 4000000 in
theorem RSILENCES_ok (r : Int) (A : Option Addr) (n c : Nat) (xss : List (List Int)) (level least : Int) (hc : Hid (chkS r xss = 0)) (h1 : 0 ≤ level) (h2 : level ≤ 8388608) (h3 : 1 ≤ least) (h4 : least ≤ 100000) (w : World) (B : Nat) (hB : B ≤ w.heap.size) (hh : Hid (RowsAt w B A n xss)) :
    Calls Try.prog 16 #[.agg #[.int .i64 r, .slice A n c], .int .i64 level, .int .i64 least] w (OutT2 48 w (fewS (runsS (quietB xss level) (len0 xss) least))) := by
  have hq : (chkS r xss != 0) = false := by rw [hc.out]; rfl
  have hok := Lib.hid (chkS_ok hc.out)
  have hn0 : 0 < n := by have := hok.out.some; have := hh.out.1; omega
  have hn16 : n ≤ 16 := by have := hok.out.few; have := hh.out.1; omega
  obtain ⟨ad, rfl⟩ := hh.out.addr hn0
  have hm := hok.out.long
  have hl := Lib.hid hh.out.1
  obtain ⟨m, hm9⟩ : ∃ m, len0 xss = m := ⟨_, rfl⟩
  have HM := Lib.hid hm9
  rw [hm9] at hm ⊢
  clear hm9
  obtain ⟨R, hR⟩ : ∃ R, runsS (quietB xss level) m least = R := ⟨_, rfl⟩
  have HR := Lib.hid hR
  rw [hR]
  clear hR
  obtain ⟨W, gx, hW, hgx, B0, HB⟩ := sbox_new w r (some ad) n c xss (hh.out.mono hB)
  have hsW : B ≤ W.heap.size := Nat.le_trans hB HB.out.size
  obtain ⟨x0, x1, _, _⟩ := sbox_cells B0.out
  have hbB : Hid (Below B w W) := HB.out.mono hB
  go_enter Try.func16, Try.ntmps16
  go_upto_region 1 with (fail)
  rw [← hW, ← hgx]
  clear hW hgx
  go_wp2_with fail
  refine (RCHECK_any r (some ad) n c xss _ B hsW (hh.out.below hbB.out (Nat.le_refl _))).mono ?_
  rintro e w1 ⟨rfl, hb1⟩
  have HB1 := Lib.hid (HB.out.trans (hb1.mono HB.out.size))
  have B1 := Lib.hid (B0.out.below hb1)
  clear hb1 x0 x1 B0
  obtain ⟨y0, y1, _, _⟩ := sbox_cells B1.out
  have c0 : ¬ level < 0 := by omega
  have c1 : ¬ 8388608 < level := by omega
  have c2 : ¬ least < 1 := by omega
  have c3 : ¬ 100000 < least := by omega
  have hs1 := HB1.out.size
  go_upto_region 6 with fail
  clear c0 c1 c2 c3
  go_wp2_with fail
  refine (RLONG_any r (some ad) n c xss _ B (by omega) (hh.out.below (HB1.out.mono hB) (Nat.le_refl _)) hn0).mono ?_
  rw [HM.out]
  rintro e w2 ⟨rfl, hb2⟩
  have HB2 := Lib.hid (HB1.out.trans (hb2.mono hs1))
  have B2 := Lib.hid (B1.out.below hb2)
  clear hb2 B1 y0 y1 HB1 hs1
  have hmb := mkBools m (by omega)
  go_upto_region 7 with fail
  have HN := Lib.hid (BlkB.new w2 m)
  have HBN : Hid (Below w2.heap.size w2 (w2.alloc (.cells (madeCells #[.bool false] m) 4))) := (Below.refl _ _).alloc (Nat.le_refl _) _
  obtain ⟨V, hV⟩ : ∃ V, V = w2.alloc (.cells (madeCells #[.bool false] m) 4) := ⟨_, rfl⟩
  have hgx := blk_lt B2.out.box
  have hBg : B ≤ w2.heap.size := Nat.le_trans hB HB2.out.size
  have hwg := HB2.out.size
  obtain ⟨g, hg⟩ : ∃ g, g = w2.heap.size := ⟨_, rfl⟩
  rw [← hV, ← hg] at HN HBN
  rw [← hV, ← hg]
  rw [← hg] at hgx hBg hwg
  have HG := Lib.hid hg
  clear hV hmb hg
  go_wp2_with fail
  go_loopw [10] (fun i wr => ∃ (k : Nat) (f : Nat → Bool), k ≤ m ∧ i = .int .i64 k ∧ Hid (BlkB wr g m f) ∧ Hid (∀ j, j < k → f j = quietB xss level j) ∧ Hid (Below g w2 wr)) (fun i _ => m - (intOf i).toNat)
  case atStart => exact ⟨0, fun _ => false, Nat.zero_le _, rfl, HN, (fun j hj => by omega), HBN⟩
  case round =>
    clear HN HBN
    obtain ⟨k, f, hk, rfl, hF, hQ, hb⟩ := hrel
    have hgw := hF.out.lt
    have HBw : Hid (Below B w wr) := (HB2.out.mono hB).trans (hb.out.mono hBg)
    obtain ⟨x0, x1⟩ := cells_two ((hb.out.block gx hgx).trans B2.out.box)
    have hBw : B ≤ wr.heap.size := by omega
    have hk0 : (0 : Int) ≤ (k : Int) := by omega
    go_wp2_with fail
    refine (RLONG_any r (some ad) n c xss _ B hBw (hh.out.below HBw.out (Nat.le_refl _)) hn0).mono ?_
    rw [HM.out]
    rintro e w3 ⟨rfl, hb3⟩
    have HF3 := Lib.hid (hF.out.below hb3)
    have HB3 := Lib.hid (hb.out.trans (hb3.mono (Nat.le_of_lt hgw)))
    have hs3 := hb3.size
    clear hb3 hb hF x0 x1
    by_cases hlt : k < m
    · have hki : (k : Int) < (m : Int) := by omega
      obtain ⟨z0, z1⟩ := HF3.out.cell hlt
      have HF4 := Lib.hid (HF3.out.set_ (k := k) true)
      have HB4 := Lib.hid (HB3.out.setCell (p := ⟨g, k, none⟩) (Nat.le_refl _) (.bool true))
      go_upto_region 11 with fail
      obtain ⟨X, hX⟩ : ∃ X, X = w3.setCell ⟨g, k, none⟩ (.bool true) := ⟨_, rfl⟩
      rw [← hX] at HF4 HB4
      rw [← hX]
      clear hX z0 z1
      go_wp2_with fail
      go_loopw [11] (fun t wx => ∃ (a : Nat) (f2 : Nat → Bool), a ≤ n ∧ t = .int .i64 a ∧ Hid (BlkB wx g m f2) ∧ Hid (∀ j, j < k → f2 j = quietB xss level j) ∧ Hid (f2 k = quietT xss level k a) ∧ Hid (Below g w2 wx)) (fun t _ => n - (intOf t).toNat)
      case atStart => exact ⟨0, _, Nat.zero_le _, rfl, HF4, (fun j hj => by rw [if_neg (by omega)]; exact hQ.out j hj), (by show (if k = k then true else f k) = _; rw [if_pos rfl]; rfl), HB4⟩
      case round =>
        clear HF4 HB4 HF3 HB3
        obtain ⟨wx, rfl⟩ : ∃ x : World, x = wr := ⟨_, rfl⟩
        obtain ⟨a, f2, ha, rfl, hF, hQ2, hT, hb⟩ := hrel
        have hgx9 := hF.out.lt
        have HBx : Hid (Below B w wx) := (HB2.out.mono hB).trans (hb.out.mono hBg)
        obtain ⟨x0, x1⟩ := cells_two ((hb.out.block gx hgx).trans B2.out.box)
        have ha0 : (0 : Int) ≤ (a : Int) := by omega
        by_cases hal : a < n
        · have hai : (a : Int) < (n : Int) := by omega
          have hax : Hid (a < xss.length) := by show _ < _; rw [hl.out]; exact hal
          have hkx : Hid (k < len0 xss) := by show _ < _; rw [HM.out]; exact hlt
          obtain ⟨A', n', c', hadB, hcell, hn', hc', hi'⟩ := (hh.out.below HBx.out (Nat.le_refl _)).row hal
          obtain rfl : n' = m := hi'.1.symm.trans ((hok.out.row hax.out).1.trans HM.out)
          obtain ⟨ad', rfl⟩ := hi'.addr (by omega)
          have hcell2 := (hi'.at_ hlt).2
          obtain ⟨y1, y2⟩ := hok.out.el hax.out hkx.out
          have HST := Lib.hid (quietT_step (level := level) (i := k) hax.out)
          obtain ⟨y, hy⟩ : ∃ y, elOf (rowOf xss a) k = y := ⟨_, rfl⟩
          rw [hy] at hcell2 y1 y2 HST
          obtain ⟨z0, z1⟩ := hF.out.cell hlt
          obtain ⟨pq, hp⟩ : ∃ pq, f2 k = pq := ⟨_, rfl⟩
          have HT2 : Hid (quietT xss level k a = pq) := by show _ = _; rw [← hT.out]; exact hp
          rw [hp] at z0
          rw [HT2.out] at HST
          unfold maxLen at hc'
          clear hy hp hT hi'
          cases pq with
          | true =>
            go_wp2_with fail
            refine (RSIZE_any y y1 y2 _).mono ?_
            rintro e w5 ⟨rfl, rfl⟩
            obtain ⟨d, hd⟩ : ∃ d, decide (absI y ≤ level) = d := ⟨_, rfl⟩
            have HF5 := Lib.hid (hF.out.set_ (k := k) d)
            have HB5 := Lib.hid (hb.out.setCell (p := ⟨g, k, none⟩) (Nat.le_refl _) (.bool d))
            rw [hd, Bool.true_and] at HST
            go_wp2_with fail
            go_roundw
            case rel => exact ⟨a + 1, _, by omega, by go_num, HF5, (fun j hj => by rw [if_neg (by omega)]; exact hQ2.out j hj), (by show (if k = k then d else f2 k) = _; rw [if_pos rfl]; exact HST.out.symm), HB5⟩
            case measure => simp [intOf]; omega
          | false =>
            have HF5 := Lib.hid (hF.out.set_ (k := k) false)
            have HB5 := Lib.hid (hb.out.setCell (p := ⟨g, k, none⟩) (Nat.le_refl _) (.bool false))
            rw [Bool.false_and] at HST
            go_wp2_with fail
            go_roundw
            case rel => exact ⟨a + 1, _, by omega, by go_num, HF5, (fun j hj => by rw [if_neg (by omega)]; exact hQ2.out j hj), (by show (if k = k then false else f2 k) = _; rw [if_pos rfl]; exact HST.out.symm), HB5⟩
            case measure => simp [intOf]; omega
        · obtain rfl : a = n := by omega
          have hai : ¬ (a : Int) < (a : Int) := by omega
          go_wp2_with fail
          go_roundw
          case rel => exact ⟨k + 1, f2, by omega, by go_num, hF, (fun j hj => by
            by_cases hjk : j = k
            · rw [hjk, hT.out]; exact quietT_all hl.out
            · exact hQ2.out j (by omega)), hb⟩
          case measure => simp [intOf]; omega
    · obtain rfl : k = m := by omega
      have hki : ¬ (k : Int) < (k : Int) := by omega
      go_wp2_with fail
      refine (RSPANSOF_any f (some ⟨g, 0, none⟩) k k hm least h3 h4 _ w3.heap.size (Nat.le_refl _) HF3.out.at_).mono ?_
      rw [runsS_congr (b' := quietB xss level) hQ.out, HR.out]
      rintro e w4 ⟨v, rfl, hO, hb4⟩
      obtain ⟨A4, c4, rfl, _, _⟩ := hO.len
      have hs9 : w.heap.size ≤ w3.heap.size := by omega
      have HO := Lib.hid (OwnPrs.lower hO hs9)
      have HB4 := Lib.hid (HB2.out.trans ((HB3.out.mono (by rw [HG.out]; exact HB2.out.size)).trans (hb4.mono hs9)))
      obtain ⟨q, hq9⟩ : ∃ q, R.length = q := ⟨_, rfl⟩
      have HQ := Lib.hid hq9
      rw [hq9] at HO ⊢
      clear hq9 hO hb4
      go_wp2_with fail
      refine (RFEW_any A4 c4 q R HQ _).mono ?_
      rintro e w5 ⟨rfl, rfl⟩
      by_cases hqn : 1000 < q
      · have HV : Hid (fewS R = ([], 2)) := by show _ = _; unfold fewS; rw [HQ.out, if_pos hqn]
        rw [if_pos hqn, HV.out]
        go_wp2_with fail
        refine bodyPost_ret (v := .tuple #[.slice none 0 0, .int .i64 2]) (by simp [results, Try.results16, go_sem]) rfl ?_
        unfold OutT2
        rw [HV.out]
        exact ⟨_, rfl, OwnPrs.nil _ _ _, HB4.out⟩
      · have HV : Hid (fewS R = (R, 0)) := by show _ = _; unfold fewS; rw [HQ.out, if_neg hqn]
        rw [if_neg hqn, HV.out]
        go_wp2_with fail
        refine bodyPost_ret (v := .tuple #[.slice A4 q c4, .int .i64 0]) (by simp [results, Try.results16, go_sem]) rfl ?_
        unfold OutT2
        rw [HV.out]
        exact ⟨_, rfl, HO.out, HB4.out⟩
theorem RSILENCES_any (r : Int) (A : Option Addr) (n c : Nat) (xss : List (List Int)) (level least : Int) (w : World) (B : Nat) (hB : B ≤ w.heap.size) (hh : Hid (RowsAt w B A n xss)) :
    Calls Try.prog 16 #[.agg #[.int .i64 r, .slice A n c], .int .i64 level, .int .i64 least] w (OutT2 48 w (sileS r xss level least)) := by
  unfold sileS
  by_cases hc : chkS r xss = 0
  · rw [if_neg (by simp [hc])]
    by_cases hr : level < 0 ∨ 8388608 < level ∨ least < 1 ∨ 100000 < least
    · rw [if_pos hr]; exact RSILENCES_rng r A n c xss level least hc hr w B hB hh
    · rw [if_neg hr]; exact RSILENCES_ok r A n c xss level least hc (by omega) (by omega) (by omega) (by omega) w B hB hh
  · rw [if_pos hc]; exact RSILENCES_chk r A n c xss level least hc w B hB hh
end Go.Proofs.Ytnhmhjhfoonakaa
