/- Clips, of the sound: the spans of all tracks. -/
import Derived.Test.YtnhmhjhfoonakaaSso
set_option linter.unusedSimpArgs false
set_option linter.unusedVariables false
namespace Go.Proofs.Ytnhmhjhfoonakaa
open Go.RowKit Go.Dw
def endL : List Int := [-8388608, 8388607]
/-- the runs of the first tracks, and of a track's first ends -/
def allR (xss : List (List Int)) (run : Int) (k j : Nat) : List Pr := endsR (xss.take k) run endL ++ (endL.take j).flatMap fun e => runsS (endB (rowOf xss k) e) (rowOf xss k).length run
theorem allR_zero (xss : List (List Int)) (run : Int) : allR xss run 0 0 = [] := rfl
theorem allR_step (xss : List (List Int)) (run : Int) (k j : Nat) (e : Int) (hj : endL[j]? = some e) : allR xss run k (j + 1) = allR xss run k j ++ runsS (endB (rowOf xss k) e) (rowOf xss k).length run := by
  obtain ⟨h1, h2⟩ := List.getElem?_eq_some_iff.1 hj
  unfold allR
  rw [List.take_succ_eq_append_getElem h1, h2, List.flatMap_append, List.append_assoc]
  simp
theorem allR_next {xss : List (List Int)} {run : Int} {k : Nat} (hk : k < xss.length) : allR xss run (k + 1) 0 = allR xss run k 2 := by
  unfold allR endsR
  rw [List.take_succ_eq_append_getElem hk, List.flatMap_append]
  have e : rowOf xss k = xss[k] := by simp [rowOf, List.getD, List.getElem?_eq_getElem hk]
  rw [e]
  simp [endL]
theorem allR_end {xss : List (List Int)} {run : Int} {n : Nat} (hn : xss.length = n) : allR xss run n 0 = endsR xss run endL := by
  unfold allR
  rw [List.take_of_length_le (by omega)]
  simp
theorem box_one (w : World) (o : Obj) : ∃ W g, W = w.alloc o ∧ g = w.heap.size ∧ Hid (W.heap[g]? = some o) ∧ Hid (Below w.heap.size w W) ∧ Hid (W.heap.size = w.heap.size + 1) :=
  ⟨_, _, rfl, rfl, heap_alloc_new _ _, (Below.refl _ _).alloc (Nat.le_refl _) _, by show _ = _; simp⟩
theorem endL_at {w : World} {g a : Nat} (h : w.heap[g]? = some (.cells #[.int .i64 (-8388608), .int .i64 8388607] 3 (0, 0))) (ha : a < 2) : ∃ e, endL[a]? = some e ∧ w.cell? ⟨g, a, none⟩ = some (.int .i64 e) := by
  obtain ⟨h0, h1⟩ := cells_two h
  rcases (show a = 0 ∨ a = 1 by omega) with rfl | rfl
  · exact ⟨_, rfl, h0⟩
  · exact ⟨_, rfl, h1⟩
set_option maxRecDepth 100000 in
set_option maxHeartbeats 2000000 in
theorem CLIPS_chk (r : Int) (A : Option Addr) (n c : Nat) (xss : List (List Int)) (run : Int) (hc : chkS r xss ≠ 0) (w : World) (B : Nat) (hB : B ≤ w.heap.size) (hh : Hid (RowsAt w B A n xss)) :
    Calls Try.prog 17 #[.agg #[.int .i64 r, .slice A n c], .int .i64 run] w (OutT2 48 w ([], chkS r xss)) := by
  have hq : (chkS r xss != 0) = true := by simpa using hc
  clear hc
  obtain ⟨W, gx, hW, hgx, B0, HB⟩ := sbox_new w r (A) n c xss (hh.out.mono hB)
  have hsW : B ≤ W.heap.size := Nat.le_trans hB HB.out.size
  obtain ⟨x0, x1, _, _⟩ := sbox_cells B0.out
  have hbB : Hid (Below B w W) := HB.out.mono hB
  go_enter Try.func17, Try.ntmps17
  go_upto_region 1 with (fail)
  rw [← hW, ← hgx]
  clear hW hgx
  go_wp2_with fail
  refine (CHECK_any r (A) n c xss _ B hsW (hh.out.below hbB.out (Nat.le_refl _))).mono ?_
  rintro e w1 ⟨rfl, hb1⟩
  have HB1 := Lib.hid (HB.out.trans (hb1.mono HB.out.size))
  clear hb1 x0 x1 B0
  go_wp2_with fail
  refine bodyPost_ret (v := .tuple #[.slice none 0 0, .int .i64 (chkS r xss)]) (by simp [results, Try.results17, go_sem]) rfl ?_
  exact ⟨_, rfl, OwnPrs.nil _ _ _, HB1.out⟩
set_option maxRecDepth 100000 in
set_option maxHeartbeats 2000000 in
theorem CLIPS_rng (r : Int) (A : Option Addr) (n c : Nat) (xss : List (List Int)) (run : Int) (hc : Hid (chkS r xss = 0)) (hr : run < 1 ∨ 100000 < run) (w : World) (B : Nat) (hB : B ≤ w.heap.size) (hh : Hid (RowsAt w B A n xss)) :
    Calls Try.prog 17 #[.agg #[.int .i64 r, .slice A n c], .int .i64 run] w (OutT2 48 w ([], 1)) := by
  have hq : (chkS r xss != 0) = false := by rw [hc.out]; rfl
  obtain ⟨W, gx, hW, hgx, B0, HB⟩ := sbox_new w r (A) n c xss (hh.out.mono hB)
  have hsW : B ≤ W.heap.size := Nat.le_trans hB HB.out.size
  obtain ⟨x0, x1, _, _⟩ := sbox_cells B0.out
  have hbB : Hid (Below B w W) := HB.out.mono hB
  go_enter Try.func17, Try.ntmps17
  go_upto_region 1 with (fail)
  rw [← hW, ← hgx]
  clear hW hgx
  go_wp2_with fail
  refine (CHECK_any r (A) n c xss _ B hsW (hh.out.below hbB.out (Nat.le_refl _))).mono ?_
  rintro e w1 ⟨rfl, hb1⟩
  have HB1 := Lib.hid (HB.out.trans (hb1.mono HB.out.size))
  clear hb1 x0 x1 B0
  by_cases c2 : run < 1
  · clear hr
    go_wp2_with fail
    refine bodyPost_ret (v := .tuple #[.slice none 0 0, .int .i64 1]) (by simp [results, Try.results17, go_sem]) rfl ?_
    exact ⟨_, rfl, OwnPrs.nil _ _ _, HB1.out⟩
  have c3 : 100000 < run := by omega
  clear hr
  go_wp2_with fail
  refine bodyPost_ret (v := .tuple #[.slice none 0 0, .int .i64 1]) (by simp [results, Try.results17, go_sem]) rfl ?_
  exact ⟨_, rfl, OwnPrs.nil _ _ _, HB1.out⟩
set_option maxRecDepth 100000 in
set_option maxHeartbeats 4000000 in
theorem CLIPS_all (r : Int) (ad : Addr) (n c : Nat) (xss : List (List Int)) (run : Int) (hc : Hid (chkS r xss = 0)) (h3 : 1 ≤ run) (h4 : run ≤ 100000) (w : World) (B : Nat) (hB : B ≤ w.heap.size) (hh : Hid (RowsAt w B (some ad) n xss)) :
    Calls Try.prog 17 #[.agg #[.int .i64 r, .slice (some ad) n c], .int .i64 run] w (OutT2 48 w (fewS (runsS (markS xss run) (len0 xss) 1))) := by
  have hq : (chkS r xss != 0) = false := by rw [hc.out]; rfl
  have hok := Lib.hid (chkS_ok hc.out)
  have hn0 : 0 < n := by have := hok.out.some; have := hh.out.1; omega
  have hn16 : n ≤ 16 := by have := hok.out.few; have := hh.out.1; omega
  have hm := hok.out.long
  have hl := Lib.hid hh.out.1
  obtain ⟨W, gx, hW, hgx, B0, HB⟩ := sbox_new w r (some ad) n c xss (hh.out.mono hB)
  have hsW : B ≤ W.heap.size := Nat.le_trans hB HB.out.size
  obtain ⟨x0, x1, _, _⟩ := sbox_cells B0.out
  have hbB : Hid (Below B w W) := HB.out.mono hB
  go_enter Try.func17, Try.ntmps17
  go_upto_region 1 with (fail)
  rw [← hW, ← hgx]
  clear hW hgx
  go_wp2_with fail
  refine (CHECK_any r (some ad) n c xss _ B hsW (hh.out.below hbB.out (Nat.le_refl _))).mono ?_
  rintro e w1 ⟨rfl, hb1⟩
  have HB1 := Lib.hid (HB.out.trans (hb1.mono HB.out.size))
  have B1 := Lib.hid (B0.out.below hb1)
  clear hb1 x0 x1 B0
  obtain ⟨y0, y1, _, _⟩ := sbox_cells B1.out
  have c2 : ¬ run < 1 := by omega
  have c3 : ¬ 100000 < run := by omega
  have hs1 := HB1.out.size
  have hgx1 := blk_lt B1.out.box
  have hh1 := Lib.hid (hh.out.below (HB1.out.mono hB) (Nat.le_refl _))
  have hBs : B ≤ w1.heap.size := by omega
  obtain ⟨m, hm9⟩ : ∃ m, len0 xss = m := ⟨_, rfl⟩
  have HM := Lib.hid hm9
  rw [hm9] at hm ⊢
  clear hm9
  go_upto_region 7 with fail
  go_wp2_with fail
  go_loopw [7, 29] (fun s i wr => ∃ (k : Nat) (A1 : Option Addr) (n1 c1 : Nat), k ≤ n ∧ i = .int .i64 k ∧ s = .slice A1 n1 c1 ∧ n1 ≤ 100002 * k ∧ Hid (OwnPrs 48 wr w1.heap.size (.slice A1 n1 c1) (allR xss run k 0)) ∧ Hid (Below w1.heap.size w1 wr)) (fun _ i _ => n - (intOf i).toNat)
  case atStart => exact ⟨0, none, 0, 0, Nat.zero_le _, rfl, rfl, by omega, OwnPrs.nil _ _ _, Below.refl _ _⟩
  case round =>
    obtain ⟨k, A1, n1, c1, hk, rfl, rfl, hn1, hO, hb⟩ := hrel
    by_cases hlt : k < n
    · have hki : (k : Int) < (n : Int) := by omega
      have hk0 : (0 : Int) ≤ (k : Int) := by omega
      have hkx : Hid (k < xss.length) := by show _ < _; rw [hl.out]; exact hlt
      obtain ⟨A', n', c', hadB, hcell0, hn', hc', hi'⟩ := hh1.out.row hlt
      have hcell := (hb.out.cell (p := ad.add k) (by rw [block_of_add]; omega)).trans hcell0
      clear hcell0
      obtain rfl : n' = m := hi'.1.symm.trans ((hok.out.row hkx.out).1.trans HM.out)
      have HI := Lib.hid hi'
      clear hi'
      unfold maxLen at hc'
      have hsz := hb.out.size
      go_wp2_with fail
      obtain ⟨Y, gl, hY, hgl, HHY, HBY, HSY⟩ := box_two wr (.cells #[.slice A' n' c'] 54) (.cells #[.int .i64 (-8388608), .int .i64 8388607] 3)
      have HGL := Lib.hid hgl
      have HO1 := Lib.hid (hO.out.below HBY.out)
      have HB2 := Lib.hid (hb.out.trans (HBY.out.mono hsz))
      have HBW := Lib.hid (HB1.out.trans (HB2.out.mono hs1))
      have HY1 := Lib.hid HHY.out.1
      have HY2 := Lib.hid HHY.out.2
      have hglw : w1.heap.size ≤ gl := by rw [hgl]; exact hsz
      rw [show wr.heap.size + 1 = gl + 1 by rw [hgl], ← hgl, ← hY]
      clear hO hb hY hgl HHY HSY hcell
      go_loopw [7, 35] (fun s j wx => ∃ (a : Nat) (A2 : Option Addr) (n2 c2 : Nat), a ≤ 2 ∧ j = .int .i64 a ∧ s = .slice A2 n2 c2 ∧ n2 ≤ 100002 * k + 50001 * a ∧ Hid (OwnPrs 48 wx w1.heap.size (.slice A2 n2 c2) (allR xss run k a)) ∧ Hid (Below w1.heap.size w1 wx) ∧ Hid (wx.heap[gl]? = some (.cells #[.slice A' n' c'] 54 (0, 0))) ∧ Hid (wx.heap[gl + 1]? = some (.cells #[.int .i64 (-8388608), .int .i64 8388607] 3 (0, 0)))) (fun _ j _ => 2 - (intOf j).toNat)
      case atStart => exact ⟨0, A1, n1, c1, by omega, rfl, rfl, by omega, HO1, HB2, HY1, HY2⟩
      case round =>
        obtain ⟨wx, rfl⟩ : ∃ x : World, x = wr := ⟨_, rfl⟩
        clear HO1 HB2 HY1 HY2
        obtain ⟨a, A2, n2, c2, ha, rfl, rfl, hn2, hO, hb, hg1, hg2⟩ := hrel
        have hsx := hb.out.size
        have hgl9 := blk_lt hg1.out
        have hgl8 := blk_lt hg2.out
        have ha0 : (0 : Int) ≤ (a : Int) := by omega
        by_cases hal : a < 2
        · have hai : (a : Int) < 2 := by omega
          obtain ⟨e, he, hcell⟩ := endL_at hg2.out hal
          have HST := Lib.hid (allR_step xss run k a e he)
          have hrl : Hid ((rowOf xss k).length = n') := (hok.out.row hkx.out).1.trans HM.out
          obtain ⟨Z, gb, hZ, hgb, HZ, HBZ, HSZ⟩ := box_one wx (.cells #[.int .i64 e] 3)
          clear he
          go_upto_region 13 with fail
          rw [← hZ, ← hgb]
          have x0 := own_cell1 ((HBZ.out.block gl hgl9).trans hg1.out) 0
          simp at x0
          have hsZ := HBZ.out.size
          have hgZ : gb < Z.heap.size := blk_lt HZ.out
          have HBw1 := Lib.hid (hb.out.trans (HBZ.out.mono hsx))
          have HOZ := Lib.hid (hO.out.below HBZ.out)
          have HG1 := Lib.hid ((HBZ.out.block gl hgl9).trans hg1.out)
          have HG2 := Lib.hid ((HBZ.out.block (gl + 1) hgl8).trans hg2.out)
          have hsZ1 := HBw1.out.size
          clear hZ hgb hO hb hg1 hg2 hcell HBZ HSZ
          go_wp2_with fail
          refine (ROWS_any (endB (rowOf xss k) e) n' hm run h3 h4 39 #[.pointer (some ⟨gl, 0, none⟩), .pointer (some ⟨gb, 0, none⟩)] Z (fun _ _ => rfl) (fun i w3 hi hb3 => ?_)).mono ?_
          · have hb13 : Below B w1 w3 := (HBw1.out.mono hBs).trans (hb3.mono (by omega))
            have hi3 := HI.out.below hb13 (Nat.le_refl _)
            obtain ⟨ad', rfl⟩ := hi3.addr (by omega)
            have := CLIPS1_any (rowOf xss k) e i ad' n' c' hm hi gl gb w3 (Lib.hid ((hb3.block gl (by omega)).trans HG1.out)) (Lib.hid ((hb3.block gb hgZ).trans HZ.out)) (Lib.hid (hi3.at_ hi).2)
            exact this
          obtain ⟨M, hM⟩ : ∃ M, runsS (endB (rowOf xss k) e) n' run = M := ⟨_, rfl⟩
          have hMl := runsS_few (endB (rowOf xss k) e) n' run h3
          rw [hrl.out] at HST
          rw [hM] at hMl HST ⊢
          clear hM
          rintro e4 w4 ⟨v, rfl, hO4, hb4⟩
          obtain ⟨A4, c4, rfl, _, _⟩ := hO4.len
          have HP4 := Lib.hid hO4.at_
          obtain ⟨q, hq9⟩ : ∃ q, M.length = q := ⟨_, rfl⟩
          rw [hq9] at HP4 hMl ⊢
          have HO4 := Lib.hid (HOZ.out.below hb4)
          have HB4 := Lib.hid (HBw1.out.trans (hb4.mono hsZ1))
          have HG14 := Lib.hid ((hb4.block gl (by omega)).trans HG1.out)
          have HG24 := Lib.hid ((hb4.block (gl + 1) (by omega)).trans HG2.out)
          have hs4 := HB4.out.size
          clear hq9 hO4 hb4 HOZ HBw1 HG1 HG2 x0
          go_wp2_with (with_reducible refine wpList_app_span rfl (.tmp 39) (.tmp 44) rfl w1.heap.size A2 n2 c2 (allR xss run k a) rfl HO4.out w4.heap.size A4 q c4 M rfl HP4.out (by omega) hs4 ?_; intro A5 c5 w5 hown5 hg5)
          rw [← HST.out] at hown5
          have HO5 := Lib.hid hown5
          have HB5 := Lib.hid (HB4.out.trans (HO4.out.grownB hg5 hs4))
          have HG15 := Lib.hid (HO4.out.box HG14.out (by decide) hg5)
          have HG25 := Lib.hid (HO4.out.box HG24.out (by decide) hg5)
          clear hown5 hg5
          go_roundw
          case rel => exact ⟨a + 1, A5, n2 + q, c5, by omega, by go_num, rfl, by omega, HO5, HB5, HG15, HG25⟩
          case measure => simp [intOf]; omega
        · obtain rfl : a = 2 := by omega
          have HO5 := Lib.hid (by have := hO.out; rw [← allR_next hkx.out] at this; exact this)
          go_wp2_with fail
          go_roundw
          case rel => exact ⟨k + 1, A2, n2, c2, by omega, by go_num, rfl, by omega, HO5, hb⟩
          case measure => simp [intOf]; omega
    · obtain rfl : k = n := by omega
      have hki : ¬ (k : Int) < (k : Int) := by omega
      have HO5 := Lib.hid (by have := hO.out; rw [allR_end hl.out] at this; exact this)
      clear hO hgx1 y0 y1 B1 HB hbB
      go_wp2_with fail
      refine (SORTSP_own A1 n1 c1 _ _ w1.heap.size hb.out.size (by omega) HO5).mono ?_
      rintro e w2 ⟨rfl, hS, hb2⟩
      have HB2 := Lib.hid (HB1.out.trans ((hb.out.trans hb2).mono hs1))
      have hmk : ∀ l ∈ xss, l.length = m := fun l hl9 => (hok.out.rows l hl9).1.trans HM.out
      have hne := Lib.hid (fun p (hp : p ∈ sortP (endsR xss run endL)) => endsR_ne h3 hmk p ((sortP_perm _).mem_iff.1 hp))
      have hso := Lib.hid (sortP_sorted (endsR xss run endL))
      have hfin : Hid (foldA (sortP (endsR xss run endL)) (sortP (endsR xss run endL)).length = runsS (markS xss run) m 1) :=
        foldA_runs hso.out hne.out (fun j _ => by unfold markS; exact (inS_perm (sortP_perm _) j).symm)
      obtain ⟨LS, hLS⟩ : ∃ LS, sortP (endsR xss run endL) = LS := ⟨_, rfl⟩
      rw [hLS] at hS hne hso hfin
      have hP := hS.at_
      have hs2 := HB2.out.size
      have hlen : n1 = LS.length := by
        obtain ⟨A', c', e, _, _⟩ := hS.len
        injection e
      have HPL := Lib.hid hlen.symm
      have HP := Lib.hid hP
      clear hLS hP hS hb2 hb HO5 hlen hmk
      obtain ⟨R, hR⟩ : ∃ R, runsS (markS xss run) m 1 = R := ⟨_, rfl⟩
      rw [hR] at hfin
      have hRl := runsS_few (markS xss run) m 1 (by omega)
      rw [hR] at hRl
      have HR := Lib.hid hR
      clear hR
      go_wp2_with fail
      go_loopw [8, 52] (fun s i wr => ∃ (j : Nat) (A2 : Option Addr) (n2 c2 : Nat), j ≤ n1 ∧ i = .int .i64 j ∧ s = .slice A2 n2 c2 ∧ n2 ≤ 100001 ∧ Hid (OwnPrs 48 wr w2.heap.size (.slice A2 n2 c2) (foldA LS j)) ∧ Hid (Below w2.heap.size w2 wr)) (fun _ i _ => n1 - (intOf i).toNat)
      case atStart => exact ⟨0, none, 0, 0, Nat.zero_le _, rfl, rfl, by omega, OwnPrs.nil _ _ _, Below.refl _ _⟩
      case round =>
        obtain ⟨wx, rfl⟩ : ∃ x : World, x = wr := ⟨_, rfl⟩
        obtain ⟨j, A2, n2, c2, hj, rfl, rfl, hn2, hO, hb⟩ := hrel
        have hsx := hb.out.size
        have hj0 : (0 : Int) ≤ (j : Int) := by omega
        by_cases hjl : j < n1
        · have hji : (j : Int) < (n1 : Int) := by omega
          have hjL : Hid (j < LS.length) := by show _ < _; rw [HPL.out]; exact hjl
          obtain ⟨b, o, rfl, hbB, q0, q1⟩ := HP.out.2 j hjl
          have r0 := (hb.out.cell (p := ⟨b, o + j * 2, none⟩) hbB).trans q0
          have r1 := (hb.out.cell (p := ⟨b, o + j * 2 + 1, none⟩) hbB).trans q1
          obtain ⟨⟨x, y⟩, hxy⟩ : ∃ p, prOf LS j = p := ⟨_, rfl⟩
          have HST := Lib.hid (foldA_step hjL.out)
          rw [hxy] at r0 r1 HST
          have hfew := foldA_few (k := j + 1) hso.out hne.out hjL.out
          dsimp only at r0 r1
          clear hxy q0 q1
          obtain ⟨Z, gb, hZ, hgb, HZ, HBZ, HSZ⟩ := box_one wx (.cells #[.int .i64 x, .int .i64 y] 48)
          have HOZ := Lib.hid (hO.out.below HBZ.out)
          have HBw := Lib.hid (hb.out.trans (HBZ.out.mono hsx))
          have hsZ := HBw.out.size
          obtain ⟨z0, z1⟩ := cells_two HZ.out
          go_upto_region 20 with fail
          rw [← hZ, ← hgb]
          clear hZ hgb r0 r1 hO hb HBZ HSZ
          go_wp2_with fail
          refine (SAPPEND_own A2 n2 c2 (foldA LS j) x y _ w2.heap.size hsZ (by omega) HOZ).mono ?_
          rw [← HST.out]
          rintro e w5 ⟨v, rfl, hO5, hb5⟩
          obtain ⟨A5, c5, rfl, _, _⟩ := hO5.len
          have HO5 := Lib.hid hO5
          have HB5 := Lib.hid (HBw.out.trans hb5)
          obtain ⟨q, hq9⟩ : ∃ q, (foldA LS (j + 1)).length = q := ⟨_, rfl⟩
          rw [hq9] at HO5 hfew ⊢
          clear hq9 hO5 hb5
          go_wp2_with fail
          go_roundw
          case rel => exact ⟨j + 1, A5, q, c5, by omega, by go_num, rfl, by omega, HO5, HB5⟩
          case measure => simp [intOf]; omega
        · obtain rfl : j = n1 := by omega
          have hji : ¬ (j : Int) < (j : Int) := by omega
          rw [HPL.out] at hfin
          rw [hfin.out] at hO
          have hlen : n2 = R.length := by
            obtain ⟨A', c', e, _, _⟩ := hO.out.len
            injection e
          have HQ := Lib.hid hlen.symm
          clear hlen
          have hs9 : w.heap.size ≤ w2.heap.size := hs2
          have HO9 := Lib.hid (OwnPrs.lower hO.out hs9)
          have HB9 := Lib.hid (HB2.out.trans (hb.out.mono hs9))
          by_cases hqn : 1000 < n2
          · have HV : Hid (fewS R = ([], 2)) := by show _ = _; unfold fewS; rw [HQ.out, if_pos hqn]
            have hqi : (1000 : Int) < (n2 : Int) := by omega
            go_wp2_with fail
            refine bodyPost_ret (v := .tuple #[.slice none 0 0, .int .i64 2]) (by simp [results, Try.results17, go_sem]) rfl ?_
            unfold OutT2
            rw [HM.out, HR.out, HV.out]
            exact ⟨_, rfl, OwnPrs.nil _ _ _, HB9.out⟩
          · have HV : Hid (fewS R = (R, 0)) := by show _ = _; unfold fewS; rw [HQ.out, if_neg hqn]
            have hqi : ¬ (1000 : Int) < (n2 : Int) := by omega
            go_wp2_with fail
            refine bodyPost_ret (v := .tuple #[.slice A2 n2 c2, .int .i64 0]) (by simp [results, Try.results17, go_sem]) rfl ?_
            unfold OutT2
            rw [HM.out, HR.out, HV.out]
            exact ⟨_, rfl, HO9.out, HB9.out⟩
theorem CLIPS_any (r : Int) (A : Option Addr) (n c : Nat) (xss : List (List Int)) (run : Int) (w : World) (B : Nat) (hB : B ≤ w.heap.size) (hh : Hid (RowsAt w B A n xss)) :
    Calls Try.prog 17 #[.agg #[.int .i64 r, .slice A n c], .int .i64 run] w (OutT2 48 w (cliS r xss run)) := by
  unfold cliS
  by_cases hc : chkS r xss = 0
  · rw [if_neg (by simp [hc])]
    by_cases hr : run < 1 ∨ 100000 < run
    · rw [if_pos hr]; exact CLIPS_rng r A n c xss run hc hr w B hB hh
    · rw [if_neg hr]
      have hn : 0 < n := by have := (chkS_ok hc).some; have := hh.out.1; omega
      obtain ⟨ad, rfl⟩ := hh.out.addr hn
      exact CLIPS_all r ad n c xss run hc (by omega) (by omega) w B hB hh
  · rw [if_pos hc]; exact CLIPS_chk r A n c xss run hc w B hB hh
end Go.Proofs.Ytnhmhjhfoonakaa
