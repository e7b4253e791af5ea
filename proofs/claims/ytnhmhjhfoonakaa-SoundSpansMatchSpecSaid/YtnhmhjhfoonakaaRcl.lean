/- Clips, of the document. -/
import Derived.Test.YtnhmhjhfoonakaaRsi
set_option linter.unusedSimpArgs false
set_option linter.unusedVariables false
namespace Go.Proofs.Ytnhmhjhfoonakaa
open Go.RowKit Go.Dw
/-- the ends in the document's order -/
def endM : List Int := [8388607, -8388608]
def allM (xss : List (List Int)) (run : Int) (k j : Nat) : List Pr := endsR (xss.take k) run endM ++ (endM.take j).flatMap fun e => runsS (endB (rowOf xss k) e) (rowOf xss k).length run
theorem allM_step (xss : List (List Int)) (run : Int) (k j : Nat) (e : Int) (hj : endM[j]? = some e) : allM xss run k (j + 1) = allM xss run k j ++ runsS (endB (rowOf xss k) e) (rowOf xss k).length run := by
  obtain ⟨h1, h2⟩ := List.getElem?_eq_some_iff.1 hj
  unfold allM
  rw [List.take_succ_eq_append_getElem h1, h2, List.flatMap_append, List.append_assoc]
  simp
theorem allM_next {xss : List (List Int)} {run : Int} {k : Nat} (hk : k < xss.length) : allM xss run (k + 1) 0 = allM xss run k 2 := by
  unfold allM endsR
  rw [List.take_succ_eq_append_getElem hk, List.flatMap_append]
  have e : rowOf xss k = xss[k] := by simp [rowOf, List.getD, List.getElem?_eq_getElem hk]
  rw [e]
  simp [endM]
theorem allM_end {xss : List (List Int)} {run : Int} {n : Nat} (hn : xss.length = n) : allM xss run n 0 = endsR xss run endM := by
  unfold allM
  rw [List.take_of_length_le (by omega)]
  simp
theorem markS_M (xss : List (List Int)) (run : Int) (j : Nat) : inS (endsR xss run endM) j = markS xss run j := inS_perm (endsR_perm xss run _ _) j
theorem box_on1 (w : World) (o : Obj) : ∃ W g, W = w.alloc o ∧ g = w.heap.size ∧ Hid (W.heap[g]? = some o) ∧ Hid (Below w.heap.size w W) ∧ Hid (W.heap.size = w.heap.size + 1) :=
  ⟨_, _, rfl, rfl, heap_alloc_new _ _, (Below.refl _ _).alloc (Nat.le_refl _) _, by show _ = _; simp⟩
theorem BlkB.far {w w' : World} {B g n : Nat} {f : Nat → Bool} (h : BlkB w g n f) (hb : Below B w w') (hg : g < B) : BlkB w' g n f := by
  obtain ⟨cs, h1, h2⟩ := h
  exact ⟨cs, (hb.block g hg).trans h1, h2⟩
theorem set_other {w : World} {g j q : Nat} {u : Value} {o : Obj} (h : w.heap[q]? = some o) (hne : q ≠ g) : (w.setCell ⟨g, j, none⟩ u).heap[q]? = some o :=
  (Below.heap_setCell _ _ _ _ (by simpa using hne)).trans h
theorem OwnPrs.setFar {w : World} {base g j : Nat} {v u : Value} {L : List Pr} (h : OwnPrs 48 w base v L) (hg : g < base) : OwnPrs 48 (w.setCell ⟨g, j, none⟩ u) base v L := by
  have hgr : w.grownBy (w.setCell ⟨g, j, none⟩ u) (some g) := ⟨rfl, rfl, rfl, by simp [World.setCell], fun i hi hne => Below.heap_setCell _ _ _ _ (by simpa using fun e => hne (by rw [e]))⟩
  refine World.ownsRow.kept h hgr ?_
  cases hv : v.ownBlock with
  | none => exact .inl rfl
  | some b => exact .inr (fun e => by injection e with e; have := (own_lt h hv).1; omega)
theorem endM_at {w : World} {g a : Nat} (h : w.heap[g]? = some (.cells #[.int .i64 8388607, .int .i64 (-8388608)] 3 (0, 0))) (ha : a < 2) : ∃ e, endM[a]? = some e ∧ w.cell? ⟨g, a, none⟩ = some (.int .i64 e) := by
  obtain ⟨h0, h1⟩ := cells_two h
  rcases (show a = 0 ∨ a = 1 by omega) with rfl | rfl
  · exact ⟨_, rfl, h0⟩
  · exact ⟨_, rfl, h1⟩
set_option maxRecDepth 100000 in
set_option maxHeartbeats 2000000 in
theorem RCLIPS_chk (r : Int) (A : Option Addr) (n c : Nat) (xss : List (List Int)) (run : Int) (hc : chkS r xss ≠ 0) (w : World) (B : Nat) (hB : B ≤ w.heap.size) (hh : Hid (RowsAt w B A n xss)) :
    Calls Try.prog 18 #[.agg #[.int .i64 r, .slice A n c], .int .i64 run] w (OutT2 48 w ([], chkS r xss)) := by
  have hq : (chkS r xss != 0) = true := by simpa using hc
  clear hc
  obtain ⟨W, gx, hW, hgx, B0, HB⟩ := sbox_new w r (A) n c xss (hh.out.mono hB)
  have hsW : B ≤ W.heap.size := Nat.le_trans hB HB.out.size
  obtain ⟨x0, x1, _, _⟩ := sbox_cells B0.out
  have hbB : Hid (Below B w W) := HB.out.mono hB
  go_enter Try.func18, Try.ntmps18
  go_upto_region 1 with (fail)
  rw [← hW, ← hgx]
  clear hW hgx
  go_wp2_with fail
  refine (RCHECK_any r (A) n c xss _ B hsW (hh.out.below hbB.out (Nat.le_refl _))).mono ?_
  rintro e w1 ⟨rfl, hb1⟩
  have HB1 := Lib.hid (HB.out.trans (hb1.mono HB.out.size))
  have B1 := Lib.hid (B0.out.below hb1)
  clear hb1 x0 x1 B0
  obtain ⟨y0, y1, _, _⟩ := sbox_cells B1.out
  go_wp2_with fail
  refine bodyPost_ret (v := .tuple #[.slice none 0 0, .int .i64 (chkS r xss)]) (by simp [results, Try.results18, go_sem]) rfl ?_
  exact ⟨_, rfl, OwnPrs.nil _ _ _, HB1.out⟩
set_option maxRecDepth 100000 in
set_option maxHeartbeats 2000000 in
theorem RCLIPS_rng (r : Int) (A : Option Addr) (n c : Nat) (xss : List (List Int)) (run : Int) (hc : Hid (chkS r xss = 0)) (hr : run < 1 ∨ 100000 < run) (w : World) (B : Nat) (hB : B ≤ w.heap.size) (hh : Hid (RowsAt w B A n xss)) :
    Calls Try.prog 18 #[.agg #[.int .i64 r, .slice A n c], .int .i64 run] w (OutT2 48 w ([], 1)) := by
  have hq : (chkS r xss != 0) = false := by rw [hc.out]; rfl
  obtain ⟨W, gx, hW, hgx, B0, HB⟩ := sbox_new w r (A) n c xss (hh.out.mono hB)
  have hsW : B ≤ W.heap.size := Nat.le_trans hB HB.out.size
  obtain ⟨x0, x1, _, _⟩ := sbox_cells B0.out
  have hbB : Hid (Below B w W) := HB.out.mono hB
  go_enter Try.func18, Try.ntmps18
  go_upto_region 1 with (fail)
  rw [← hW, ← hgx]
  clear hW hgx
  go_wp2_with fail
  refine (RCHECK_any r (A) n c xss _ B hsW (hh.out.below hbB.out (Nat.le_refl _))).mono ?_
  rintro e w1 ⟨rfl, hb1⟩
  have HB1 := Lib.hid (HB.out.trans (hb1.mono HB.out.size))
  have B1 := Lib.hid (B0.out.below hb1)
  clear hb1 x0 x1 B0
  obtain ⟨y0, y1, _, _⟩ := sbox_cells B1.out
  by_cases c2 : run < 1
  · clear hr
    go_wp2_with fail
    refine bodyPost_ret (v := .tuple #[.slice none 0 0, .int .i64 1]) (by simp [results, Try.results18, go_sem]) rfl ?_
    exact ⟨_, rfl, OwnPrs.nil _ _ _, HB1.out⟩
  have c3 : 100000 < run := by omega
  clear hr
  go_wp2_with fail
  refine bodyPost_ret (v := .tuple #[.slice none 0 0, .int .i64 1]) (by simp [results, Try.results18, go_sem]) rfl ?_
  exact ⟨_, rfl, OwnPrs.nil _ _ _, HB1.out⟩
set_option maxRecDepth 100000 in
set_option maxHeartbeats 4000000 in
theorem RCLIPS_ok (r : Int) (A : Option Addr) (n c : Nat) (xss : List (List Int)) (run : Int) (hc : Hid (chkS r xss = 0)) (h3 : 1 ≤ run) (h4 : run ≤ 100000) (w : World) (B : Nat) (hB : B ≤ w.heap.size) (hh : Hid (RowsAt w B A n xss)) :
    Calls Try.prog 18 #[.agg #[.int .i64 r, .slice A n c], .int .i64 run] w (OutT2 48 w (fewS (runsS (markS xss run) (len0 xss) 1))) := by
  have hq : (chkS r xss != 0) = false := by rw [hc.out]; rfl
  have hok := Lib.hid (chkS_ok hc.out)
  have hn0 : 0 < n := by have := hok.out.some; have := hh.out.1; omega
  have hn16 : n ≤ 16 := by have := hok.out.few; have := hh.out.1; omega
  obtain ⟨ad, rfl⟩ := hh.out.addr hn0
  have hm := hok.out.long
  have hl := Lib.hid hh.out.1
  obtain ⟨m, hm9⟩ : ∃ m, len0 xss = m := ⟨_, rfl⟩
  have HM := Lib.hid hm9
  rw [hm9] at hm ⊢
  clear hm9
  obtain ⟨R, hR⟩ : ∃ R, runsS (markS xss run) m 1 = R := ⟨_, rfl⟩
  have HR := Lib.hid hR
  rw [hR]
  clear hR
  obtain ⟨W, gx, hW, hgx, B0, HB⟩ := sbox_new w r (some ad) n c xss (hh.out.mono hB)
  have hsW : B ≤ W.heap.size := Nat.le_trans hB HB.out.size
  obtain ⟨x0, x1, _, _⟩ := sbox_cells B0.out
  have hbB : Hid (Below B w W) := HB.out.mono hB
  go_enter Try.func18, Try.ntmps18
  go_upto_region 1 with (fail)
  rw [← hW, ← hgx]
  clear hW hgx
  go_wp2_with fail
  refine (RCHECK_any r (some ad) n c xss _ B hsW (hh.out.below hbB.out (Nat.le_refl _))).mono ?_
  rintro e w1 ⟨rfl, hb1⟩
  have HB1 := Lib.hid (HB.out.trans (hb1.mono HB.out.size))
  have B1 := Lib.hid (B0.out.below hb1)
  clear hb1 x0 x1 B0
  obtain ⟨y0, y1, _, _⟩ := sbox_cells B1.out
  have c2 : ¬ run < 1 := by omega
  have c3 : ¬ 100000 < run := by omega
  have hs1 := HB1.out.size
  go_upto_region 6 with fail
  clear c2 c3
  go_wp2_with fail
  refine (RLONG_any r (some ad) n c xss _ B (by omega) (hh.out.below (HB1.out.mono hB) (Nat.le_refl _)) hn0).mono ?_
  rw [HM.out]
  rintro e w2 ⟨rfl, hb2⟩
  have HB2 := Lib.hid (HB1.out.trans (hb2.mono hs1))
  have B2 := Lib.hid (B1.out.below hb2)
  clear hb2 B1 y0 y1 HB1 hs1
  have hmb := mkBools m (by omega)
  go_upto_region 7 with fail
  have HN := Lib.hid (BlkB.new w2 m)
  have HBN : Hid (Below w2.heap.size w2 (w2.alloc (.cells (madeCells #[.bool false] m) 4))) := (Below.refl _ _).alloc (Nat.le_refl _) _
  obtain ⟨V, hV⟩ : ∃ V, V = w2.alloc (.cells (madeCells #[.bool false] m) 4) := ⟨_, rfl⟩
  have hgx := blk_lt B2.out.box
  have hBg : B ≤ w2.heap.size := Nat.le_trans hB HB2.out.size
  have hwg := HB2.out.size
  obtain ⟨g, hg⟩ : ∃ g, g = w2.heap.size := ⟨_, rfl⟩
  rw [← hV, ← hg] at HN HBN
  rw [← hV, ← hg]
  rw [← hg] at hgx hBg hwg
  have HG := Lib.hid hg
  have hh2 := Lib.hid (hh.out.below (HB2.out.mono hB) (Nat.le_refl _))
  clear hV hg
  go_wp2_with fail
  go_loopw [8] (fun i wr => ∃ (k : Nat) (f : Nat → Bool), k ≤ n ∧ i = .int .i64 k ∧ Hid (BlkB wr g m f) ∧ Hid (∀ j, j < m → f j = inS (allM xss run k 0) j) ∧ Hid (Below g w2 wr)) (fun i _ => n - (intOf i).toNat)
  case atStart => exact ⟨0, fun _ => false, Nat.zero_le _, rfl, HN, (fun j hj => rfl), HBN⟩
  case round =>
    clear HN HBN
    obtain ⟨wa, rfl⟩ : ∃ x : World, x = wr := ⟨_, rfl⟩
    obtain ⟨k, f, hk, rfl, hF, hQ, hb⟩ := hrel
    have hgw := hF.out.lt
    obtain ⟨x0, x1⟩ := cells_two ((hb.out.block gx hgx).trans B2.out.box)
    have hk0 : (0 : Int) ≤ (k : Int) := by omega
    by_cases hlt : k < n
    · have hki : (k : Int) < (n : Int) := by omega
      have hkx : Hid (k < xss.length) := by show _ < _; rw [hl.out]; exact hlt
      go_upto_region 10 with fail
      obtain ⟨Y, ge, hY, hge, HY, HBY, HSY⟩ := box_on1 wa (.cells #[.int .i64 8388607, .int .i64 (-8388608)] 3)
      have HF1 := Lib.hid (hF.out.below HBY.out)
      have HB1 := Lib.hid (hb.out.trans (HBY.out.mono (Nat.le_of_lt hgw)))
      have hgge : g < ge := by rw [hge]; exact hgw
      go_wp2_with fail
      rw [← hY, ← hge]
      clear hF hb hY hge HBY HSY x0 x1
      go_loopw [39] (fun i wr => ∃ (a : Nat) (f2 : Nat → Bool), a ≤ 2 ∧ i = .int .i64 a ∧ Hid (BlkB wr g m f2) ∧ Hid (∀ j, j < m → f2 j = inS (allM xss run k a) j) ∧ Hid (Below g w2 wr) ∧ Hid (wr.heap[ge]? = some (.cells #[.int .i64 8388607, .int .i64 (-8388608)] 3 (0, 0)))) (fun i _ => 2 - (intOf i).toNat)
      case atStart => exact ⟨0, f, by omega, rfl, HF1, hQ, HB1, HY⟩
      case round =>
        clear HF1 HB1 HY
        obtain ⟨wx, rfl⟩ : ∃ x : World, x = wr := ⟨_, rfl⟩
        obtain ⟨a, f2, ha, rfl, hF, hQ2, hb, hE⟩ := hrel
        have ha0 : (0 : Int) ≤ (a : Int) := by omega
        by_cases hal : a < 2
        · have hai : (a : Int) < 2 := by omega
          obtain ⟨e, he, hcell⟩ := endM_at hE.out hal
          have HST := Lib.hid (allM_step xss run k a e he)
          clear he
          have hgx9 := hF.out.lt
          have hge9 := blk_lt hE.out
          have HBx : Hid (Below B w wx) := (HB2.out.mono hB).trans (hb.out.mono hBg)
          obtain ⟨x0, x1⟩ := cells_two ((hb.out.block gx hgx).trans B2.out.box)
          go_wp2_with fail
          refine (RLONG_any r (some ad) n c xss _ B (by omega) (hh.out.below HBx.out (Nat.le_refl _)) hn0).mono ?_
          rw [HM.out]
          rintro e9 w3 ⟨rfl, hb3⟩
          have HF3 := Lib.hid (hF.out.below hb3)
          have HE3 := Lib.hid ((hb3.block ge hge9).trans hE.out)
          have HB3 := Lib.hid (hb.out.trans (hb3.mono (Nat.le_of_lt hgx9)))
          have hs3 := hb3.size
          clear hb3 hF hE hb x0 x1 hcell
          go_upto_region 14 with fail
          have HN2 := Lib.hid (BlkB.new w3 m)
          have HBN2 : Hid (Below w3.heap.size w3 (w3.alloc (.cells (madeCells #[.bool false] m) 4))) := (Below.refl _ _).alloc (Nat.le_refl _) _
          obtain ⟨V2, hV2⟩ : ∃ V, V = w3.alloc (.cells (madeCells #[.bool false] m) 4) := ⟨_, rfl⟩
          obtain ⟨go, hgo⟩ : ∃ go, go = w3.heap.size := ⟨_, rfl⟩
          rw [← hV2, ← hgo] at HN2 HBN2
          rw [← hV2, ← hgo]
          have hggo : g < go := by omega
          have hgego : ge < go := by omega
          have HGO := Lib.hid hgo
          have HX3 := Lib.hid ((HB3.out.block gx hgx).trans B2.out.box)
          have HB3w := Lib.hid (HB2.out.trans (HB3.out.mono (by rw [HG.out]; exact HB2.out.size)))
          clear hV2 hgo
          go_wp2_with fail
          go_loopw [12] (fun i wr => ∃ (b : Nat) (fo : Nat → Bool), b ≤ m ∧ i = .int .i64 b ∧ Hid (BlkB wr go m fo) ∧ Hid (∀ j, j < b → fo j = endB (rowOf xss k) e j) ∧ Hid (Below go w3 wr)) (fun i _ => m - (intOf i).toNat)
          case atStart => exact ⟨0, fun _ => false, Nat.zero_le _, rfl, HN2, (fun j hj => by omega), HBN2⟩
          case round =>
            clear HN2 HBN2
            obtain ⟨wo, rfl⟩ : ∃ x : World, x = wr := ⟨_, rfl⟩
            obtain ⟨b, fo, hb9, rfl, hF, hQo, hb⟩ := hrel
            have hgo9 := hF.out.lt
            have hb0 : (0 : Int) ≤ (b : Int) := by omega
            have HBo : Hid (Below B w wo) := (HB3w.out.mono hB).trans (hb.out.mono (by omega))
            obtain ⟨x0, x1⟩ := cells_two ((hb.out.block gx (by omega)).trans HX3.out)
            go_wp2_with fail
            refine (RLONG_any r (some ad) n c xss _ B (by omega) (hh.out.below HBo.out (Nat.le_refl _)) hn0).mono ?_
            rw [HM.out]
            rintro e9 w4 ⟨rfl, hb4⟩
            have HF4 := Lib.hid (hF.out.below hb4)
            have HB4 := Lib.hid (hb.out.trans (hb4.mono (Nat.le_of_lt hgo9)))
            have hs4 := hb4.size
            clear hb4 hF hb x0 x1
            have HBo4 : Hid (Below B w w4) := (HB3w.out.mono hB).trans (HB4.out.mono (by omega))
            by_cases hbl : b < m
            · have hbi : (b : Int) < (m : Int) := by omega
              obtain ⟨x0, x1⟩ := cells_two ((HB4.out.block gx (by omega)).trans HX3.out)
              obtain ⟨A', n', c', hadB, hcell, hn', hc', hi'⟩ := (hh.out.below HBo4.out (Nat.le_refl _)).row hlt
              obtain rfl : m = n' := ((hok.out.row hkx.out).1.trans HM.out).symm.trans hi'.1
              obtain ⟨ad', rfl⟩ := hi'.addr (by omega)
              have hcell2 := (hi'.at_ hbl).2
              unfold maxLen at hc'
              obtain ⟨y, hy⟩ : ∃ y, elOf (rowOf xss k) b = y := ⟨_, rfl⟩
              rw [hy] at hcell2
              have HY := Lib.hid hy
              obtain ⟨d, hd⟩ : ∃ d, (y == e) = d := ⟨_, rfl⟩
              have HD : Hid (endB (rowOf xss k) e b = d) := by show _ = _; unfold endB; rw [HY.out, ← hd, Bool.eq_iff_iff]; simp
              obtain ⟨z0, z1⟩ := HF4.out.cell hbl
              have HF5 := Lib.hid (HF4.out.set_ (k := b) d)
              have HB5 := Lib.hid (HB4.out.setCell (p := ⟨go, b, none⟩) (Nat.le_refl _) (.bool d))
              clear hy hi'
              go_wp2_with fail
              go_roundw
              case rel => exact ⟨b + 1, _, by omega, by go_num, HF5, (fun j hj => by
                by_cases hjb : j = b
                · rw [if_pos hjb, hjb, HD.out]
                · rw [if_neg hjb]; exact hQo.out j (by omega)), HB5⟩
              case measure => simp [intOf]; omega
            · obtain rfl : b = m := by omega
              have hbi : ¬ (b : Int) < (b : Int) := by omega
              have HG4 := Lib.hid (HF3.out.far HB4.out hggo)
              have hgo4 := HF4.out.lt
              go_wp2_with fail
              refine (RSPANSOF_any fo (some ⟨go, 0, none⟩) b b hm run h3 h4 _ w4.heap.size (Nat.le_refl _) HF4.out.at_).mono ?_
              rw [runsS_congr (b' := endB (rowOf xss k) e) hQo.out]
              rw [(hok.out.row hkx.out).1, HM.out] at HST
              have hne := Lib.hid (runsS_ne (b := endB (rowOf xss k) e) (n := b) h3)
              have hLf := runsS_few (endB (rowOf xss k) e) b run h3
              obtain ⟨L, hL⟩ : ∃ L, runsS (endB (rowOf xss k) e) b run = L := ⟨_, rfl⟩
              rw [hL] at HST hne hLf ⊢
              clear hL
              rintro e9 w5 ⟨v, rfl, hO, hb5⟩
              obtain ⟨A5, c5, rfl, _, _⟩ := hO.len
              have HF5 := Lib.hid (HG4.out.below hb5)
              have HE5 := Lib.hid ((hb5.block ge (by omega)).trans ((HB4.out.block ge hgego).trans HE3.out))
              have HB5 := Lib.hid ((HB3.out.trans (HB4.out.mono (Nat.le_of_lt hggo))).trans (hb5.mono (by omega)))
              obtain ⟨b4, hb4⟩ : ∃ b4, b4 = w4.heap.size := ⟨_, rfl⟩
              rw [← hb4] at hO
              have hgb4 : g < b4 := by omega
              obtain ⟨q, hq9⟩ : ∃ q, L.length = q := ⟨_, rfl⟩
              have HQ := Lib.hid hq9
              rw [hq9] at hO hLf ⊢
              have HO5 := Lib.hid hO
              clear hq9 hO hb5 hb4 HG4 HF4 HF3 HB4 HB3 HE3 HBo4
              go_wp2_with fail
              go_loopw [69] (fun i wr => ∃ (s : Nat) (f3 : Nat → Bool), s ≤ q ∧ i = .int .i64 s ∧ Hid (BlkB wr g b f3) ∧ Hid (∀ j, j < b → f3 j = inS (allM xss run k a ++ L.take s) j) ∧ Hid (Below g w2 wr) ∧ Hid (wr.heap[ge]? = some (.cells #[.int .i64 8388607, .int .i64 (-8388608)] 3 (0, 0))) ∧ Hid (OwnPrs 48 wr b4 (.slice A5 q c5) L)) (fun i _ => q - (intOf i).toNat)
              case atStart => exact ⟨0, f2, Nat.zero_le _, rfl, HF5, (fun j hj => by rw [List.take_zero, List.append_nil]; exact hQ2.out j hj), HB5, HE5, HO5⟩
              case round =>
                clear HF5 HB5 HE5 HO5
                obtain ⟨wp, rfl⟩ : ∃ x : World, x = wr := ⟨_, rfl⟩
                obtain ⟨s, f3, hs, rfl, hF, hQ3, hb, hE, hO⟩ := hrel
                have hs0 : (0 : Int) ≤ (s : Int) := by omega
                by_cases hsl : s < q
                · have hsi : (s : Int) < (q : Int) := by omega
                  have hsL : Hid (s < L.length) := by show _ < _; rw [HQ.out]; exact hsl
                  have hP := hO.out.at_
                  obtain ⟨bb, oo, rfl, hbB, q0, q1⟩ := hP.2 s hsl
                  obtain ⟨⟨x, y⟩, hxy⟩ : ∃ p, prOf L s = p := ⟨_, rfl⟩
                  have hxb := hne.out _ (pr_mem hsL.out)
                  have HTK := Lib.hid (take_pr hsL.out)
                  rw [hxy] at q0 q1 hxb HTK
                  dsimp only at q0 q1 hxb
                  obtain ⟨hx0, hxy9, hyb⟩ := hxb
                  obtain ⟨x9, rfl⟩ := Int.eq_ofNat_of_zero_le hx0
                  obtain ⟨y9, rfl⟩ := Int.eq_ofNat_of_zero_le (show 0 ≤ y by omega)
                  have hxn : x9 < y9 := by omega
                  have hyn : y9 ≤ b := by omega
                  clear hxy hP hx0 hxy9 hyb
                  obtain ⟨Z, gp, hZ, hgp, HZ, HBZ, HSZ⟩ := box_on1 wp (.cells #[.int .i64 (x9 : Int), .int .i64 (y9 : Int)] 48)
                  have hgw9 := hF.out.lt
                  have hge8 := blk_lt hE.out
                  have HFZ := Lib.hid (hF.out.below HBZ.out)
                  have HEZ := Lib.hid ((HBZ.out.block ge hge8).trans hE.out)
                  have HOZ := Lib.hid (hO.out.below HBZ.out)
                  have HBw := Lib.hid (hb.out.trans (HBZ.out.mono (Nat.le_of_lt hgw9)))
                  have hgpg : gp ≠ g := by omega
                  obtain ⟨z0, z1⟩ := cells_two HZ.out
                  have hzz : (0 : Int) ≤ (x9 : Int) := by omega
                  go_upto_region 21 with fail
                  rw [← hZ, ← hgp]
                  clear hZ hgp hF hb hE hO HBZ HSZ q0 q1
                  go_wp2_with fail
                  go_loopw [15] (fun i wr => ∃ (t : Nat) (f4 : Nat → Bool), x9 ≤ t ∧ t ≤ y9 ∧ i = .int .i64 t ∧ Hid (BlkB wr g b f4) ∧ Hid (∀ j, j < b → f4 j = (inS (allM xss run k a ++ L.take s) j || (decide (x9 ≤ j) && decide (j < t)))) ∧ Hid (Below g w2 wr) ∧ Hid (wr.heap[ge]? = some (.cells #[.int .i64 8388607, .int .i64 (-8388608)] 3 (0, 0))) ∧ Hid (OwnPrs 48 wr b4 (.slice (some ⟨bb, oo, none⟩) q c5) L) ∧ Hid (wr.heap[gp]? = some (.cells #[.int .i64 (x9 : Int), .int .i64 (y9 : Int)] 48 (0, 0)))) (fun i _ => y9 - (intOf i).toNat)
                  case atStart => exact ⟨x9, f3, Nat.le_refl _, Nat.le_of_lt hxn, rfl, HFZ, (fun j hj => by rw [hQ3.out j hj, show (decide (x9 ≤ j) && decide (j < x9)) = false by simp, Bool.or_false]), HBw, HEZ, HOZ, HZ⟩
                  case round =>
                    clear HFZ HEZ HOZ HBw HZ z0 z1
                    obtain ⟨wq, rfl⟩ : ∃ x : World, x = wr := ⟨_, rfl⟩
                    obtain ⟨t, f4, ht1, ht2, rfl, hF, hQ4, hb, hE, hO, hG⟩ := hrel
                    obtain ⟨z0, z1⟩ := cells_two hG.out
                    have ht0 : (0 : Int) ≤ (t : Int) := by omega
                    by_cases htl : t < y9
                    · have hti : (t : Int) < (y9 : Int) := by omega
                      have htb : t < b := by omega
                      have htbi : (t : Int) < (b : Int) := by omega
                      obtain ⟨r0, r1⟩ := hF.out.cell htb
                      have HF5 := Lib.hid (hF.out.set_ (k := t) true)
                      have HB5 := Lib.hid (hb.out.setCell (p := ⟨g, t, none⟩) (Nat.le_refl _) (.bool true))
                      have HE5 := Lib.hid (set_other (j := t) (u := .bool true) hE.out (by omega : ge ≠ g))
                      have HG5 := Lib.hid (set_other (j := t) (u := .bool true) hG.out hgpg)
                      have HO5 := Lib.hid (OwnPrs.setFar (j := t) (u := .bool true) hO.out hgb4)
                      go_wp2_with fail
                      go_roundw
                      case rel => exact ⟨t + 1, _, by omega, by omega, by go_num, HF5, (fun j hj => by
                        by_cases hjt : j = t
                        · rw [if_pos hjt, hjt, show (decide (x9 ≤ t) && decide (t < t + 1)) = true by simp; omega, Bool.or_true]
                        · rw [if_neg hjt, hQ4.out j hj]
                          congr 2
                          rw [decide_eq_decide]
                          omega), HB5, HE5, HO5, HG5⟩
                      case measure => simp [intOf]; omega
                    · obtain rfl : t = y9 := by omega
                      have hti : ¬ (t : Int) < (t : Int) := by omega
                      go_wp2_with fail
                      go_roundw
                      case rel => exact ⟨s + 1, f4, by omega, by go_num, hF, (fun j hj => by
                        rw [hQ4.out j hj, HTK.out, ← List.append_assoc, inS_app _ [((x9 : Int), (t : Int))], inS_one]
                        congr 1
                        dsimp only
                        rw [Bool.eq_iff_iff]
                        simp), hb, hE, hO⟩
                      case measure => simp [intOf]; omega
                · obtain rfl : s = q := by omega
                  have hsi : ¬ (s : Int) < (s : Int) := by omega
                  have HQ5 : Hid (∀ j, j < b → f3 j = inS (allM xss run k (a + 1)) j) := fun j hj => by
                    have := hQ3.out j hj
                    rw [List.take_of_length_le (by rw [HQ.out]; exact Nat.le_refl _), ← HST.out] at this
                    exact this
                  go_wp2_with fail
                  go_roundw
                  case rel => exact ⟨a + 1, f3, by omega, by go_num, hF, HQ5, hb, hE⟩
                  case measure => simp [intOf]; omega
        · obtain rfl : a = 2 := by omega
          have HQ5 := Lib.hid (by have := hQ2.out; rw [← allM_next hkx.out] at this; exact this)
          go_wp2_with fail
          go_roundw
          case rel => exact ⟨k + 1, f2, by omega, by go_num, hF, HQ5, hb⟩
          case measure => simp [intOf]; omega
    · obtain rfl : k = n := by omega
      have hki : ¬ (k : Int) < (k : Int) := by omega
      rw [allM_end hl.out] at hQ
      have hcg : runsS f m 1 = runsS (markS xss run) m 1 := runsS_congr (fun i hi => (hQ.out i hi).trans (markS_M xss run i))
      go_wp2_with fail
      refine (RSPANSOF_any f (some ⟨g, 0, none⟩) m m hm 1 (by omega) (by omega) _ wa.heap.size (Nat.le_refl _) hF.out.at_).mono ?_
      rw [hcg, HR.out]
      clear hcg
      rintro e w4 ⟨v, rfl, hO, hb4⟩
      obtain ⟨A4, c4, rfl, _, _⟩ := hO.len
      have hs9 : w.heap.size ≤ wa.heap.size := by omega
      have HO := Lib.hid (OwnPrs.lower hO hs9)
      have HB4 := Lib.hid (HB2.out.trans ((hb.out.mono (by rw [HG.out]; exact HB2.out.size)).trans (hb4.mono hs9)))
      obtain ⟨q, hq9⟩ : ∃ q, R.length = q := ⟨_, rfl⟩
      have HQ := Lib.hid hq9
      rw [hq9] at HO ⊢
      clear hq9 hO hb4
      go_wp2_with fail
      refine (RFEW_any A4 c4 q R HQ _).mono ?_
      rintro e w5 ⟨rfl, rfl⟩
      by_cases hqn : 1000 < q
      · have HV : Hid (fewS R = ([], 2)) := by show _ = _; unfold fewS; rw [HQ.out, if_pos hqn]
        rw [if_pos hqn, HV.out]
        go_wp2_with fail
        refine bodyPost_ret (v := .tuple #[.slice none 0 0, .int .i64 2]) (by simp [results, Try.results18, go_sem]) rfl ?_
        unfold OutT2
        rw [HV.out]
        exact ⟨_, rfl, OwnPrs.nil _ _ _, HB4.out⟩
      · have HV : Hid (fewS R = (R, 0)) := by show _ = _; unfold fewS; rw [HQ.out, if_neg hqn]
        rw [if_neg hqn, HV.out]
        go_wp2_with fail
        refine bodyPost_ret (v := .tuple #[.slice A4 q c4, .int .i64 0]) (by simp [results, Try.results18, go_sem]) rfl ?_
        unfold OutT2
        rw [HV.out]
        exact ⟨_, rfl, HO.out, HB4.out⟩
theorem RCLIPS_any (r : Int) (A : Option Addr) (n c : Nat) (xss : List (List Int)) (run : Int) (w : World) (B : Nat) (hB : B ≤ w.heap.size) (hh : Hid (RowsAt w B A n xss)) :
    Calls Try.prog 18 #[.agg #[.int .i64 r, .slice A n c], .int .i64 run] w (OutT2 48 w (cliS r xss run)) := by
  unfold cliS
  by_cases hc : chkS r xss = 0
  · rw [if_neg (by simp [hc])]
    by_cases hr : run < 1 ∨ 100000 < run
    · rw [if_pos hr]; exact RCLIPS_rng r A n c xss run hc hr w B hB hh
    · rw [if_neg hr]; exact RCLIPS_ok r A n c xss run hc (by omega) (by omega) w B hB hh
  · rw [if_pos hc]; exact RCLIPS_chk r A n c xss run hc w B hB hh
end Go.Proofs.Ytnhmhjhfoonakaa
