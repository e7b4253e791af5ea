/- Bytes, of the document. -/
import Derived.Test.YtlnjildkdmeflaaDoorYby
import Derived.Test.YtlnjildkdmeflaaDoorWb
import Derived.Test.YtlnjildkdmeflaaDoorRegion3
import Derived.Deep.QuietTactic
import Derived.BigQuiet
set_option linter.unusedSimpArgs false
set_option linter.unusedVariables false
namespace Go.Proofs.YtlnjildkdmeflaaDoor
open Go.RowKit Go.Dw
theorem isIn_yes {l : List Nx} {a j : Nat} {nm : By} (hj : j < a) (ha : a ≤ l.length) (h : (nxOf l j).1.data.toList = nm) : isIn (l.take a) nm = true := by
  unfold isIn
  rw [List.any_eq_true]
  refine ⟨nxOf l j, ?_, by simpa using h⟩
  rw [List.mem_take_iff_getElem]
  exact ⟨j, by omega, by simp [nxOf, List.getD, List.getElem?_eq_getElem (show j < l.length by omega)]⟩
theorem isIn_no {l : List Nx} {a : Nat} {nm : By} (h : ∀ j, j < a → (nxOf l j).1.data.toList ≠ nm) : isIn (l.take a) nm = false := by
  unfold isIn
  rw [List.any_eq_false]
  intro x hx
  rw [List.mem_take_iff_getElem] at hx
  obtain ⟨j, hj, rfl⟩ := hx
  have := h j (by omega)
  simp only [nxOf, List.getD, List.getElem?_eq_getElem (show j < l.length by omega), Option.getD_some] at this
  simpa using this
theorem wp_push_ck {o : Oper} {a : Act} {K : Act → World → Prop} {Q : Exit → Act → World → Prop} {w0 : World} (s x : Operand)
    (ho : o.op = .call { callee := .builtin .append, args := #[s, x], argTypes := #[44, 44] }) (base : Nat) (A : Option Addr) (n c : Nat) (cs : List Value) (z r : Value) (hz : z.oneCell' = true) (hr : r.oneCell' = true) (g0 : Nat) (hg0 : w0.heap.size = g0)
    (hs : a.eval s = .slice A n c) (hx : a.eval x = .slice (some ⟨g0, 0, none⟩) 1 1) (hown : w0.ownsRow base 42 2 (.slice A n c) n cs) (hn : n ≤ 1000) (hb : base ≤ w0.heap.size)
    (h : ∀ g cap w', w'.ownsRow base 42 2 (.slice (some ⟨g, 0, none⟩) (n + 1) cap) (n + 1) (cs ++ [z, r]) → (w0.alloc (.cells #[z, r] 42)).grownBy w' (Value.slice A n c).ownBlock → K (a.put o.dst (.slice (some ⟨g, 0, none⟩) (n + 1) cap)) w') :
    o.wp Tryd.prog a (w0.alloc (.cells #[z, r] 42)) K Q := by
  obtain ⟨i1, e0, e1, e2, e3⟩ := info_parts ck_info
  subst hg0
  refine wp_append_lies _ s x 44 ho base 42 i1 _ 2 40 Tryd.underlying44 e0 e1 e2 e3 rfl (by omega) (.slice A n c) n cs hs (World.ownsRow.alloc hown _) ⟨w0.heap.size, 0, none⟩ 1 1 [z, r] hx rfl (fun j u hj => ?_) (by intro u hu; simp at hu; rcases hu with rfl | rfl <;> assumption) (by omega) (by simp only [maxLen]; omega) (by omega) (by simp; omega) _ rfl ?_
  · rw [show (⟨w0.heap.size, 0, none⟩ : Addr).add j = ⟨w0.heap.size, j, none⟩ by unfold Addr.add; split <;> simp_all, World.cell?_alloc_new]
    simpa using hj
  · intro g cap w' h1 h2 _ _
    exact h g cap w' h1 h2
set_option maxRecDepth 100000 in
set_option maxHeartbeats 2000000 in
theorem RBYTES_chk (r bits : Int) (A AN : Option Addr) (n c nn cN : Nat) (xss : List (List Int)) (hc : chkS r xss ≠ 0) (w : World) (B : Nat) (hB : B ≤ w.heap.size) (hh : Hid (RowsAt w B A n xss)) :
    Calls Tryd.prog 6 #[.agg #[.int .i64 r, .slice A n c], .int .i64 bits, .slice AN nn cN] w (OutY w ([], chkS r xss)) := by
  have hq : (chkS r xss != 0) = true := by simpa using hc
  clear hc
  obtain ⟨W, gx, hW, hgx, B0, HB⟩ := sbox_new w r (A) n c xss (hh.out.mono hB)
  have hsW : B ≤ W.heap.size := Nat.le_trans hB HB.out.size
  obtain ⟨x0, x1, _, _⟩ := sbox_cells B0.out
  have hbB : Hid (Below B w W) := HB.out.mono hB
  go_enter Tryd.func6, Tryd.ntmps6
  go_upto_region 1 with (fail)
  rw [← hW, ← hgx]
  clear hW hgx
  go_wp2_with fail
  refine (RCHECK_any r (A) n c xss _ B hsW (hh.out.below hbB.out (Nat.le_refl _))).mono ?_
  rintro e w1 ⟨rfl, hb1⟩
  have HB1 := Lib.hid (HB.out.trans (hb1.mono HB.out.size))
  have B1 := Lib.hid (B0.out.below hb1)
  clear hb1 x0 x1 B0
  obtain ⟨y0, y1, _, _⟩ := sbox_cells B1.out
  go_wp2_with fail
  refine bodyPost_ret (v := .tuple #[.slice none 0 0, .int .i64 (chkS r xss)]) (by simp [results, Tryd.results6, go_sem]) rfl ?_
  exact OutY.none HB1.out
set_option maxRecDepth 100000 in
set_option maxHeartbeats 2000000 in
theorem RBYTES_rng (r bits : Int) (A AN : Option Addr) (n c nn cN : Nat) (xss : List (List Int)) (hc : Hid (chkS r xss = 0)) (hb : bits ≠ 16 ∧ bits ≠ 24) (w : World) (B : Nat) (hB : B ≤ w.heap.size) (hh : Hid (RowsAt w B A n xss)) :
    Calls Tryd.prog 6 #[.agg #[.int .i64 r, .slice A n c], .int .i64 bits, .slice AN nn cN] w (OutY w ([], 1)) := by
  have hq : (chkS r xss != 0) = false := by rw [hc.out]; rfl
  have c1 : (bits != 16) = true := by simpa using hb.1
  have c2 : (bits != 24) = true := by simpa using hb.2
  clear hb
  obtain ⟨W, gx, hW, hgx, B0, HB⟩ := sbox_new w r (A) n c xss (hh.out.mono hB)
  have hsW : B ≤ W.heap.size := Nat.le_trans hB HB.out.size
  obtain ⟨x0, x1, _, _⟩ := sbox_cells B0.out
  have hbB : Hid (Below B w W) := HB.out.mono hB
  go_enter Tryd.func6, Tryd.ntmps6
  go_upto_region 1 with (fail)
  rw [← hW, ← hgx]
  clear hW hgx
  go_wp2_with fail
  refine (RCHECK_any r (A) n c xss _ B hsW (hh.out.below hbB.out (Nat.le_refl _))).mono ?_
  rintro e w1 ⟨rfl, hb1⟩
  have HB1 := Lib.hid (HB.out.trans (hb1.mono HB.out.size))
  have B1 := Lib.hid (B0.out.below hb1)
  clear hb1 x0 x1 B0
  obtain ⟨y0, y1, _, _⟩ := sbox_cells B1.out
  go_wp2_with fail
  refine bodyPost_ret (v := .tuple #[.slice none 0 0, .int .i64 1]) (by simp [results, Tryd.results6, go_sem]) rfl ?_
  exact OutY.none HB1.out
set_option maxRecDepth 100000 in
set_option maxHeartbeats 8000000 in
theorem RBYTES_16 (r : Int) (ad : Addr) (AN : Option Addr) (n c nn cN : Nat) (xss : List (List Int)) (l : List Nx) (hc : Hid (chkS r xss = 0)) (hz : Hid (∀ x ∈ l, x.1.size ≤ maxLen ∧ x.2.size ≤ maxLen)) (w : World) (B : Nat) (hB : B ≤ w.heap.size) (hh : Hid (RowsAt w B (some ad) n xss)) (HN : Hid (NtsAt w B AN nn l)) :
    Calls Tryd.prog 6 #[.agg #[.int .i64 r, .slice (some ad) n c], .int .i64 16, .slice AN nn cN] w (OutY w (bytesS r xss 16 l)) := by
  have hq : (chkS r xss != 0) = false := by rw [hc.out]; rfl
  have hok := Lib.hid (chkS_ok hc.out)
  have hl := Lib.hid hh.out.1
  have hn16 : n ≤ 16 := by have := hok.out.few; have := hl.out; omega
  have hn0 : 0 < n := by have := hok.out.some; have := hl.out; omega
  have hm := hok.out.long
  have hr9 : 1 ≤ r ∧ r ≤ 1000000 := by have := hok.out.rate; simpa [rateB] using this
  obtain ⟨hr1, hr2⟩ := hr9
  obtain ⟨m, hm9⟩ : ∃ m, len0 xss = m := ⟨_, rfl⟩
  have HM := Lib.hid hm9
  rw [hm9] at hm
  clear hm9
  obtain ⟨Z, hZ⟩ : ∃ Z, bytesS r xss 16 l = Z := ⟨_, rfl⟩
  have HZ := Lib.hid hZ
  rw [hZ]
  clear hZ
  obtain ⟨W, gx, hW, hgx, B0, HB⟩ := sbox_new w r (some ad) n c xss (hh.out.mono hB)
  have hsW : B ≤ W.heap.size := Nat.le_trans hB HB.out.size
  obtain ⟨x0, x1, _, _⟩ := sbox_cells B0.out
  have hbB : Hid (Below B w W) := HB.out.mono hB
  go_enter Tryd.func6, Tryd.ntmps6
  go_upto_region 1 with (fail)
  rw [← hW, ← hgx]
  clear hW hgx
  go_wp2_with fail
  refine (RCHECK_any r (some ad) n c xss _ B hsW (hh.out.below hbB.out (Nat.le_refl _))).mono ?_
  rintro e w1 ⟨rfl, hb1⟩
  have HB1 := Lib.hid (HB.out.trans (hb1.mono HB.out.size))
  have B1 := Lib.hid (B0.out.below hb1)
  clear hb1 x0 x1 B0
  obtain ⟨y0, y1, _, _⟩ := sbox_cells B1.out
  have hBs : B ≤ w1.heap.size := Nat.le_trans hB HB1.out.size
  have hgx1 := blk_lt B1.out.box
  have hs1 := HB1.out.size
  clear y0 y1
  obtain ⟨y0, y1⟩ : w1.cell? ⟨gx, 0, none⟩ = some (.int .i64 r) ∧ w1.cell? ⟨gx, 1, none⟩ = some (.slice (some ad) n c) := by
    obtain ⟨p0, p1, _, _⟩ := sbox_cells B1.out
    exact ⟨p0, p1⟩
  have HY0 := Lib.hid y0
  have HY1 := Lib.hid y1
  go_wp2_with fail
  clear y0 y1
  go_loopw [9] (fun i wr => ∃ k : Nat, k ≤ n ∧ i = .int .i64 k ∧ Hid (∀ a j, a < k → j < m → evAt 16 (elOf (rowOf xss a) j)) ∧ Hid (Below w1.heap.size w1 wr)) (fun i _ => n - (intOf i).toNat)
  case atStart => exact ⟨0, Nat.zero_le _, rfl, (fun a j ha => by omega), Below.refl _ _⟩
  case round =>
    obtain ⟨wk, rfl⟩ : ∃ x : World, x = wr := ⟨_, rfl⟩
    obtain ⟨k, hk, rfl, hE, hb⟩ := hrel
    have x1 := (hb.out.cell (p := ⟨gx, 1, none⟩) hgx1).trans HY1.out
    by_cases hlt : k < n
    · have hkx : Hid (k < xss.length) := by show _ < _; rw [hl.out]; exact hlt
      have hki : (k : Int) < (n : Int) := by omega
      have hk0 : (0 : Int) ≤ (k : Int) := by omega
      go_wp2_with fail
      go_loopw [10] (fun i wr => ∃ j : Nat, j ≤ m ∧ i = .int .i64 j ∧ Hid (∀ i, i < j → evAt 16 (elOf (rowOf xss k) i)) ∧ Hid (Below w1.heap.size w1 wr)) (fun i _ => m - (intOf i).toNat)
      case atStart => exact ⟨0, Nat.zero_le _, rfl, (fun i hi => by omega), hb⟩
      case round =>
        clear hb x1
        obtain ⟨wj, rfl⟩ : ∃ x : World, x = wr := ⟨_, rfl⟩
        obtain ⟨j, hj, rfl, hE2, hb⟩ := hrel
        have x0 := (hb.out.cell (p := ⟨gx, 0, none⟩) hgx1).trans HY0.out
        have x1 := (hb.out.cell (p := ⟨gx, 1, none⟩) hgx1).trans HY1.out
        have hsj := hb.out.size
        have HBj := Lib.hid ((HB1.out.trans (hb.out.mono hs1)).mono hB)
        go_wp2_with fail
        refine (RLONG_any r (some ad) n c xss _ B (by omega) (hh.out.below HBj.out (Nat.le_refl _)) hn0).mono ?_
        rw [HM.out]
        rintro e w3 ⟨rfl, hb3⟩
        have HL3 := Lib.hid (hb.out.trans (hb3.mono hsj))
        have HB3 := Lib.hid (HB1.out.trans (HL3.out.mono hs1))
        have hj0 : (0 : Int) ≤ (j : Int) := by omega
        clear hb3 hb x0 x1
        by_cases hjl : j < m
        · obtain ⟨A', n', c', hadB, hcell, hn', hc', hi'⟩ := (hh.out.below (HB3.out.mono hB) (Nat.le_refl _)).row hlt
          obtain rfl : m = n' := ((hok.out.row hkx.out).1.trans HM.out).symm.trans hi'.1
          obtain ⟨ad', rfl⟩ := hi'.addr (by omega)
          have hcell2 := (hi'.at_ hjl).2
          have hkm : Hid (j < len0 xss) := by show _ < _; rw [HM.out]; exact hjl
          obtain ⟨y1, y2⟩ := hok.out.el hkx.out hkm.out
          obtain ⟨y, hy⟩ : ∃ y, elOf (rowOf xss k) j = y := ⟨_, rfl⟩
          have HY := Lib.hid hy
          rw [hy] at hcell2 y1 y2
          have hji : (j : Int) < (m : Int) := by omega
          have x1 := (HL3.out.cell (p := ⟨gx, 1, none⟩) hgx1).trans HY1.out
          unfold maxLen at hc'
          clear hy hi'
          by_cases hbad : (16 : Int) = 16 ∧ y % 256 ≠ 0
          · first
              | exact absurd hbad.1 (by decide)
              | (have hq2 : (y.tmod 256 != 0) = true := by rw [tmod_zero]; exact decide_eq_true hbad.2
                 have hev := even_bad hkx.out (by rw [(hok.out.row hkx.out).1]; exact hkm.out) (by rw [HY.out]; exact hbad.2)
                 have HV : Hid (Z = ([], 3)) := by
                   show _ = _
                   rw [← HZ.out]
                   unfold bytesS
                   rw [if_neg (by simp [hc.out]), if_neg (by simp), if_pos ⟨rfl, hev⟩]
                 clear hbad hev
                 go_wp2_with fail
                 refine bodyPost_ret (v := .tuple #[.slice none 0 0, .int .i64 3]) (by simp [results, Tryd.results6, go_sem]) rfl ?_
                 rw [HV.out]
                 exact OutY.none HB3.out)
          · have hev : evAt 16 y := fun e => Classical.byContradiction fun h => hbad ⟨e, h⟩
            have hE3 : Hid (∀ i, i < j + 1 → evAt 16 (elOf (rowOf xss k) i)) := fun i hi => by
              by_cases hij : i = j
              · rw [hij, HY.out]; exact hev
              · exact hE2.out i (by omega)
            have hq1 : (16 : Int) = 16 → (y.tmod 256 != 0) = false := fun e => by rw [tmod_zero]; exact decide_eq_false (fun h => h (hev e))
            clear hbad hev
            first
              | (have hq2 := hq1 rfl
                 clear hq1
                 go_wp2_with fail)
              | (clear hq1
                 go_wp2_with fail)
            go_roundw
            case rel => exact ⟨j + 1, by omega, by go_num, hE3, HL3⟩
            case measure => simp [intOf]; omega
        · obtain rfl : j = m := by omega
          have hji : ¬ (j : Int) < (j : Int) := by omega
          go_wp2_with fail
          go_roundw
          case rel => exact ⟨k + 1, by omega, by go_num, (fun a i ha hi => by
            by_cases hak : a = k
            · rw [hak]; exact hE2.out i hi
            · exact hE.out a i (by omega) hi), HL3⟩
          case measure => simp [intOf]; omega
    · obtain rfl : k = n := by omega
      have hki : ¬ (k : Int) < (k : Int) := by omega
      have HEV : Hid (¬ ((16 : Int) = 16 ∧ evenB xss = false)) := fun h => by
        have := even_all hl.out (fun a ha => (hok.out.row (show a < xss.length by rw [hl.out]; exact ha)).1.trans HM.out) (fun a j ha hj => hE.out a j ha hj h.1)
        rw [this] at h
        exact absurd h.2 (by decide)
      clear hE
      have HNL : Hid (l.length = nn) := HN.out.1
      have HLk := hb
      have HBk := Lib.hid (HB1.out.trans (hb.out.mono hs1))
      have hsk := hb.out.size
      have x0 := (hb.out.cell (p := ⟨gx, 0, none⟩) hgx1).trans HY0.out
      clear hb
      go_upto_region 14 with fail
      by_cases hlen : 50 < nn
      · have hi : (50 : Int) < (nn : Int) := by omega
        have HV : Hid (Z = ([], 2)) := by
          show _ = _
          rw [← HZ.out]
          unfold bytesS
          rw [if_neg (by simp [hc.out]), if_neg (by simp), if_neg HEV.out, if_pos (by rw [HNL.out]; exact hlen)]
        go_wp2_with fail
        refine bodyPost_ret (v := .tuple #[.slice none 0 0, .int .i64 2]) (by simp [results, Tryd.results6, go_sem]) rfl ?_
        rw [HV.out]
        exact OutY.none HBk.out
      · have hi : ¬ (50 : Int) < (nn : Int) := by omega
        have HZ2 : Hid ((if notesF [] l ≠ 0 then (([] : By), notesF [] l) else packS (cksB r xss 16 l)) = Z) := by
          show _ = _
          rw [← HZ.out]
          unfold bytesS
          rw [if_neg (show ¬ chkS r xss ≠ 0 by simp [hc.out]), if_neg (show ¬ ((16 : Int) ≠ 16 ∧ (16 : Int) ≠ 24) by simp), if_neg HEV.out, if_neg (show ¬ 50 < l.length by rw [HNL.out]; exact hlen)]
        clear HZ
        have HL0 := HLk
        go_wp2_with fail
        refine (RLITTLEZ_any r 4 (by omega) (by omega) (by omega) _).mono ?_
        rintro e w3 ⟨v3, rfl, hl3, hb3⟩
        obtain ⟨L3, d3, rfl, _, _⟩ := hl3.form
        have hs3 := hb3.size
        have HL3 := Lib.hid (HL0.out.trans (hb3.mono HL0.out.size))
        have hw3 := HL3.out.size
        rw [leZ_length] at hl3 ⊢
        have HR3 := Lib.hid hl3.at_
        have HO3 : Hid (OwnBys w3 w1.heap.size (.slice L3 4 d3) (leZ r 4)) := own_base hl3 hsk
        clear hl3 hb3 HR3
        have x1 := (HL3.out.cell (p := ⟨gx, 1, none⟩) hgx1).trans HY1.out
        go_wp2_with fail
        refine (RLITTLEZ_any (k : Int) 2 (by omega) (by omega) (by omega) _).mono ?_
        rintro e w4 ⟨v4, rfl, hl4, hb4⟩
        obtain ⟨L4, d4, rfl, _, _⟩ := hl4.form
        have hs4 := hb4.size
        have HL4 := Lib.hid (HL3.out.trans (hb4.mono HL3.out.size))
        have hw4 := HL4.out.size
        rw [leZ_length] at hl4 ⊢
        have HR4 := Lib.hid hl4.at_
        clear x1 x0
        have HO4 := Lib.hid (HO3.out.below hb4)
        clear hl4 hb4
        go_wp2_with (with_reducible refine wpList_app_bys rfl (.tmp 62) (.tmp 66) rfl w1.heap.size L3 4 d3 _ rfl HO4.out w4.heap.size L4 2 d4 _ rfl HR4.out (by omega) hw4 ?_; intro A5 c5 w5 ho5 hg5; have HL5 := Lib.hid (HL4.out.trans (hg5.below hw4 (fun j hj => (own_lt_by HO4.out j hj).1))); have z0 := (HL5.out.cell (p := ⟨gx, 0, none⟩) hgx1).trans HY0.out; have z1 := (HL5.out.cell (p := ⟨gx, 1, none⟩) hgx1).trans HY1.out)
        have HO5 : Hid (OwnBys w5 w1.heap.size (.slice A5 6 c5) (leZ r 4 ++ leZ (k : Int) 2)) := ho5
        have hw5 := HL5.out.size
        clear ho5 hg5
        clear z0 z1
        refine (RLITTLEZ_any 16 2 (by omega) (by omega) (by omega) _).mono ?_
        rintro e w6 ⟨v6, rfl, hl6, hb6⟩
        obtain ⟨L6, d6, rfl, _, _⟩ := hl6.form
        have hs6 := hb6.size
        have HL6 := Lib.hid (HL5.out.trans (hb6.mono HL5.out.size))
        have hw6 := HL6.out.size
        rw [leZ_length] at hl6 ⊢
        have HR6 := Lib.hid hl6.at_
        have HO6 := Lib.hid (HO5.out.below hb6)
        clear hl6 hb6
        go_wp2_with (with_reducible refine wpList_app_bys rfl (.tmp 68) (.tmp 70) rfl w1.heap.size A5 6 c5 _ rfl HO6.out w6.heap.size L6 2 d6 _ rfl HR6.out (by omega) hw6 ?_; intro A7 c7 w7 ho7 hg7; have HL7 := Lib.hid (HL6.out.trans (hg7.below hw6 (fun j hj => (own_lt_by HO6.out j hj).1))); have z0 := (HL7.out.cell (p := ⟨gx, 0, none⟩) hgx1).trans HY0.out; have z1 := (HL7.out.cell (p := ⟨gx, 1, none⟩) hgx1).trans HY1.out)
        have HO7 : Hid (OwnBys w7 w1.heap.size (.slice A7 8 c7) ((leZ r 4 ++ leZ (k : Int) 2) ++ leZ 16 2)) := ho7
        have hw7 := HL7.out.size
        clear ho7 hg7
        clear z0 z1
        have HB7 := Lib.hid (HB1.out.trans (HL7.out.mono hs1))
        refine (RLONG_any r (some ad) k c xss _ B (by omega) (hh.out.below (HB7.out.mono hB) (Nat.le_refl _)) hn0).mono ?_
        rw [HM.out]
        rintro e w8 ⟨rfl, hb8⟩
        have HL8 := Lib.hid (HL7.out.trans (hb8.mono hw7))
        have HO8 := Lib.hid (HO7.out.below hb8)
        have hw8 := HL8.out.size
        clear hb8
        go_wp2_with fail
        refine (RLITTLEZ_any (m : Int) 4 (by omega) (by omega) (by omega) _).mono ?_
        rintro e w9 ⟨v9, rfl, hl9, hb9⟩
        obtain ⟨L9, d9, rfl, _, _⟩ := hl9.form
        have hs9 := hb9.size
        have HL9 := Lib.hid (HL8.out.trans (hb9.mono HL8.out.size))
        have hw9 := HL9.out.size
        rw [leZ_length] at hl9 ⊢
        have HR9 := Lib.hid hl9.at_
        have HO9 := Lib.hid (HO8.out.below hb9)
        clear hl9 hb9
        go_wp2_with (with_reducible refine wpList_app_bys rfl (.tmp 72) (.tmp 75) rfl w1.heap.size A7 8 c7 _ rfl HO9.out w9.heap.size L9 4 d9 _ rfl HR9.out (by omega) hw9 ?_; intro A10 c10 w10 ho10 hg10; have HL10 := Lib.hid (HL9.out.trans (hg10.below hw9 (fun j hj => (own_lt_by HO9.out j hj).1))); have z0 := (HL10.out.cell (p := ⟨gx, 0, none⟩) hgx1).trans HY0.out; have z1 := (HL10.out.cell (p := ⟨gx, 1, none⟩) hgx1).trans HY1.out)
        have HO10 : Hid (OwnBys w10 w1.heap.size (.slice A10 12 c10) (formB r k 16 m)) := ho10
        have hw10 := HL10.out.size
        clear ho10 hg10
        obtain ⟨Y, gc, hY, hgc, HY, HBY, HSY⟩ := one_box w10 (.cells #[.string ⟨#[102, 111, 114, 109]⟩, .slice A10 12 c10] 42)
        rw [← hgc, ← hY]
        have hgcw : w1.heap.size ≤ gc := by rw [hgc]; exact hw10
        have HC0 := Lib.hid (cks_one (nm := [102, 111, 114, 109]) HY.out hgcw (HO10.out.below HBY.out).inB)
        have HLY := Lib.hid (HL10.out.trans (HBY.out.mono hw10))
        obtain ⟨ck0, hck⟩ : ∃ ck0 : Ck, (([102, 111, 114, 109] : By), formB r k 16 m) = ck0 := ⟨_, rfl⟩
        have HCK := Lib.hid hck
        rw [hck] at HC0
        clear hck hY hgc HY HBY HSY HO10 HL10 z0 z1 HR9 HO9 HO8 HO7 HO6 HR6 HO5 HO4 HR4 HO3
        go_loopw [12, 13] (fun s i wr => ∃ (a : Nat) (A1 : Option Addr) (n1 c1 : Nat) (rows : List Value), a ≤ nn ∧ i = .int .i64 a ∧ s = .slice A1 n1 c1 ∧ n1 ≤ a + 1 ∧ Hid (CksR wr w1.heap.size (.slice A1 n1 c1) (ck0 :: (l.take a).map noteC) rows) ∧ Hid (notesF [] l = notesF (l.take a) (l.drop a)) ∧ Hid (Below w1.heap.size w1 wr)) (fun _ i _ => nn - (intOf i).toNat)
        case atStart => exact ⟨0, _, 1, 1, _, Nat.zero_le _, rfl, rfl, by omega, HC0, rfl, HLY⟩
        case round =>
          clear HC0 HLY
          obtain ⟨wa, rfl⟩ : ∃ x : World, x = wr := ⟨_, rfl⟩
          obtain ⟨a, A1, n1, c1, rows, ha, rfl, rfl, hn1, hC, hF, hb⟩ := hrel
          have hsz := hb.out.size
          have HBw := Lib.hid (HB1.out.trans (hb.out.mono hs1))
          by_cases hal : a < nn
          · have hai : (a : Int) < (nn : Int) := by omega
            have ha0 : (0 : Int) ≤ (a : Int) := by omega
            have haL : Hid (a < l.length) := by show _ < _; rw [HNL.out]; exact hal
            obtain ⟨b, o, rfl, hbB, q0, q1⟩ := (HN.out.below (HBw.out.mono hB) (Nat.le_refl _)).2 a hal
            obtain ⟨⟨s, t⟩, hst⟩ : ∃ p, nxOf l a = p := ⟨_, rfl⟩
            have hzz := hz.out _ (nx_mem haL.out)
            have HD := Lib.hid (drop_nx haL.out)
            have HTK := Lib.hid (take_nx haL.out)
            rw [hst] at q0 q1 hzz HD HTK
            dsimp only at q0 q1 hzz
            obtain ⟨hz1, hz2⟩ := hzz
            unfold maxLen at hz1 hz2
            have HQ0 := Lib.hid q0
            have HQ1 := Lib.hid q1
            obtain ⟨bn, hbn⟩ : ∃ bn, nameN s.data.toList = bn := ⟨_, rfl⟩
            obtain ⟨bt, hbt⟩ : ∃ bt, textN t.data.toList = bt := ⟨_, rfl⟩
            have HBN := Lib.hid hbn
            have HBT := Lib.hid hbt
            have HFE : Hid (∀ f : Int, noteX (s, t) = f → f ≠ 0 → Z = ([], f)) := fun f hf hf0 => by
              have e7 : notesF [] l = f := by
                rw [hF.out, HD.out]
                unfold notesF
                rw [if_pos (by rw [hf]; exact hf0)]
                exact hf
              rw [← HZ2.out, if_pos (by rw [e7]; exact hf0), e7]
            have hbBw : b < wa.heap.size := Nat.lt_of_lt_of_le hbB (Nat.le_trans hBs hsz)
            clear hst hbn hbt
            go_wp2_with fail
            refine (RISNAME_any s (by omega) _).mono ?_
            rw [HBN.out]
            rintro e w3 ⟨rfl, rfl⟩
            cases bn with
            | false =>
              have HV := Lib.hid (HFE.out 5 (by unfold noteX noteS; rw [HBN.out]; rfl) (by decide))
              go_wp2_with fail
              refine bodyPost_ret (v := .tuple #[.slice none 0 0, .int .i64 5]) (by simp [results, Tryd.results6, go_sem]) rfl ?_
              rw [HV.out]
              exact OutY.none HBw.out
            | true =>
              go_wp2_with fail
              refine (ISTEXT_any t (by omega) _).mono ?_
              rw [HBT.out]
              rintro e w3 ⟨rfl, rfl⟩
              cases bt with
              | false =>
                have HV := Lib.hid (HFE.out 3 (by unfold noteX noteS; rw [HBN.out, HBT.out]; rfl) (by decide))
                go_wp2_with fail
                refine bodyPost_ret (v := .tuple #[.slice none 0 0, .int .i64 3]) (by simp [results, Tryd.results6, go_sem]) rfl ?_
                rw [HV.out]
                exact OutY.none HBw.out
              | true =>
                by_cases h200 : 200 < t.size
                · have hi2 : (200 : Int) < (t.size : Int) := by omega
                  have HV := Lib.hid (HFE.out 2 (by unfold noteX noteS; rw [HBN.out, HBT.out, if_neg (by simp), if_neg (by simp), if_pos (by rw [len_dat]; exact h200)]) (by decide))
                  go_wp2_with fail
                  refine bodyPost_ret (v := .tuple #[.slice none 0 0, .int .i64 2]) (by simp [results, Tryd.results6, go_sem]) rfl ?_
                  rw [HV.out]
                  exact OutY.none HBw.out
                · have hi2 : ¬ (200 : Int) < (t.size : Int) := by omega
                  have HX0 : Hid (noteX (s, t) = 0) := by show _ = _; unfold noteX noteS; rw [HBN.out, HBT.out, if_neg (by simp), if_neg (by simp), if_neg (by rw [len_dat]; exact h200)]
                  go_wp2_with fail
                  clear q0 q1
                  go_loopw [14] (fun j wr => ∃ j9 : Nat, j9 ≤ a ∧ j = .int .i64 j9 ∧ Hid (∀ x, x < j9 → (nxOf l x).1.data.toList ≠ s.data.toList) ∧ Hid (Below wa.heap.size wa wr)) (fun j _ => a - (intOf j).toNat)
                  case atStart => exact ⟨0, Nat.zero_le _, rfl, (fun x hx => by omega), Below.refl _ _⟩
                  case round =>
                    obtain ⟨wj, rfl⟩ : ∃ x : World, x = wr := ⟨_, rfl⟩
                    obtain ⟨j9, hj9, rfl, hJ, hb9⟩ := hrel
                    have q0 := (hb9.out.cell (p := ⟨b, o + a * 2, none⟩) hbBw).trans HQ0.out
                    have q1 := (hb9.out.cell (p := ⟨b, o + a * 2 + 1, none⟩) hbBw).trans HQ1.out
                    have hj0 : (0 : Int) ≤ (j9 : Int) := by omega
                    by_cases hjl : j9 < a
                    · have hji : (j9 : Int) < (a : Int) := by omega
                      have hjn : (j9 : Int) < (nn : Int) := by omega
                      obtain ⟨b', o', e', hbB', p0, p1⟩ := (HN.out.below (HBw.out.mono hB) (Nat.le_refl _)).2 j9 (by omega)
                      injection e' with e'
                      injection e' with e1 e2 _
                      subst e1 e2
                      have p0' := (hb9.out.cell (p := ⟨b, o + j9 * 2, none⟩) hbBw).trans p0
                      obtain ⟨s2, hs2⟩ : ∃ s2, (nxOf l j9).1 = s2 := ⟨_, rfl⟩
                      have HS2 := Lib.hid hs2
                      rw [hs2] at p0'
                      clear hs2 p0 p1
                      by_cases heq : s2.data.toList = s.data.toList
                      · have hq9 : (s2.toList == s.toList) = true := by rw [ByteArray.toList_eq, ByteArray.toList_eq, heq]; simp
                        have HV : Hid (Z = ([], 7)) := by
                          show _ = _
                          have e7 : notesF [] l = 7 := by
                            rw [hF.out, HD.out]
                            unfold notesF
                            rw [if_neg (show ¬ noteX (s, t) ≠ 0 by rw [HX0.out]; simp), if_pos (isIn_yes hjl (by rw [HNL.out]; omega) (by rw [HS2.out]; exact heq))]
                          rw [← HZ2.out, if_pos (by rw [e7]; decide), e7]
                        clear heq
                        go_wp2_with fail
                        go_quiet (fail)
                        go_wp2_with fail
                        refine bodyPost_ret (v := .tuple #[.slice none 0 0, .int .i64 7]) (by simp [results, Tryd.results6, go_sem]) rfl ?_
                        rw [HV.out]
                        exact OutY.none (belowN (HBw.out.trans (hb9.out.mono HBw.out.size)) nq)
                      · have hq9 : (s2.toList == s.toList) = false := by rw [ByteArray.toList_eq, ByteArray.toList_eq]; simpa using heq
                        have HJ2 : Hid (∀ x, x < j9 + 1 → (nxOf l x).1.data.toList ≠ s.data.toList) := fun x hx => by
                          by_cases hxj : x = j9
                          · rw [hxj, HS2.out]; exact heq
                          · exact hJ.out x (by omega)
                        clear heq
                        go_wp2_with fail
                        go_quiet (fail)
                        go_wp2_with fail
                        go_roundw
                        case rel => exact ⟨j9 + 1, by omega, by go_num, HJ2, belowN hb9.out nq⟩
                        case measure => simp [intOf]; omega
                    · obtain rfl : j9 = a := by omega
                      have hji : ¬ (j9 : Int) < (j9 : Int) := by omega
                      have HIN := Lib.hid (isIn_no hJ.out)
                      obtain ⟨_, _, hs40, ht200⟩ := noteS_zero (a := s.data.toList) (b := t.data.toList) HX0.out
                      rw [len_dat] at hs40 ht200
                      obtain ⟨st, hst⟩ : ∃ st : ByteArray, s ++ ⟨#[0]⟩ ++ t = st := ⟨_, rfl⟩
                      have hst2 : st.data.toList = (s.data.toList ++ [0]) ++ t.data.toList := by rw [← hst]; simp
                      have hst3 : st.size ≤ 241 := by
                        rw [← len_dat, hst2]
                        simp only [List.length_append, List.length_singleton, len_dat]
                        omega
                      obtain ⟨V, C, hrun, HCC9, HIV, HBV⟩ := bytes_new st wj.drew (by unfold maxLen; omega)
                      have HST2 := Lib.hid hst2
                      have hrun2 : (convert 9 26 (.string (s ++ ⟨#[0]⟩ ++ t))).run Tryd.prog wj.drew = .ok (.slice (some ⟨wj.drew.heap.size, 0, none⟩) st.size C) V := by rw [hst]; exact hrun
                      have HBWV : Hid (Below wj.heap.size wj V) := (Below.refl _ wj).drew.trans HBV.out
                      have HLj := Lib.hid (hb.out.trans (hb9.out.mono hsz))
                      have HLV := Lib.hid (HLj.out.trans (HBWV.out.mono HLj.out.size))
                      have HCV := Lib.hid ((hC.out.below hb9.out).below HBWV.out)
                      have hlen1 : n1 = ((l.take j9).map noteC).length + 1 := by
                        obtain ⟨A', c', e, _, _⟩ := own_form hC.out.outer
                        injection e
                      have hs6 := HLV.out.size
                      have HOV : Hid (V.ownsRow w1.heap.size 42 2 (.slice A1 n1 c1) n1 (cksC (ck0 :: (l.take j9).map noteC) rows)) := by
                        have := HCV.out.outer
                        rw [List.length_cons, ← hlen1] at this
                        exact this
                      have HLN := Lib.hid hlen1
                      have hjd : wj.drew.heap.size = wj.heap.size := rfl
                      have HSS : Hid (∀ x9 : World, Below w1.heap.size wj x9 → x9.cell? ⟨b, o + j9 * 2, none⟩ = some (.string s) ∧ x9.cell? ⟨b, o + j9 * 2 + 1, none⟩ = some (.string t)) := fun x9 hb8 => ⟨(hb8.cell (p := ⟨b, o + j9 * 2, none⟩) (by dsimp only; omega)).trans q0, (hb8.cell (p := ⟨b, o + j9 * 2 + 1, none⟩) (by dsimp only; omega)).trans q1⟩
                      clear hlen1 hst hst2 hrun hb9 hb hC
                      go_upto_region 35 with fail
                      clear q0 q1
                      refine wp_region_text 17 (fun x9 => x9.cell? ⟨b, o + j9 * 2, none⟩ = some (.string s) ∧ x9.cell? ⟨b, o + j9 * 2 + 1, none⟩ = some (.string t)) (by kernel_rfl) (by kernel_rfl) ?_
                      have hS := HSS.out wj.drew (Below.refl _ _).drew
                      refine HT.take (i := 0) (oi := _) (v := ?_) rfl (by kernel_rfl) (by kernel_rfl) (by decide) (fun _ _ _ h => h) (Or.inl ⟨by rfl, ?_⟩) hS ?_
                      rotate_left
                      · intro wz
                        go_simp
                        try with_reducible rfl
                      simp only [List.getElem_toArray, List.getElem_cons_succ, List.getElem_cons_zero, Act.put, List.setIfInBounds_toArray, List.set_cons_zero, List.set_cons_succ]
                      refine HT.take (i := 1) (oi := _) (v := ?_) rfl (by kernel_rfl) (by kernel_rfl) (by decide) (fun _ _ _ h => h) (Or.inl ⟨by rfl, ?_⟩) hS ?_
                      rotate_left
                      · intro wz
                        go_simp
                        try with_reducible rfl
                      simp only [List.getElem_toArray, List.getElem_cons_succ, List.getElem_cons_zero, Act.put, List.setIfInBounds_toArray, List.set_cons_zero, List.set_cons_succ]
                      refine HT.take (i := 2) (oi := _) (v := ?_) rfl (by kernel_rfl) (by kernel_rfl) (by decide) (fun _ _ _ h => h) (Or.inl ⟨by rfl, ?_⟩) hS ?_
                      rotate_left
                      · intro wz
                        go_simp
                        try with_reducible rfl
                      simp only [List.getElem_toArray, List.getElem_cons_succ, List.getElem_cons_zero, Act.put, List.setIfInBounds_toArray, List.set_cons_zero, List.set_cons_succ]
                      refine HT.take (i := 3) (oi := _) (v := ?_) rfl (by kernel_rfl) (by kernel_rfl) (by decide) (fun _ _ _ h => h) (Or.inl ⟨by rfl, ?_⟩) hS ?_
                      rotate_left
                      · intro wz
                        go_simp
                        try with_reducible rfl
                      simp only [List.getElem_toArray, List.getElem_cons_succ, List.getElem_cons_zero, Act.put, List.setIfInBounds_toArray, List.set_cons_zero, List.set_cons_succ]
                      refine HT.take (i := 4) (oi := _) (v := ?_) rfl (by kernel_rfl) (by kernel_rfl) (by decide) (fun _ _ _ h => h) (Or.inl ⟨by rfl, ?_⟩) hS ?_
                      rotate_left
                      · intro wz
                        go_simp
                        try with_reducible rfl
                      simp only [List.getElem_toArray, List.getElem_cons_succ, List.getElem_cons_zero, Act.put, List.setIfInBounds_toArray, List.set_cons_zero, List.set_cons_succ]
                      refine HT.load (i := 5) (oi := _) (v := ?_) rfl (by kernel_rfl) (by kernel_rfl) (by decide) (fun _ _ _ h => h) (by kernel_rfl) (Or.inl ⟨by rfl, ?_⟩) hS ?_
                      rotate_left
                      · intro wz hwz
                        try dsimp only at hwz
                        go_simp
                        try with_reducible rfl
                      simp only [List.getElem_toArray, List.getElem_cons_succ, List.getElem_cons_zero, Act.put, List.setIfInBounds_toArray, List.set_cons_zero, List.set_cons_succ]
                      refine HT.take (i := 6) (oi := _) (v := (.string (s ++ ⟨#[0]⟩))) rfl (by kernel_rfl) (by kernel_rfl) (by decide) (fun _ _ _ h => h) (Or.inl ⟨by rfl, ?_⟩) hS ?_
                      · intro wz
                        go_simp
                        first | rfl | omega | (rw [if_neg (by omega)])
                      simp only [List.getElem_toArray, List.getElem_cons_succ, List.getElem_cons_zero, Act.put, List.setIfInBounds_toArray, List.set_cons_zero, List.set_cons_succ]
                      refine HT.take (i := 7) (oi := _) (v := ?_) rfl (by kernel_rfl) (by kernel_rfl) (by decide) (fun _ _ _ h => h) (Or.inl ⟨by rfl, ?_⟩) hS ?_
                      rotate_left
                      · intro wz
                        go_simp
                        try with_reducible rfl
                      simp only [List.getElem_toArray, List.getElem_cons_succ, List.getElem_cons_zero, Act.put, List.setIfInBounds_toArray, List.set_cons_zero, List.set_cons_succ]
                      refine HT.take (i := 8) (oi := _) (v := ?_) rfl (by kernel_rfl) (by kernel_rfl) (by decide) (fun _ _ _ h => h) (Or.inl ⟨by rfl, ?_⟩) hS ?_
                      rotate_left
                      · intro wz
                        go_simp
                        try with_reducible rfl
                      simp only [List.getElem_toArray, List.getElem_cons_succ, List.getElem_cons_zero, Act.put, List.setIfInBounds_toArray, List.set_cons_zero, List.set_cons_succ]
                      refine HT.take (i := 9) (oi := _) (v := ?_) rfl (by kernel_rfl) (by kernel_rfl) (by decide) (fun _ _ _ h => h) (Or.inl ⟨by rfl, ?_⟩) hS ?_
                      rotate_left
                      · intro wz
                        go_simp
                        try with_reducible rfl
                      simp only [List.getElem_toArray, List.getElem_cons_succ, List.getElem_cons_zero, Act.put, List.setIfInBounds_toArray, List.set_cons_zero, List.set_cons_succ]
                      refine HT.take (i := 10) (oi := _) (v := ?_) rfl (by kernel_rfl) (by kernel_rfl) (by decide) (fun _ _ _ h => h) (Or.inl ⟨by rfl, ?_⟩) hS ?_
                      rotate_left
                      · intro wz
                        go_simp
                        try with_reducible rfl
                      simp only [List.getElem_toArray, List.getElem_cons_succ, List.getElem_cons_zero, Act.put, List.setIfInBounds_toArray, List.set_cons_zero, List.set_cons_succ]
                      refine HT.load (i := 11) (oi := _) (v := ?_) rfl (by kernel_rfl) (by kernel_rfl) (by decide) (fun _ _ _ h => h) (by kernel_rfl) (Or.inl ⟨by rfl, ?_⟩) hS ?_
                      rotate_left
                      · intro wz hwz
                        try dsimp only at hwz
                        go_simp
                        try with_reducible rfl
                      simp only [List.getElem_toArray, List.getElem_cons_succ, List.getElem_cons_zero, Act.put, List.setIfInBounds_toArray, List.set_cons_zero, List.set_cons_succ]
                      refine HT.take (i := 12) (oi := _) (v := (.string (s ++ ⟨#[0]⟩ ++ t))) rfl (by kernel_rfl) (by kernel_rfl) (by decide) (fun _ _ _ h => h) (Or.inl ⟨by rfl, ?_⟩) hS ?_
                      · intro wz
                        go_simp
                        first | rfl | omega | (rw [if_neg (by omega)])
                      simp only [List.getElem_toArray, List.getElem_cons_succ, List.getElem_cons_zero, Act.put, List.setIfInBounds_toArray, List.set_cons_zero, List.set_cons_succ]
                      refine HT.one (i := 13) (o := _) rfl (by kernel_rfl) (by decide) (by rfl) ?_
                      intro K hK
                      go_simp
                      have hsj := HLj.out.size
                      have hS9 := HSS.out V (HBWV.out.mono hsj)
                      refine hK.out _ _ hS9 ?_
                      clear hK K hS hrun2
                      have hS := hS9
                      clear hS9
                      try simp only [List.getElem_toArray, List.getElem_cons_succ, List.getElem_cons_zero, Act.put, List.setIfInBounds_toArray, List.set_cons_zero, List.set_cons_succ]
                      refine HT.take (i := 14) (oi := _) (v := ?_) rfl (by kernel_rfl) (by kernel_rfl) (by decide) (fun _ _ _ h => h) (Or.inl ⟨by rfl, ?_⟩) hS ?_
                      rotate_left
                      · intro wz
                        go_simp
                        try with_reducible rfl
                      simp only [List.getElem_toArray, List.getElem_cons_succ, List.getElem_cons_zero, Act.put, List.setIfInBounds_toArray, List.set_cons_zero, List.set_cons_succ]
                      refine HT.one (i := 15) (o := _) rfl (by kernel_rfl) (by decide) (by rfl) ?_
                      intro K hK
                      go_simp
                      have hS9 := HSS.out (V.alloc (.cells #[.string ⟨#[110, 111, 116, 101]⟩, .slice (some ⟨wj.heap.size, 0, none⟩) st.size C] 42)) ((HBWV.out.mono hsj).alloc hs6 _)
                      refine hK.out _ _ hS9 ?_
                      clear hK K hS
                      have hS := hS9
                      clear hS9
                      try simp only [List.getElem_toArray, List.getElem_cons_succ, List.getElem_cons_zero, Act.put, List.setIfInBounds_toArray, List.set_cons_zero, List.set_cons_succ]
                      refine HT.one (i := 16) (o := _) rfl (by kernel_rfl) (by decide) (by rfl) ?_
                      intro K hK
                      refine wp_push_ck (.tmp 123) (.tmp 138) rfl w1.heap.size A1 n1 c1 (cksC (ck0 :: (l.take j9).map noteC) rows) (.string ⟨#[110, 111, 116, 101]⟩) (.slice (some ⟨wj.heap.size, 0, none⟩) st.size C) rfl rfl V.heap.size rfl rfl rfl HOV.out (by omega) hs6 ?_
                      intro g8 cap8 w8 ho8 hg8
                      have HC8 : Hid (CksR w8 w1.heap.size (.slice (some ⟨g8, 0, none⟩) (n1 + 1) cap8) (ck0 :: (l.take (j9 + 1)).map noteC) (rows ++ [.slice (some ⟨wj.heap.size, 0, none⟩) st.size C])) := by
                        have hbv : Below V.heap.size V (V.alloc (.cells #[.string ⟨#[110, 111, 116, 101]⟩, .slice (some ⟨wj.heap.size, 0, none⟩) st.size C] 42)) := (Below.refl _ V).alloc (Nat.le_refl _) _
                        have hin : InB (V.alloc (.cells #[.string ⟨#[110, 111, 116, 101]⟩, .slice (some ⟨wj.heap.size, 0, none⟩) st.size C] 42)) (.slice (some ⟨wj.heap.size, 0, none⟩) st.size C) (noteC (s, t)).2 := by
                          show InB _ _ ((s.data.toList ++ [0]) ++ t.data.toList)
                          rw [← HST2.out]
                          exact InB.below HIV.out hbv
                        have := CksR.push (c := noteC (s, t)) HCV.out hbv hin (by rw [List.length_cons, ← HLN.out]; exact ho8) hg8
                        show CksR _ _ _ _ _
                        rw [HTK.out, List.map_append]
                        exact this
                      have HF8 : Hid (notesF [] l = notesF (l.take (j9 + 1)) (l.drop (j9 + 1))) := by
                        show _ = _
                        rw [hF.out, HD.out, HTK.out]
                        conv => lhs; unfold notesF
                        rw [if_neg (show ¬ noteX (s, t) ≠ 0 by rw [HX0.out]; simp), if_neg (by rw [HIN.out]; decide)]
                      have HGV := Lib.hid (((Below.refl w1.heap.size V).alloc hs6 (.cells #[.string ⟨#[110, 111, 116, 101]⟩, .slice (some ⟨wj.heap.size, 0, none⟩) st.size C] 42)).grown hg8 (by simp; omega) (fun b9 e => (own_lt HOV.out e).1))
                      have HL8 := Lib.hid (HLV.out.trans HGV.out)
                      have hS9 := HSS.out w8 ((HBWV.out.mono hsj).trans HGV.out)
                      refine hK.out _ _ hS9 ?_
                      clear hK K hS ho8 hg8
                      have hS := hS9
                      clear hS9
                      try simp only [List.getElem_toArray, List.getElem_cons_succ, List.getElem_cons_zero, Act.put, List.setIfInBounds_toArray, List.set_cons_zero, List.set_cons_succ]
                      refine HT.done (by kernel_rfl) ?_
                      clear hS
                      simp only [List.drop_succ_cons, List.drop_zero]
                      go_wp2_with fail
                      go_roundw
                      case rel => exact ⟨j9 + 1, _, n1 + 1, cap8, _, by omega, by go_num, rfl, by omega, HC8, HF8, HL8⟩
                      case measure => simp [intOf]; omega
          · obtain rfl : a = nn := by omega
            have hai : ¬ (a : Int) < (a : Int) := by omega
            rw [List.take_of_length_le (by rw [HNL.out]; exact Nat.le_refl _)] at hC hF
            have HGD : Hid (packS (cksB r xss 16 l) = Z) := by
              show _ = _
              have e0 : notesF [] l = 0 := by
                rw [hF.out, List.drop_of_length_le (by rw [HNL.out]; exact Nat.le_refl _)]
                rfl
              rw [← HZ2.out, if_neg (by rw [e0]; decide)]
            have hall := Lib.hid (notesF_zero (l := l) (pre := []) (by
              rw [hF.out, List.drop_of_length_le (by rw [HNL.out]; exact Nat.le_refl _)]
              rfl))
            clear hF HZ2
            have HLa := hb
            clear hb
            go_wp2_with fail
            go_loopw [15, 16] (fun s i wr => ∃ (i9 : Nat) (A5 : Option Addr) (n5 c5 : Nat), i9 ≤ m ∧ i = .int .i64 i9 ∧ s = .slice A5 n5 c5 ∧ n5 ≤ 48 * i9 ∧ Hid (OwnBys wr wa.heap.size (.slice A5 n5 c5) (dataB 16 xss i9)) ∧ Hid (Below wa.heap.size wa wr)) (fun _ i _ => m - (intOf i).toNat)
            case atStart => exact ⟨0, none, 0, 0, Nat.zero_le _, rfl, rfl, by omega, World.ownsRow_nil _ _ _ _, Below.refl _ _⟩
            case round =>
              obtain ⟨wq, rfl⟩ : ∃ x : World, x = wr := ⟨_, rfl⟩
              obtain ⟨i9, A5, n5, c5, hi9, rfl, rfl, hn5, hO, hb⟩ := hrel
              have HLq := Lib.hid (HLa.out.trans (hb.out.mono hsz))
              have HBq := Lib.hid (HB1.out.trans (HLq.out.mono hs1))
              have z0 := (HLq.out.cell (p := ⟨gx, 0, none⟩) hgx1).trans HY0.out
              have z1 := (HLq.out.cell (p := ⟨gx, 1, none⟩) hgx1).trans HY1.out
              have hsq1 := HLq.out.size
              have hsq2 := hb.out.size
              have hi0 : (0 : Int) ≤ (i9 : Int) := by omega
              go_wp2_with fail
              refine (RLONG_any r (some ad) k c xss _ B (by omega) (hh.out.below (HBq.out.mono hB) (Nat.le_refl _)) hn0).mono ?_
              rw [HM.out]
              rintro e w5 ⟨rfl, hb5⟩
              have HO5 := Lib.hid (hO.out.below hb5)
              have HB5 := Lib.hid (hb.out.trans (hb5.mono hsq2))
              have HL5 := Lib.hid (HLa.out.trans (HB5.out.mono hsz))
              clear hb5 hO hb z0 z1 HLq HBq
              by_cases hil : i9 < m
              · have hii : (i9 : Int) < (m : Int) := by omega
                go_wp2_with fail
                go_loopw [15, 17] (fun s t wr => ∃ (a9 : Nat) (A6 : Option Addr) (n6 c6 : Nat), a9 ≤ k ∧ t = .int .i64 a9 ∧ s = .slice A6 n6 c6 ∧ n6 ≤ 48 * i9 + 3 * a9 ∧ Hid (OwnBys wr wa.heap.size (.slice A6 n6 c6) (dataB 16 xss i9 ++ (xss.take a9).flatMap (fun l => smpC 16 (elOf l i9)))) ∧ Hid (Below wa.heap.size wa wr)) (fun _ t _ => k - (intOf t).toNat)
                case atStart => exact ⟨0, A5, n5, c5, Nat.zero_le _, rfl, rfl, by omega, by rw [List.take_zero, List.flatMap_nil, List.append_nil]; exact HO5, HB5⟩
                case round =>
                  clear HO5 HB5 HL5
                  obtain ⟨wt, rfl⟩ : ∃ x : World, x = wr := ⟨_, rfl⟩
                  obtain ⟨a9, A6, n6, c6, ha9, rfl, rfl, hn6, hO, hb⟩ := hrel
                  have ha90 : (0 : Int) ≤ (a9 : Int) := by omega
                  have HLt := Lib.hid (HLa.out.trans (hb.out.mono hsz))
                  have HBt := Lib.hid (HB1.out.trans (HLt.out.mono hs1))
                  have z1 := (HLt.out.cell (p := ⟨gx, 1, none⟩) hgx1).trans HY1.out
                  have hst1 := HLt.out.size
                  have hst9 := hb.out.size
                  by_cases hal9 : a9 < k
                  · have hai9 : (a9 : Int) < (k : Int) := by omega
                    have hax : Hid (a9 < xss.length) := by show _ < _; rw [hl.out]; exact hal9
                    have him : Hid (i9 < len0 xss) := by show _ < _; rw [HM.out]; exact hil
                    obtain ⟨A', n', c', hadB, hcell, hn', hc', hi'⟩ := (hh.out.below (HBt.out.mono hB) (Nat.le_refl _)).row hal9
                    obtain rfl : m = n' := ((hok.out.row hax.out).1.trans HM.out).symm.trans hi'.1
                    obtain ⟨ad', rfl⟩ := hi'.addr (by omega)
                    have hcell2 := (hi'.at_ hil).2
                    obtain ⟨y1, y2⟩ := hok.out.el hax.out him.out
                    have HST := Lib.hid (colB_step (b := 16) (i := i9) hax.out)
                    obtain ⟨y, hy⟩ : ∃ y, elOf (rowOf xss a9) i9 = y := ⟨_, rfl⟩
                    rw [hy] at hcell2 y1 y2 HST
                    unfold maxLen at hc'
                    clear hy hi'
                    have HSM : Hid (smpC 16 y = leZ (y / 256) 2) := by show _ = _; simp [smpC]
                    go_wp2_with fail
                    refine (RLITTLEZ_any (y / 256) 2 (by omega) (by omega) (by omega) _).mono ?_
                    rintro e w6 ⟨v6, rfl, hl6, hb6⟩
                    obtain ⟨L6, d6, rfl, _, _⟩ := hl6.form
                    rw [leZ_length] at hl6 ⊢
                    have HO6 := Lib.hid (hO.out.below hb6)
                    have HR6 := Lib.hid hl6.at_
                    have hw6 := Nat.le_trans hst9 hb6.size
                    have HB6 := Lib.hid (hb.out.trans (hb6.mono hst9))
                    clear hl6 hb6
                    go_wp2_with (with_reducible refine wpList_app_bys rfl (.tmp 153) (.tmp 167) rfl wa.heap.size A6 n6 c6 _ rfl HO6.out w6.heap.size L6 2 d6 _ rfl HR6.out (by omega) hw6 ?_; intro A7 c7 w7 ho7 hg7)
                    rw [← HSM.out, List.append_assoc, ← HST.out] at ho7
                    have HO7 := Lib.hid ho7
                    have HB7 := Lib.hid (HB6.out.trans (hg7.below hw6 (fun j hj => (own_lt_by HO6.out j hj).1)))
                    clear ho7 hg7
                    go_roundw
                    case rel => exact ⟨a9 + 1, A7, _, c7, by omega, by go_num, rfl, by omega, HO7, HB7⟩
                    case measure => simp [intOf]; omega
                  · obtain rfl : a9 = k := by omega
                    have hai9 : ¬ (a9 : Int) < (a9 : Int) := by omega
                    have HO7 := Lib.hid (by have := hO.out; rw [colB_all hl.out, ← dataB_step] at this; exact this)
                    go_wp2_with fail
                    go_roundw
                    case rel => exact ⟨i9 + 1, A6, n6, c6, by omega, by go_num, rfl, by omega, HO7, hb⟩
                    case measure => simp [intOf]; omega
              · obtain rfl : i9 = m := by omega
                have hii : ¬ (i9 : Int) < (i9 : Int) := by omega
                have hlen1 : n1 = (l.map noteC).length + 1 := by
                  obtain ⟨A', c', e, _, _⟩ := own_form hC.out.outer
                  injection e
                have HCq := Lib.hid (hC.out.below HB5.out)
                have HOV : Hid (w5.ownsRow w1.heap.size 42 2 (.slice A1 n1 c1) n1 (cksC (ck0 :: l.map noteC) rows)) := by
                  have := HCq.out.outer
                  rw [List.length_cons, ← hlen1] at this
                  exact this
                have HLN := Lib.hid hlen1
                have hsq : w1.heap.size ≤ w5.heap.size := HL5.out.size
                obtain ⟨A5', c5', eq5, hq1, hq2⟩ := HO5.out.form
                have HDI := Lib.hid HO5.out.inB
                have hdl : List.length (dataB 16 xss i9) ≤ 48 * i9 := by have := own_len_by HO5.out; omega
                clear hlen1 eq5 hq1 hq2
                go_wp2_with (with_reducible refine wpList_push_ck rfl (.tmp 169) (.tmp 172) rfl w1.heap.size A1 n1 c1 (cksC (ck0 :: l.map noteC) rows) (.string ⟨#[100, 97, 116, 97]⟩) (.slice A5 n5 c5) rfl rfl w5.heap.size rfl rfl rfl HOV.out (by omega) hsq ?_; intro g8 cap8 w8 ho8 hg8)
                have HE : Hid (cksB r xss 16 l = (ck0 :: l.map noteC) ++ [([100, 97, 116, 97], dataB 16 xss i9)]) := by
                  show _ = _
                  unfold cksB
                  rw [hl.out, HM.out, HCK.out]
                have hbv : Below w5.heap.size w5 (w5.alloc (.cells #[.string ⟨#[100, 97, 116, 97]⟩, .slice A5 n5 c5] 42)) := (Below.refl _ w5).alloc (Nat.le_refl _) _
                have hC8 := CksR.push (c := (([100, 97, 116, 97] : By), dataB 16 xss i9)) HCq.out hbv (HDI.out.below hbv) (by rw [List.length_cons, ← HLN.out]; exact ho8) hg8
                rw [← HE.out] at hC8
                have HA8 := Lib.hid hC8.at_
                obtain ⟨A9, c9, e9, hf1, hf2⟩ := own_form ho8
                injection e9 with _ _ e9
                subst e9
                have hwq : w.heap.size ≤ w5.heap.size := Nat.le_trans hs1 hsq
                have HB8 := Lib.hid (((HB1.out.trans (HL5.out.mono hs1)).alloc hwq (.cells #[.string ⟨#[100, 97, 116, 97]⟩, .slice A5 n5 c5] 42)).grown hg8 (by simp; omega) (fun j e => Nat.le_trans hs1 (own_lt HOV.out e).1))
                have hd9 : Hid (∀ c ∈ cksB r xss 16 l, c.2.length ≤ 140737488351232) := fun c9 hc9 => by
                  rw [HE.out] at hc9
                  simp only [List.mem_append, List.mem_cons, List.mem_map, List.not_mem_nil, or_false] at hc9
                  rcases hc9 with (rfl | ⟨x, hx, rfl⟩) | rfl
                  · rw [← HCK.out]; simp [formB, leZ_length]
                  · have := noteC_len (hall.out x hx); omega
                  · dsimp only; omega
                clear ho8 hg8 hC8 hbv HOV HCq HDI
                refine (RPACK_any (some ⟨g8, 0, none⟩) (n1 + 1) cap8 (cksB r xss 16 l) hd9 ⟨hf1, hf2⟩ _ w8.heap.size (Nat.le_refl _) HA8.out).mono ?_
                rw [HGD.out]
                rintro e w9 ⟨v, rfl, hO9, hb9⟩
                have hw8 := HB8.out.size
                have HO9 := Lib.hid (own_base hO9 hw8)
                have HB9 := Lib.hid (HB8.out.trans (hb9.mono hw8))
                clear hO9 hb9 HA8 HB8
                go_wp2_with fail
                refine bodyPost_ret (v := .tuple #[v, .int .i64 Z.2]) (by simp [results, Tryd.results6, go_sem]) rfl ?_
                exact ⟨_, rfl, HO9.out, HB9.out⟩
set_option maxRecDepth 100000 in
set_option maxHeartbeats 8000000 in
theorem RBYTES_24 (r : Int) (ad : Addr) (AN : Option Addr) (n c nn cN : Nat) (xss : List (List Int)) (l : List Nx) (hc : Hid (chkS r xss = 0)) (hz : Hid (∀ x ∈ l, x.1.size ≤ maxLen ∧ x.2.size ≤ maxLen)) (w : World) (B : Nat) (hB : B ≤ w.heap.size) (hh : Hid (RowsAt w B (some ad) n xss)) (HN : Hid (NtsAt w B AN nn l)) :
    Calls Tryd.prog 6 #[.agg #[.int .i64 r, .slice (some ad) n c], .int .i64 24, .slice AN nn cN] w (OutY w (bytesS r xss 24 l)) := by
  have hq : (chkS r xss != 0) = false := by rw [hc.out]; rfl
  have hok := Lib.hid (chkS_ok hc.out)
  have hl := Lib.hid hh.out.1
  have hn16 : n ≤ 16 := by have := hok.out.few; have := hl.out; omega
  have hn0 : 0 < n := by have := hok.out.some; have := hl.out; omega
  have hm := hok.out.long
  have hr9 : 1 ≤ r ∧ r ≤ 1000000 := by have := hok.out.rate; simpa [rateB] using this
  obtain ⟨hr1, hr2⟩ := hr9
  obtain ⟨m, hm9⟩ : ∃ m, len0 xss = m := ⟨_, rfl⟩
  have HM := Lib.hid hm9
  rw [hm9] at hm
  clear hm9
  obtain ⟨Z, hZ⟩ : ∃ Z, bytesS r xss 24 l = Z := ⟨_, rfl⟩
  have HZ := Lib.hid hZ
  rw [hZ]
  clear hZ
  obtain ⟨W, gx, hW, hgx, B0, HB⟩ := sbox_new w r (some ad) n c xss (hh.out.mono hB)
  have hsW : B ≤ W.heap.size := Nat.le_trans hB HB.out.size
  obtain ⟨x0, x1, _, _⟩ := sbox_cells B0.out
  have hbB : Hid (Below B w W) := HB.out.mono hB
  go_enter Tryd.func6, Tryd.ntmps6
  go_upto_region 1 with (fail)
  rw [← hW, ← hgx]
  clear hW hgx
  go_wp2_with fail
  refine (RCHECK_any r (some ad) n c xss _ B hsW (hh.out.below hbB.out (Nat.le_refl _))).mono ?_
  rintro e w1 ⟨rfl, hb1⟩
  have HB1 := Lib.hid (HB.out.trans (hb1.mono HB.out.size))
  have B1 := Lib.hid (B0.out.below hb1)
  clear hb1 x0 x1 B0
  obtain ⟨y0, y1, _, _⟩ := sbox_cells B1.out
  have hBs : B ≤ w1.heap.size := Nat.le_trans hB HB1.out.size
  have hgx1 := blk_lt B1.out.box
  have hs1 := HB1.out.size
  clear y0 y1
  obtain ⟨y0, y1⟩ : w1.cell? ⟨gx, 0, none⟩ = some (.int .i64 r) ∧ w1.cell? ⟨gx, 1, none⟩ = some (.slice (some ad) n c) := by
    obtain ⟨p0, p1, _, _⟩ := sbox_cells B1.out
    exact ⟨p0, p1⟩
  have HY0 := Lib.hid y0
  have HY1 := Lib.hid y1
  go_wp2_with fail
  clear y0 y1
  go_loopw [9] (fun i wr => ∃ k : Nat, k ≤ n ∧ i = .int .i64 k ∧ Hid (∀ a j, a < k → j < m → evAt 24 (elOf (rowOf xss a) j)) ∧ Hid (Below w1.heap.size w1 wr)) (fun i _ => n - (intOf i).toNat)
  case atStart => exact ⟨0, Nat.zero_le _, rfl, (fun a j ha => by omega), Below.refl _ _⟩
  case round =>
    obtain ⟨wk, rfl⟩ : ∃ x : World, x = wr := ⟨_, rfl⟩
    obtain ⟨k, hk, rfl, hE, hb⟩ := hrel
    have x1 := (hb.out.cell (p := ⟨gx, 1, none⟩) hgx1).trans HY1.out
    by_cases hlt : k < n
    · have hkx : Hid (k < xss.length) := by show _ < _; rw [hl.out]; exact hlt
      have hki : (k : Int) < (n : Int) := by omega
      have hk0 : (0 : Int) ≤ (k : Int) := by omega
      go_wp2_with fail
      go_loopw [10] (fun i wr => ∃ j : Nat, j ≤ m ∧ i = .int .i64 j ∧ Hid (∀ i, i < j → evAt 24 (elOf (rowOf xss k) i)) ∧ Hid (Below w1.heap.size w1 wr)) (fun i _ => m - (intOf i).toNat)
      case atStart => exact ⟨0, Nat.zero_le _, rfl, (fun i hi => by omega), hb⟩
      case round =>
        clear hb x1
        obtain ⟨wj, rfl⟩ : ∃ x : World, x = wr := ⟨_, rfl⟩
        obtain ⟨j, hj, rfl, hE2, hb⟩ := hrel
        have x0 := (hb.out.cell (p := ⟨gx, 0, none⟩) hgx1).trans HY0.out
        have x1 := (hb.out.cell (p := ⟨gx, 1, none⟩) hgx1).trans HY1.out
        have hsj := hb.out.size
        have HBj := Lib.hid ((HB1.out.trans (hb.out.mono hs1)).mono hB)
        go_wp2_with fail
        refine (RLONG_any r (some ad) n c xss _ B (by omega) (hh.out.below HBj.out (Nat.le_refl _)) hn0).mono ?_
        rw [HM.out]
        rintro e w3 ⟨rfl, hb3⟩
        have HL3 := Lib.hid (hb.out.trans (hb3.mono hsj))
        have HB3 := Lib.hid (HB1.out.trans (HL3.out.mono hs1))
        have hj0 : (0 : Int) ≤ (j : Int) := by omega
        clear hb3 hb x0 x1
        by_cases hjl : j < m
        · obtain ⟨A', n', c', hadB, hcell, hn', hc', hi'⟩ := (hh.out.below (HB3.out.mono hB) (Nat.le_refl _)).row hlt
          obtain rfl : m = n' := ((hok.out.row hkx.out).1.trans HM.out).symm.trans hi'.1
          obtain ⟨ad', rfl⟩ := hi'.addr (by omega)
          have hcell2 := (hi'.at_ hjl).2
          have hkm : Hid (j < len0 xss) := by show _ < _; rw [HM.out]; exact hjl
          obtain ⟨y1, y2⟩ := hok.out.el hkx.out hkm.out
          obtain ⟨y, hy⟩ : ∃ y, elOf (rowOf xss k) j = y := ⟨_, rfl⟩
          have HY := Lib.hid hy
          rw [hy] at hcell2 y1 y2
          have hji : (j : Int) < (m : Int) := by omega
          have x1 := (HL3.out.cell (p := ⟨gx, 1, none⟩) hgx1).trans HY1.out
          unfold maxLen at hc'
          clear hy hi'
          by_cases hbad : (24 : Int) = 16 ∧ y % 256 ≠ 0
          · first
              | exact absurd hbad.1 (by decide)
              | (have hq2 : (y.tmod 256 != 0) = true := by rw [tmod_zero]; exact decide_eq_true hbad.2
                 have hev := even_bad hkx.out (by rw [(hok.out.row hkx.out).1]; exact hkm.out) (by rw [HY.out]; exact hbad.2)
                 have HV : Hid (Z = ([], 3)) := by
                   show _ = _
                   rw [← HZ.out]
                   unfold bytesS
                   rw [if_neg (by simp [hc.out]), if_neg (by simp), if_pos ⟨rfl, hev⟩]
                 clear hbad hev
                 go_wp2_with fail
                 refine bodyPost_ret (v := .tuple #[.slice none 0 0, .int .i64 3]) (by simp [results, Tryd.results6, go_sem]) rfl ?_
                 rw [HV.out]
                 exact OutY.none HB3.out)
          · have hev : evAt 24 y := fun e => Classical.byContradiction fun h => hbad ⟨e, h⟩
            have hE3 : Hid (∀ i, i < j + 1 → evAt 24 (elOf (rowOf xss k) i)) := fun i hi => by
              by_cases hij : i = j
              · rw [hij, HY.out]; exact hev
              · exact hE2.out i (by omega)
            have hq1 : (24 : Int) = 16 → (y.tmod 256 != 0) = false := fun e => by rw [tmod_zero]; exact decide_eq_false (fun h => h (hev e))
            clear hbad hev
            first
              | (have hq2 := hq1 rfl
                 clear hq1
                 go_wp2_with fail)
              | (clear hq1
                 go_wp2_with fail)
            go_roundw
            case rel => exact ⟨j + 1, by omega, by go_num, hE3, HL3⟩
            case measure => simp [intOf]; omega
        · obtain rfl : j = m := by omega
          have hji : ¬ (j : Int) < (j : Int) := by omega
          go_wp2_with fail
          go_roundw
          case rel => exact ⟨k + 1, by omega, by go_num, (fun a i ha hi => by
            by_cases hak : a = k
            · rw [hak]; exact hE2.out i hi
            · exact hE.out a i (by omega) hi), HL3⟩
          case measure => simp [intOf]; omega
    · obtain rfl : k = n := by omega
      have hki : ¬ (k : Int) < (k : Int) := by omega
      have HEV : Hid (¬ ((24 : Int) = 16 ∧ evenB xss = false)) := fun h => by
        have := even_all hl.out (fun a ha => (hok.out.row (show a < xss.length by rw [hl.out]; exact ha)).1.trans HM.out) (fun a j ha hj => hE.out a j ha hj h.1)
        rw [this] at h
        exact absurd h.2 (by decide)
      clear hE
      have HNL : Hid (l.length = nn) := HN.out.1
      have HLk := hb
      have HBk := Lib.hid (HB1.out.trans (hb.out.mono hs1))
      have hsk := hb.out.size
      have x0 := (hb.out.cell (p := ⟨gx, 0, none⟩) hgx1).trans HY0.out
      clear hb
      go_upto_region 14 with fail
      by_cases hlen : 50 < nn
      · have hi : (50 : Int) < (nn : Int) := by omega
        have HV : Hid (Z = ([], 2)) := by
          show _ = _
          rw [← HZ.out]
          unfold bytesS
          rw [if_neg (by simp [hc.out]), if_neg (by simp), if_neg HEV.out, if_pos (by rw [HNL.out]; exact hlen)]
        go_wp2_with fail
        refine bodyPost_ret (v := .tuple #[.slice none 0 0, .int .i64 2]) (by simp [results, Tryd.results6, go_sem]) rfl ?_
        rw [HV.out]
        exact OutY.none HBk.out
      · have hi : ¬ (50 : Int) < (nn : Int) := by omega
        have HZ2 : Hid ((if notesF [] l ≠ 0 then (([] : By), notesF [] l) else packS (cksB r xss 24 l)) = Z) := by
          show _ = _
          rw [← HZ.out]
          unfold bytesS
          rw [if_neg (show ¬ chkS r xss ≠ 0 by simp [hc.out]), if_neg (show ¬ ((24 : Int) ≠ 16 ∧ (24 : Int) ≠ 24) by simp), if_neg HEV.out, if_neg (show ¬ 50 < l.length by rw [HNL.out]; exact hlen)]
        clear HZ
        have HL0 := HLk
        go_wp2_with fail
        refine (RLITTLEZ_any r 4 (by omega) (by omega) (by omega) _).mono ?_
        rintro e w3 ⟨v3, rfl, hl3, hb3⟩
        obtain ⟨L3, d3, rfl, _, _⟩ := hl3.form
        have hs3 := hb3.size
        have HL3 := Lib.hid (HL0.out.trans (hb3.mono HL0.out.size))
        have hw3 := HL3.out.size
        rw [leZ_length] at hl3 ⊢
        have HR3 := Lib.hid hl3.at_
        have HO3 : Hid (OwnBys w3 w1.heap.size (.slice L3 4 d3) (leZ r 4)) := own_base hl3 hsk
        clear hl3 hb3 HR3
        have x1 := (HL3.out.cell (p := ⟨gx, 1, none⟩) hgx1).trans HY1.out
        go_wp2_with fail
        refine (RLITTLEZ_any (k : Int) 2 (by omega) (by omega) (by omega) _).mono ?_
        rintro e w4 ⟨v4, rfl, hl4, hb4⟩
        obtain ⟨L4, d4, rfl, _, _⟩ := hl4.form
        have hs4 := hb4.size
        have HL4 := Lib.hid (HL3.out.trans (hb4.mono HL3.out.size))
        have hw4 := HL4.out.size
        rw [leZ_length] at hl4 ⊢
        have HR4 := Lib.hid hl4.at_
        clear x1 x0
        have HO4 := Lib.hid (HO3.out.below hb4)
        clear hl4 hb4
        go_wp2_with (with_reducible refine wpList_app_bys rfl (.tmp 62) (.tmp 66) rfl w1.heap.size L3 4 d3 _ rfl HO4.out w4.heap.size L4 2 d4 _ rfl HR4.out (by omega) hw4 ?_; intro A5 c5 w5 ho5 hg5; have HL5 := Lib.hid (HL4.out.trans (hg5.below hw4 (fun j hj => (own_lt_by HO4.out j hj).1))); have z0 := (HL5.out.cell (p := ⟨gx, 0, none⟩) hgx1).trans HY0.out; have z1 := (HL5.out.cell (p := ⟨gx, 1, none⟩) hgx1).trans HY1.out)
        have HO5 : Hid (OwnBys w5 w1.heap.size (.slice A5 6 c5) (leZ r 4 ++ leZ (k : Int) 2)) := ho5
        have hw5 := HL5.out.size
        clear ho5 hg5
        clear z0 z1
        refine (RLITTLEZ_any 24 2 (by omega) (by omega) (by omega) _).mono ?_
        rintro e w6 ⟨v6, rfl, hl6, hb6⟩
        obtain ⟨L6, d6, rfl, _, _⟩ := hl6.form
        have hs6 := hb6.size
        have HL6 := Lib.hid (HL5.out.trans (hb6.mono HL5.out.size))
        have hw6 := HL6.out.size
        rw [leZ_length] at hl6 ⊢
        have HR6 := Lib.hid hl6.at_
        have HO6 := Lib.hid (HO5.out.below hb6)
        clear hl6 hb6
        go_wp2_with (with_reducible refine wpList_app_bys rfl (.tmp 68) (.tmp 70) rfl w1.heap.size A5 6 c5 _ rfl HO6.out w6.heap.size L6 2 d6 _ rfl HR6.out (by omega) hw6 ?_; intro A7 c7 w7 ho7 hg7; have HL7 := Lib.hid (HL6.out.trans (hg7.below hw6 (fun j hj => (own_lt_by HO6.out j hj).1))); have z0 := (HL7.out.cell (p := ⟨gx, 0, none⟩) hgx1).trans HY0.out; have z1 := (HL7.out.cell (p := ⟨gx, 1, none⟩) hgx1).trans HY1.out)
        have HO7 : Hid (OwnBys w7 w1.heap.size (.slice A7 8 c7) ((leZ r 4 ++ leZ (k : Int) 2) ++ leZ 24 2)) := ho7
        have hw7 := HL7.out.size
        clear ho7 hg7
        clear z0 z1
        have HB7 := Lib.hid (HB1.out.trans (HL7.out.mono hs1))
        refine (RLONG_any r (some ad) k c xss _ B (by omega) (hh.out.below (HB7.out.mono hB) (Nat.le_refl _)) hn0).mono ?_
        rw [HM.out]
        rintro e w8 ⟨rfl, hb8⟩
        have HL8 := Lib.hid (HL7.out.trans (hb8.mono hw7))
        have HO8 := Lib.hid (HO7.out.below hb8)
        have hw8 := HL8.out.size
        clear hb8
        go_wp2_with fail
        refine (RLITTLEZ_any (m : Int) 4 (by omega) (by omega) (by omega) _).mono ?_
        rintro e w9 ⟨v9, rfl, hl9, hb9⟩
        obtain ⟨L9, d9, rfl, _, _⟩ := hl9.form
        have hs9 := hb9.size
        have HL9 := Lib.hid (HL8.out.trans (hb9.mono HL8.out.size))
        have hw9 := HL9.out.size
        rw [leZ_length] at hl9 ⊢
        have HR9 := Lib.hid hl9.at_
        have HO9 := Lib.hid (HO8.out.below hb9)
        clear hl9 hb9
        go_wp2_with (with_reducible refine wpList_app_bys rfl (.tmp 72) (.tmp 75) rfl w1.heap.size A7 8 c7 _ rfl HO9.out w9.heap.size L9 4 d9 _ rfl HR9.out (by omega) hw9 ?_; intro A10 c10 w10 ho10 hg10; have HL10 := Lib.hid (HL9.out.trans (hg10.below hw9 (fun j hj => (own_lt_by HO9.out j hj).1))); have z0 := (HL10.out.cell (p := ⟨gx, 0, none⟩) hgx1).trans HY0.out; have z1 := (HL10.out.cell (p := ⟨gx, 1, none⟩) hgx1).trans HY1.out)
        have HO10 : Hid (OwnBys w10 w1.heap.size (.slice A10 12 c10) (formB r k 24 m)) := ho10
        have hw10 := HL10.out.size
        clear ho10 hg10
        obtain ⟨Y, gc, hY, hgc, HY, HBY, HSY⟩ := one_box w10 (.cells #[.string ⟨#[102, 111, 114, 109]⟩, .slice A10 12 c10] 42)
        rw [← hgc, ← hY]
        have hgcw : w1.heap.size ≤ gc := by rw [hgc]; exact hw10
        have HC0 := Lib.hid (cks_one (nm := [102, 111, 114, 109]) HY.out hgcw (HO10.out.below HBY.out).inB)
        have HLY := Lib.hid (HL10.out.trans (HBY.out.mono hw10))
        obtain ⟨ck0, hck⟩ : ∃ ck0 : Ck, (([102, 111, 114, 109] : By), formB r k 24 m) = ck0 := ⟨_, rfl⟩
        have HCK := Lib.hid hck
        rw [hck] at HC0
        clear hck hY hgc HY HBY HSY HO10 HL10 z0 z1 HR9 HO9 HO8 HO7 HO6 HR6 HO5 HO4 HR4 HO3
        go_loopw [12, 13] (fun s i wr => ∃ (a : Nat) (A1 : Option Addr) (n1 c1 : Nat) (rows : List Value), a ≤ nn ∧ i = .int .i64 a ∧ s = .slice A1 n1 c1 ∧ n1 ≤ a + 1 ∧ Hid (CksR wr w1.heap.size (.slice A1 n1 c1) (ck0 :: (l.take a).map noteC) rows) ∧ Hid (notesF [] l = notesF (l.take a) (l.drop a)) ∧ Hid (Below w1.heap.size w1 wr)) (fun _ i _ => nn - (intOf i).toNat)
        case atStart => exact ⟨0, _, 1, 1, _, Nat.zero_le _, rfl, rfl, by omega, HC0, rfl, HLY⟩
        case round =>
          clear HC0 HLY
          obtain ⟨wa, rfl⟩ : ∃ x : World, x = wr := ⟨_, rfl⟩
          obtain ⟨a, A1, n1, c1, rows, ha, rfl, rfl, hn1, hC, hF, hb⟩ := hrel
          have hsz := hb.out.size
          have HBw := Lib.hid (HB1.out.trans (hb.out.mono hs1))
          by_cases hal : a < nn
          · have hai : (a : Int) < (nn : Int) := by omega
            have ha0 : (0 : Int) ≤ (a : Int) := by omega
            have haL : Hid (a < l.length) := by show _ < _; rw [HNL.out]; exact hal
            obtain ⟨b, o, rfl, hbB, q0, q1⟩ := (HN.out.below (HBw.out.mono hB) (Nat.le_refl _)).2 a hal
            obtain ⟨⟨s, t⟩, hst⟩ : ∃ p, nxOf l a = p := ⟨_, rfl⟩
            have hzz := hz.out _ (nx_mem haL.out)
            have HD := Lib.hid (drop_nx haL.out)
            have HTK := Lib.hid (take_nx haL.out)
            rw [hst] at q0 q1 hzz HD HTK
            dsimp only at q0 q1 hzz
            obtain ⟨hz1, hz2⟩ := hzz
            unfold maxLen at hz1 hz2
            have HQ0 := Lib.hid q0
            have HQ1 := Lib.hid q1
            obtain ⟨bn, hbn⟩ : ∃ bn, nameN s.data.toList = bn := ⟨_, rfl⟩
            obtain ⟨bt, hbt⟩ : ∃ bt, textN t.data.toList = bt := ⟨_, rfl⟩
            have HBN := Lib.hid hbn
            have HBT := Lib.hid hbt
            have HFE : Hid (∀ f : Int, noteX (s, t) = f → f ≠ 0 → Z = ([], f)) := fun f hf hf0 => by
              have e7 : notesF [] l = f := by
                rw [hF.out, HD.out]
                unfold notesF
                rw [if_pos (by rw [hf]; exact hf0)]
                exact hf
              rw [← HZ2.out, if_pos (by rw [e7]; exact hf0), e7]
            have hbBw : b < wa.heap.size := Nat.lt_of_lt_of_le hbB (Nat.le_trans hBs hsz)
            clear hst hbn hbt
            go_wp2_with fail
            refine (RISNAME_any s (by omega) _).mono ?_
            rw [HBN.out]
            rintro e w3 ⟨rfl, rfl⟩
            cases bn with
            | false =>
              have HV := Lib.hid (HFE.out 5 (by unfold noteX noteS; rw [HBN.out]; rfl) (by decide))
              go_wp2_with fail
              refine bodyPost_ret (v := .tuple #[.slice none 0 0, .int .i64 5]) (by simp [results, Tryd.results6, go_sem]) rfl ?_
              rw [HV.out]
              exact OutY.none HBw.out
            | true =>
              go_wp2_with fail
              refine (ISTEXT_any t (by omega) _).mono ?_
              rw [HBT.out]
              rintro e w3 ⟨rfl, rfl⟩
              cases bt with
              | false =>
                have HV := Lib.hid (HFE.out 3 (by unfold noteX noteS; rw [HBN.out, HBT.out]; rfl) (by decide))
                go_wp2_with fail
                refine bodyPost_ret (v := .tuple #[.slice none 0 0, .int .i64 3]) (by simp [results, Tryd.results6, go_sem]) rfl ?_
                rw [HV.out]
                exact OutY.none HBw.out
              | true =>
                by_cases h200 : 200 < t.size
                · have hi2 : (200 : Int) < (t.size : Int) := by omega
                  have HV := Lib.hid (HFE.out 2 (by unfold noteX noteS; rw [HBN.out, HBT.out, if_neg (by simp), if_neg (by simp), if_pos (by rw [len_dat]; exact h200)]) (by decide))
                  go_wp2_with fail
                  refine bodyPost_ret (v := .tuple #[.slice none 0 0, .int .i64 2]) (by simp [results, Tryd.results6, go_sem]) rfl ?_
                  rw [HV.out]
                  exact OutY.none HBw.out
                · have hi2 : ¬ (200 : Int) < (t.size : Int) := by omega
                  have HX0 : Hid (noteX (s, t) = 0) := by show _ = _; unfold noteX noteS; rw [HBN.out, HBT.out, if_neg (by simp), if_neg (by simp), if_neg (by rw [len_dat]; exact h200)]
                  go_wp2_with fail
                  clear q0 q1
                  go_loopw [14] (fun j wr => ∃ j9 : Nat, j9 ≤ a ∧ j = .int .i64 j9 ∧ Hid (∀ x, x < j9 → (nxOf l x).1.data.toList ≠ s.data.toList) ∧ Hid (Below wa.heap.size wa wr)) (fun j _ => a - (intOf j).toNat)
                  case atStart => exact ⟨0, Nat.zero_le _, rfl, (fun x hx => by omega), Below.refl _ _⟩
                  case round =>
                    obtain ⟨wj, rfl⟩ : ∃ x : World, x = wr := ⟨_, rfl⟩
                    obtain ⟨j9, hj9, rfl, hJ, hb9⟩ := hrel
                    have q0 := (hb9.out.cell (p := ⟨b, o + a * 2, none⟩) hbBw).trans HQ0.out
                    have q1 := (hb9.out.cell (p := ⟨b, o + a * 2 + 1, none⟩) hbBw).trans HQ1.out
                    have hj0 : (0 : Int) ≤ (j9 : Int) := by omega
                    by_cases hjl : j9 < a
                    · have hji : (j9 : Int) < (a : Int) := by omega
                      have hjn : (j9 : Int) < (nn : Int) := by omega
                      obtain ⟨b', o', e', hbB', p0, p1⟩ := (HN.out.below (HBw.out.mono hB) (Nat.le_refl _)).2 j9 (by omega)
                      injection e' with e'
                      injection e' with e1 e2 _
                      subst e1 e2
                      have p0' := (hb9.out.cell (p := ⟨b, o + j9 * 2, none⟩) hbBw).trans p0
                      obtain ⟨s2, hs2⟩ : ∃ s2, (nxOf l j9).1 = s2 := ⟨_, rfl⟩
                      have HS2 := Lib.hid hs2
                      rw [hs2] at p0'
                      clear hs2 p0 p1
                      by_cases heq : s2.data.toList = s.data.toList
                      · have hq9 : (s2.toList == s.toList) = true := by rw [ByteArray.toList_eq, ByteArray.toList_eq, heq]; simp
                        have HV : Hid (Z = ([], 7)) := by
                          show _ = _
                          have e7 : notesF [] l = 7 := by
                            rw [hF.out, HD.out]
                            unfold notesF
                            rw [if_neg (show ¬ noteX (s, t) ≠ 0 by rw [HX0.out]; simp), if_pos (isIn_yes hjl (by rw [HNL.out]; omega) (by rw [HS2.out]; exact heq))]
                          rw [← HZ2.out, if_pos (by rw [e7]; decide), e7]
                        clear heq
                        go_wp2_with fail
                        go_quiet (fail)
                        go_wp2_with fail
                        refine bodyPost_ret (v := .tuple #[.slice none 0 0, .int .i64 7]) (by simp [results, Tryd.results6, go_sem]) rfl ?_
                        rw [HV.out]
                        exact OutY.none (belowN (HBw.out.trans (hb9.out.mono HBw.out.size)) nq)
                      · have hq9 : (s2.toList == s.toList) = false := by rw [ByteArray.toList_eq, ByteArray.toList_eq]; simpa using heq
                        have HJ2 : Hid (∀ x, x < j9 + 1 → (nxOf l x).1.data.toList ≠ s.data.toList) := fun x hx => by
                          by_cases hxj : x = j9
                          · rw [hxj, HS2.out]; exact heq
                          · exact hJ.out x (by omega)
                        clear heq
                        go_wp2_with fail
                        go_quiet (fail)
                        go_wp2_with fail
                        go_roundw
                        case rel => exact ⟨j9 + 1, by omega, by go_num, HJ2, belowN hb9.out nq⟩
                        case measure => simp [intOf]; omega
                    · obtain rfl : j9 = a := by omega
                      have hji : ¬ (j9 : Int) < (j9 : Int) := by omega
                      have HIN := Lib.hid (isIn_no hJ.out)
                      obtain ⟨_, _, hs40, ht200⟩ := noteS_zero (a := s.data.toList) (b := t.data.toList) HX0.out
                      rw [len_dat] at hs40 ht200
                      obtain ⟨st, hst⟩ : ∃ st : ByteArray, s ++ ⟨#[0]⟩ ++ t = st := ⟨_, rfl⟩
                      have hst2 : st.data.toList = (s.data.toList ++ [0]) ++ t.data.toList := by rw [← hst]; simp
                      have hst3 : st.size ≤ 241 := by
                        rw [← len_dat, hst2]
                        simp only [List.length_append, List.length_singleton, len_dat]
                        omega
                      obtain ⟨V, C, hrun, HCC9, HIV, HBV⟩ := bytes_new st wj.drew (by unfold maxLen; omega)
                      have HST2 := Lib.hid hst2
                      have hrun2 : (convert 9 26 (.string (s ++ ⟨#[0]⟩ ++ t))).run Tryd.prog wj.drew = .ok (.slice (some ⟨wj.drew.heap.size, 0, none⟩) st.size C) V := by rw [hst]; exact hrun
                      have HBWV : Hid (Below wj.heap.size wj V) := (Below.refl _ wj).drew.trans HBV.out
                      have HLj := Lib.hid (hb.out.trans (hb9.out.mono hsz))
                      have HLV := Lib.hid (HLj.out.trans (HBWV.out.mono HLj.out.size))
                      have HCV := Lib.hid ((hC.out.below hb9.out).below HBWV.out)
                      have hlen1 : n1 = ((l.take j9).map noteC).length + 1 := by
                        obtain ⟨A', c', e, _, _⟩ := own_form hC.out.outer
                        injection e
                      have hs6 := HLV.out.size
                      have HOV : Hid (V.ownsRow w1.heap.size 42 2 (.slice A1 n1 c1) n1 (cksC (ck0 :: (l.take j9).map noteC) rows)) := by
                        have := HCV.out.outer
                        rw [List.length_cons, ← hlen1] at this
                        exact this
                      have HLN := Lib.hid hlen1
                      have hjd : wj.drew.heap.size = wj.heap.size := rfl
                      have HSS : Hid (∀ x9 : World, Below w1.heap.size wj x9 → x9.cell? ⟨b, o + j9 * 2, none⟩ = some (.string s) ∧ x9.cell? ⟨b, o + j9 * 2 + 1, none⟩ = some (.string t)) := fun x9 hb8 => ⟨(hb8.cell (p := ⟨b, o + j9 * 2, none⟩) (by dsimp only; omega)).trans q0, (hb8.cell (p := ⟨b, o + j9 * 2 + 1, none⟩) (by dsimp only; omega)).trans q1⟩
                      clear hlen1 hst hst2 hrun hb9 hb hC
                      go_upto_region 35 with fail
                      clear q0 q1
                      refine wp_region_text 17 (fun x9 => x9.cell? ⟨b, o + j9 * 2, none⟩ = some (.string s) ∧ x9.cell? ⟨b, o + j9 * 2 + 1, none⟩ = some (.string t)) (by kernel_rfl) (by kernel_rfl) ?_
                      have hS := HSS.out wj.drew (Below.refl _ _).drew
                      refine HT.take (i := 0) (oi := _) (v := ?_) rfl (by kernel_rfl) (by kernel_rfl) (by decide) (fun _ _ _ h => h) (Or.inl ⟨by rfl, ?_⟩) hS ?_
                      rotate_left
                      · intro wz
                        go_simp
                        try with_reducible rfl
                      simp only [List.getElem_toArray, List.getElem_cons_succ, List.getElem_cons_zero, Act.put, List.setIfInBounds_toArray, List.set_cons_zero, List.set_cons_succ]
                      refine HT.take (i := 1) (oi := _) (v := ?_) rfl (by kernel_rfl) (by kernel_rfl) (by decide) (fun _ _ _ h => h) (Or.inl ⟨by rfl, ?_⟩) hS ?_
                      rotate_left
                      · intro wz
                        go_simp
                        try with_reducible rfl
                      simp only [List.getElem_toArray, List.getElem_cons_succ, List.getElem_cons_zero, Act.put, List.setIfInBounds_toArray, List.set_cons_zero, List.set_cons_succ]
                      refine HT.take (i := 2) (oi := _) (v := ?_) rfl (by kernel_rfl) (by kernel_rfl) (by decide) (fun _ _ _ h => h) (Or.inl ⟨by rfl, ?_⟩) hS ?_
                      rotate_left
                      · intro wz
                        go_simp
                        try with_reducible rfl
                      simp only [List.getElem_toArray, List.getElem_cons_succ, List.getElem_cons_zero, Act.put, List.setIfInBounds_toArray, List.set_cons_zero, List.set_cons_succ]
                      refine HT.take (i := 3) (oi := _) (v := ?_) rfl (by kernel_rfl) (by kernel_rfl) (by decide) (fun _ _ _ h => h) (Or.inl ⟨by rfl, ?_⟩) hS ?_
                      rotate_left
                      · intro wz
                        go_simp
                        try with_reducible rfl
                      simp only [List.getElem_toArray, List.getElem_cons_succ, List.getElem_cons_zero, Act.put, List.setIfInBounds_toArray, List.set_cons_zero, List.set_cons_succ]
                      refine HT.take (i := 4) (oi := _) (v := ?_) rfl (by kernel_rfl) (by kernel_rfl) (by decide) (fun _ _ _ h => h) (Or.inl ⟨by rfl, ?_⟩) hS ?_
                      rotate_left
                      · intro wz
                        go_simp
                        try with_reducible rfl
                      simp only [List.getElem_toArray, List.getElem_cons_succ, List.getElem_cons_zero, Act.put, List.setIfInBounds_toArray, List.set_cons_zero, List.set_cons_succ]
                      refine HT.load (i := 5) (oi := _) (v := ?_) rfl (by kernel_rfl) (by kernel_rfl) (by decide) (fun _ _ _ h => h) (by kernel_rfl) (Or.inl ⟨by rfl, ?_⟩) hS ?_
                      rotate_left
                      · intro wz hwz
                        try dsimp only at hwz
                        go_simp
                        try with_reducible rfl
                      simp only [List.getElem_toArray, List.getElem_cons_succ, List.getElem_cons_zero, Act.put, List.setIfInBounds_toArray, List.set_cons_zero, List.set_cons_succ]
                      refine HT.take (i := 6) (oi := _) (v := (.string (s ++ ⟨#[0]⟩))) rfl (by kernel_rfl) (by kernel_rfl) (by decide) (fun _ _ _ h => h) (Or.inl ⟨by rfl, ?_⟩) hS ?_
                      · intro wz
                        go_simp
                        first | rfl | omega | (rw [if_neg (by omega)])
                      simp only [List.getElem_toArray, List.getElem_cons_succ, List.getElem_cons_zero, Act.put, List.setIfInBounds_toArray, List.set_cons_zero, List.set_cons_succ]
                      refine HT.take (i := 7) (oi := _) (v := ?_) rfl (by kernel_rfl) (by kernel_rfl) (by decide) (fun _ _ _ h => h) (Or.inl ⟨by rfl, ?_⟩) hS ?_
                      rotate_left
                      · intro wz
                        go_simp
                        try with_reducible rfl
                      simp only [List.getElem_toArray, List.getElem_cons_succ, List.getElem_cons_zero, Act.put, List.setIfInBounds_toArray, List.set_cons_zero, List.set_cons_succ]
                      refine HT.take (i := 8) (oi := _) (v := ?_) rfl (by kernel_rfl) (by kernel_rfl) (by decide) (fun _ _ _ h => h) (Or.inl ⟨by rfl, ?_⟩) hS ?_
                      rotate_left
                      · intro wz
                        go_simp
                        try with_reducible rfl
                      simp only [List.getElem_toArray, List.getElem_cons_succ, List.getElem_cons_zero, Act.put, List.setIfInBounds_toArray, List.set_cons_zero, List.set_cons_succ]
                      refine HT.take (i := 9) (oi := _) (v := ?_) rfl (by kernel_rfl) (by kernel_rfl) (by decide) (fun _ _ _ h => h) (Or.inl ⟨by rfl, ?_⟩) hS ?_
                      rotate_left
                      · intro wz
                        go_simp
                        try with_reducible rfl
                      simp only [List.getElem_toArray, List.getElem_cons_succ, List.getElem_cons_zero, Act.put, List.setIfInBounds_toArray, List.set_cons_zero, List.set_cons_succ]
                      refine HT.take (i := 10) (oi := _) (v := ?_) rfl (by kernel_rfl) (by kernel_rfl) (by decide) (fun _ _ _ h => h) (Or.inl ⟨by rfl, ?_⟩) hS ?_
                      rotate_left
                      · intro wz
                        go_simp
                        try with_reducible rfl
                      simp only [List.getElem_toArray, List.getElem_cons_succ, List.getElem_cons_zero, Act.put, List.setIfInBounds_toArray, List.set_cons_zero, List.set_cons_succ]
                      refine HT.load (i := 11) (oi := _) (v := ?_) rfl (by kernel_rfl) (by kernel_rfl) (by decide) (fun _ _ _ h => h) (by kernel_rfl) (Or.inl ⟨by rfl, ?_⟩) hS ?_
                      rotate_left
                      · intro wz hwz
                        try dsimp only at hwz
                        go_simp
                        try with_reducible rfl
                      simp only [List.getElem_toArray, List.getElem_cons_succ, List.getElem_cons_zero, Act.put, List.setIfInBounds_toArray, List.set_cons_zero, List.set_cons_succ]
                      refine HT.take (i := 12) (oi := _) (v := (.string (s ++ ⟨#[0]⟩ ++ t))) rfl (by kernel_rfl) (by kernel_rfl) (by decide) (fun _ _ _ h => h) (Or.inl ⟨by rfl, ?_⟩) hS ?_
                      · intro wz
                        go_simp
                        first | rfl | omega | (rw [if_neg (by omega)])
                      simp only [List.getElem_toArray, List.getElem_cons_succ, List.getElem_cons_zero, Act.put, List.setIfInBounds_toArray, List.set_cons_zero, List.set_cons_succ]
                      refine HT.one (i := 13) (o := _) rfl (by kernel_rfl) (by decide) (by rfl) ?_
                      intro K hK
                      go_simp
                      have hsj := HLj.out.size
                      have hS9 := HSS.out V (HBWV.out.mono hsj)
                      refine hK.out _ _ hS9 ?_
                      clear hK K hS hrun2
                      have hS := hS9
                      clear hS9
                      try simp only [List.getElem_toArray, List.getElem_cons_succ, List.getElem_cons_zero, Act.put, List.setIfInBounds_toArray, List.set_cons_zero, List.set_cons_succ]
                      refine HT.take (i := 14) (oi := _) (v := ?_) rfl (by kernel_rfl) (by kernel_rfl) (by decide) (fun _ _ _ h => h) (Or.inl ⟨by rfl, ?_⟩) hS ?_
                      rotate_left
                      · intro wz
                        go_simp
                        try with_reducible rfl
                      simp only [List.getElem_toArray, List.getElem_cons_succ, List.getElem_cons_zero, Act.put, List.setIfInBounds_toArray, List.set_cons_zero, List.set_cons_succ]
                      refine HT.one (i := 15) (o := _) rfl (by kernel_rfl) (by decide) (by rfl) ?_
                      intro K hK
                      go_simp
                      have hS9 := HSS.out (V.alloc (.cells #[.string ⟨#[110, 111, 116, 101]⟩, .slice (some ⟨wj.heap.size, 0, none⟩) st.size C] 42)) ((HBWV.out.mono hsj).alloc hs6 _)
                      refine hK.out _ _ hS9 ?_
                      clear hK K hS
                      have hS := hS9
                      clear hS9
                      try simp only [List.getElem_toArray, List.getElem_cons_succ, List.getElem_cons_zero, Act.put, List.setIfInBounds_toArray, List.set_cons_zero, List.set_cons_succ]
                      refine HT.one (i := 16) (o := _) rfl (by kernel_rfl) (by decide) (by rfl) ?_
                      intro K hK
                      refine wp_push_ck (.tmp 123) (.tmp 138) rfl w1.heap.size A1 n1 c1 (cksC (ck0 :: (l.take j9).map noteC) rows) (.string ⟨#[110, 111, 116, 101]⟩) (.slice (some ⟨wj.heap.size, 0, none⟩) st.size C) rfl rfl V.heap.size rfl rfl rfl HOV.out (by omega) hs6 ?_
                      intro g8 cap8 w8 ho8 hg8
                      have HC8 : Hid (CksR w8 w1.heap.size (.slice (some ⟨g8, 0, none⟩) (n1 + 1) cap8) (ck0 :: (l.take (j9 + 1)).map noteC) (rows ++ [.slice (some ⟨wj.heap.size, 0, none⟩) st.size C])) := by
                        have hbv : Below V.heap.size V (V.alloc (.cells #[.string ⟨#[110, 111, 116, 101]⟩, .slice (some ⟨wj.heap.size, 0, none⟩) st.size C] 42)) := (Below.refl _ V).alloc (Nat.le_refl _) _
                        have hin : InB (V.alloc (.cells #[.string ⟨#[110, 111, 116, 101]⟩, .slice (some ⟨wj.heap.size, 0, none⟩) st.size C] 42)) (.slice (some ⟨wj.heap.size, 0, none⟩) st.size C) (noteC (s, t)).2 := by
                          show InB _ _ ((s.data.toList ++ [0]) ++ t.data.toList)
                          rw [← HST2.out]
                          exact InB.below HIV.out hbv
                        have := CksR.push (c := noteC (s, t)) HCV.out hbv hin (by rw [List.length_cons, ← HLN.out]; exact ho8) hg8
                        show CksR _ _ _ _ _
                        rw [HTK.out, List.map_append]
                        exact this
                      have HF8 : Hid (notesF [] l = notesF (l.take (j9 + 1)) (l.drop (j9 + 1))) := by
                        show _ = _
                        rw [hF.out, HD.out, HTK.out]
                        conv => lhs; unfold notesF
                        rw [if_neg (show ¬ noteX (s, t) ≠ 0 by rw [HX0.out]; simp), if_neg (by rw [HIN.out]; decide)]
                      have HGV := Lib.hid (((Below.refl w1.heap.size V).alloc hs6 (.cells #[.string ⟨#[110, 111, 116, 101]⟩, .slice (some ⟨wj.heap.size, 0, none⟩) st.size C] 42)).grown hg8 (by simp; omega) (fun b9 e => (own_lt HOV.out e).1))
                      have HL8 := Lib.hid (HLV.out.trans HGV.out)
                      have hS9 := HSS.out w8 ((HBWV.out.mono hsj).trans HGV.out)
                      refine hK.out _ _ hS9 ?_
                      clear hK K hS ho8 hg8
                      have hS := hS9
                      clear hS9
                      try simp only [List.getElem_toArray, List.getElem_cons_succ, List.getElem_cons_zero, Act.put, List.setIfInBounds_toArray, List.set_cons_zero, List.set_cons_succ]
                      refine HT.done (by kernel_rfl) ?_
                      clear hS
                      simp only [List.drop_succ_cons, List.drop_zero]
                      go_wp2_with fail
                      go_roundw
                      case rel => exact ⟨j9 + 1, _, n1 + 1, cap8, _, by omega, by go_num, rfl, by omega, HC8, HF8, HL8⟩
                      case measure => simp [intOf]; omega
          · obtain rfl : a = nn := by omega
            have hai : ¬ (a : Int) < (a : Int) := by omega
            rw [List.take_of_length_le (by rw [HNL.out]; exact Nat.le_refl _)] at hC hF
            have HGD : Hid (packS (cksB r xss 24 l) = Z) := by
              show _ = _
              have e0 : notesF [] l = 0 := by
                rw [hF.out, List.drop_of_length_le (by rw [HNL.out]; exact Nat.le_refl _)]
                rfl
              rw [← HZ2.out, if_neg (by rw [e0]; decide)]
            have hall := Lib.hid (notesF_zero (l := l) (pre := []) (by
              rw [hF.out, List.drop_of_length_le (by rw [HNL.out]; exact Nat.le_refl _)]
              rfl))
            clear hF HZ2
            have HLa := hb
            clear hb
            go_wp2_with fail
            go_loopw [15, 16] (fun s i wr => ∃ (i9 : Nat) (A5 : Option Addr) (n5 c5 : Nat), i9 ≤ m ∧ i = .int .i64 i9 ∧ s = .slice A5 n5 c5 ∧ n5 ≤ 48 * i9 ∧ Hid (OwnBys wr wa.heap.size (.slice A5 n5 c5) (dataB 24 xss i9)) ∧ Hid (Below wa.heap.size wa wr)) (fun _ i _ => m - (intOf i).toNat)
            case atStart => exact ⟨0, none, 0, 0, Nat.zero_le _, rfl, rfl, by omega, World.ownsRow_nil _ _ _ _, Below.refl _ _⟩
            case round =>
              obtain ⟨wq, rfl⟩ : ∃ x : World, x = wr := ⟨_, rfl⟩
              obtain ⟨i9, A5, n5, c5, hi9, rfl, rfl, hn5, hO, hb⟩ := hrel
              have HLq := Lib.hid (HLa.out.trans (hb.out.mono hsz))
              have HBq := Lib.hid (HB1.out.trans (HLq.out.mono hs1))
              have z0 := (HLq.out.cell (p := ⟨gx, 0, none⟩) hgx1).trans HY0.out
              have z1 := (HLq.out.cell (p := ⟨gx, 1, none⟩) hgx1).trans HY1.out
              have hsq1 := HLq.out.size
              have hsq2 := hb.out.size
              have hi0 : (0 : Int) ≤ (i9 : Int) := by omega
              go_wp2_with fail
              refine (RLONG_any r (some ad) k c xss _ B (by omega) (hh.out.below (HBq.out.mono hB) (Nat.le_refl _)) hn0).mono ?_
              rw [HM.out]
              rintro e w5 ⟨rfl, hb5⟩
              have HO5 := Lib.hid (hO.out.below hb5)
              have HB5 := Lib.hid (hb.out.trans (hb5.mono hsq2))
              have HL5 := Lib.hid (HLa.out.trans (HB5.out.mono hsz))
              clear hb5 hO hb z0 z1 HLq HBq
              by_cases hil : i9 < m
              · have hii : (i9 : Int) < (m : Int) := by omega
                go_wp2_with fail
                go_loopw [15, 17] (fun s t wr => ∃ (a9 : Nat) (A6 : Option Addr) (n6 c6 : Nat), a9 ≤ k ∧ t = .int .i64 a9 ∧ s = .slice A6 n6 c6 ∧ n6 ≤ 48 * i9 + 3 * a9 ∧ Hid (OwnBys wr wa.heap.size (.slice A6 n6 c6) (dataB 24 xss i9 ++ (xss.take a9).flatMap (fun l => smpC 24 (elOf l i9)))) ∧ Hid (Below wa.heap.size wa wr)) (fun _ t _ => k - (intOf t).toNat)
                case atStart => exact ⟨0, A5, n5, c5, Nat.zero_le _, rfl, rfl, by omega, by rw [List.take_zero, List.flatMap_nil, List.append_nil]; exact HO5, HB5⟩
                case round =>
                  clear HO5 HB5 HL5
                  obtain ⟨wt, rfl⟩ : ∃ x : World, x = wr := ⟨_, rfl⟩
                  obtain ⟨a9, A6, n6, c6, ha9, rfl, rfl, hn6, hO, hb⟩ := hrel
                  have ha90 : (0 : Int) ≤ (a9 : Int) := by omega
                  have HLt := Lib.hid (HLa.out.trans (hb.out.mono hsz))
                  have HBt := Lib.hid (HB1.out.trans (HLt.out.mono hs1))
                  have z1 := (HLt.out.cell (p := ⟨gx, 1, none⟩) hgx1).trans HY1.out
                  have hst1 := HLt.out.size
                  have hst9 := hb.out.size
                  by_cases hal9 : a9 < k
                  · have hai9 : (a9 : Int) < (k : Int) := by omega
                    have hax : Hid (a9 < xss.length) := by show _ < _; rw [hl.out]; exact hal9
                    have him : Hid (i9 < len0 xss) := by show _ < _; rw [HM.out]; exact hil
                    obtain ⟨A', n', c', hadB, hcell, hn', hc', hi'⟩ := (hh.out.below (HBt.out.mono hB) (Nat.le_refl _)).row hal9
                    obtain rfl : m = n' := ((hok.out.row hax.out).1.trans HM.out).symm.trans hi'.1
                    obtain ⟨ad', rfl⟩ := hi'.addr (by omega)
                    have hcell2 := (hi'.at_ hil).2
                    obtain ⟨y1, y2⟩ := hok.out.el hax.out him.out
                    have HST := Lib.hid (colB_step (b := 24) (i := i9) hax.out)
                    obtain ⟨y, hy⟩ : ∃ y, elOf (rowOf xss a9) i9 = y := ⟨_, rfl⟩
                    rw [hy] at hcell2 y1 y2 HST
                    unfold maxLen at hc'
                    clear hy hi'
                    have HSM : Hid (smpC 24 y = leZ y 3) := by show _ = _; simp [smpC]
                    go_wp2_with fail
                    refine (RLITTLEZ_any y 3 (by omega) (by omega) (by omega) _).mono ?_
                    rintro e w6 ⟨v6, rfl, hl6, hb6⟩
                    obtain ⟨L6, d6, rfl, _, _⟩ := hl6.form
                    rw [leZ_length] at hl6 ⊢
                    have HO6 := Lib.hid (hO.out.below hb6)
                    have HR6 := Lib.hid hl6.at_
                    have hw6 := Nat.le_trans hst9 hb6.size
                    have HB6 := Lib.hid (hb.out.trans (hb6.mono hst9))
                    clear hl6 hb6
                    go_wp2_with (with_reducible refine wpList_app_bys rfl (.tmp 153) (.tmp 167) rfl wa.heap.size A6 n6 c6 _ rfl HO6.out w6.heap.size L6 3 d6 _ rfl HR6.out (by omega) hw6 ?_; intro A7 c7 w7 ho7 hg7)
                    rw [← HSM.out, List.append_assoc, ← HST.out] at ho7
                    have HO7 := Lib.hid ho7
                    have HB7 := Lib.hid (HB6.out.trans (hg7.below hw6 (fun j hj => (own_lt_by HO6.out j hj).1)))
                    clear ho7 hg7
                    go_roundw
                    case rel => exact ⟨a9 + 1, A7, _, c7, by omega, by go_num, rfl, by omega, HO7, HB7⟩
                    case measure => simp [intOf]; omega
                  · obtain rfl : a9 = k := by omega
                    have hai9 : ¬ (a9 : Int) < (a9 : Int) := by omega
                    have HO7 := Lib.hid (by have := hO.out; rw [colB_all hl.out, ← dataB_step] at this; exact this)
                    go_wp2_with fail
                    go_roundw
                    case rel => exact ⟨i9 + 1, A6, n6, c6, by omega, by go_num, rfl, by omega, HO7, hb⟩
                    case measure => simp [intOf]; omega
              · obtain rfl : i9 = m := by omega
                have hii : ¬ (i9 : Int) < (i9 : Int) := by omega
                have hlen1 : n1 = (l.map noteC).length + 1 := by
                  obtain ⟨A', c', e, _, _⟩ := own_form hC.out.outer
                  injection e
                have HCq := Lib.hid (hC.out.below HB5.out)
                have HOV : Hid (w5.ownsRow w1.heap.size 42 2 (.slice A1 n1 c1) n1 (cksC (ck0 :: l.map noteC) rows)) := by
                  have := HCq.out.outer
                  rw [List.length_cons, ← hlen1] at this
                  exact this
                have HLN := Lib.hid hlen1
                have hsq : w1.heap.size ≤ w5.heap.size := HL5.out.size
                obtain ⟨A5', c5', eq5, hq1, hq2⟩ := HO5.out.form
                have HDI := Lib.hid HO5.out.inB
                have hdl : List.length (dataB 24 xss i9) ≤ 48 * i9 := by have := own_len_by HO5.out; omega
                clear hlen1 eq5 hq1 hq2
                go_wp2_with (with_reducible refine wpList_push_ck rfl (.tmp 169) (.tmp 172) rfl w1.heap.size A1 n1 c1 (cksC (ck0 :: l.map noteC) rows) (.string ⟨#[100, 97, 116, 97]⟩) (.slice A5 n5 c5) rfl rfl w5.heap.size rfl rfl rfl HOV.out (by omega) hsq ?_; intro g8 cap8 w8 ho8 hg8)
                have HE : Hid (cksB r xss 24 l = (ck0 :: l.map noteC) ++ [([100, 97, 116, 97], dataB 24 xss i9)]) := by
                  show _ = _
                  unfold cksB
                  rw [hl.out, HM.out, HCK.out]
                have hbv : Below w5.heap.size w5 (w5.alloc (.cells #[.string ⟨#[100, 97, 116, 97]⟩, .slice A5 n5 c5] 42)) := (Below.refl _ w5).alloc (Nat.le_refl _) _
                have hC8 := CksR.push (c := (([100, 97, 116, 97] : By), dataB 24 xss i9)) HCq.out hbv (HDI.out.below hbv) (by rw [List.length_cons, ← HLN.out]; exact ho8) hg8
                rw [← HE.out] at hC8
                have HA8 := Lib.hid hC8.at_
                obtain ⟨A9, c9, e9, hf1, hf2⟩ := own_form ho8
                injection e9 with _ _ e9
                subst e9
                have hwq : w.heap.size ≤ w5.heap.size := Nat.le_trans hs1 hsq
                have HB8 := Lib.hid (((HB1.out.trans (HL5.out.mono hs1)).alloc hwq (.cells #[.string ⟨#[100, 97, 116, 97]⟩, .slice A5 n5 c5] 42)).grown hg8 (by simp; omega) (fun j e => Nat.le_trans hs1 (own_lt HOV.out e).1))
                have hd9 : Hid (∀ c ∈ cksB r xss 24 l, c.2.length ≤ 140737488351232) := fun c9 hc9 => by
                  rw [HE.out] at hc9
                  simp only [List.mem_append, List.mem_cons, List.mem_map, List.not_mem_nil, or_false] at hc9
                  rcases hc9 with (rfl | ⟨x, hx, rfl⟩) | rfl
                  · rw [← HCK.out]; simp [formB, leZ_length]
                  · have := noteC_len (hall.out x hx); omega
                  · dsimp only; omega
                clear ho8 hg8 hC8 hbv HOV HCq HDI
                refine (RPACK_any (some ⟨g8, 0, none⟩) (n1 + 1) cap8 (cksB r xss 24 l) hd9 ⟨hf1, hf2⟩ _ w8.heap.size (Nat.le_refl _) HA8.out).mono ?_
                rw [HGD.out]
                rintro e w9 ⟨v, rfl, hO9, hb9⟩
                have hw8 := HB8.out.size
                have HO9 := Lib.hid (own_base hO9 hw8)
                have HB9 := Lib.hid (HB8.out.trans (hb9.mono hw8))
                clear hO9 hb9 HA8 HB8
                go_wp2_with fail
                refine bodyPost_ret (v := .tuple #[v, .int .i64 Z.2]) (by simp [results, Tryd.results6, go_sem]) rfl ?_
                exact ⟨_, rfl, HO9.out, HB9.out⟩
theorem RBYTES_any (r bits : Int) (A AN : Option Addr) (n c nn cN : Nat) (xss : List (List Int)) (l : List Nx) (hz : Hid (∀ x ∈ l, x.1.size ≤ maxLen ∧ x.2.size ≤ maxLen)) (w : World) (B : Nat) (hB : B ≤ w.heap.size) (hh : Hid (RowsAt w B A n xss)) (HN : Hid (NtsAt w B AN nn l)) :
    Calls Tryd.prog 6 #[.agg #[.int .i64 r, .slice A n c], .int .i64 bits, .slice AN nn cN] w (OutY w (bytesS r xss bits l)) := by
  by_cases hc : chkS r xss = 0
  · by_cases hb : bits ≠ 16 ∧ bits ≠ 24
    · have e : bytesS r xss bits l = ([], 1) := by unfold bytesS; rw [if_neg (by simp [hc]), if_pos hb]
      rw [e]
      exact RBYTES_rng r bits A AN n c nn cN xss hc hb w B hB hh
    · have hn : 0 < n := by have := (chkS_ok hc).some; have := hh.out.1; omega
      obtain ⟨ad, rfl⟩ := hh.out.addr hn
      rcases (show bits = 16 ∨ bits = 24 by omega) with rfl | rfl
      · exact RBYTES_16 r ad AN n c nn cN xss l hc hz w B hB hh HN
      · exact RBYTES_24 r ad AN n c nn cN xss l hc hz w B hB hh HN
  · have e : bytesS r xss bits l = ([], chkS r xss) := by unfold bytesS; rw [if_pos hc]
    rw [e]
    exact RBYTES_chk r bits A AN n c nn cN xss hc w B hB hh
end Go.Proofs.YtlnjildkdmeflaaDoor
