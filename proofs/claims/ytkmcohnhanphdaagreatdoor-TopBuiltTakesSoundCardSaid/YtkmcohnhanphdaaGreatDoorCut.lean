/- Cut on both sides. -/
import Derived.Test.YtkmcohnhanphdaaGreatDoorWb
import Derived.Test.YtkmcohnhanphdaaGreatDoorCutF
import Derived.Test.YtkmcohnhanphdaaGreatDoorWc
import Derived.Test.YtkmcohnhanphdaaGreatDoorWb
import Derived.Test.YtkmcohnhanphdaaGreatDoorRegion
import Derived.Deep.AppendLies
set_option linter.unusedSimpArgs false
set_option linter.unusedVariables false
namespace Go.Proofs.YtkmcohnhanphdaaGreatDoor
open Go.RowKit Go.Dw
attribute [local go_sem ↓] Go.wp_at_zero Go.wp_at_succ

set_option maxHeartbeats 400000 in
theorem CUT_chk (r : Int) (A : Option Addr) (n c : Nat) (p q : Int) (xss : List (List Int)) (hc : chkS r xss ≠ 0) (w : World) (B : Nat) (hB : B ≤ w.heap.size) (hh : Hid (RowsAt w B A n xss)) :
    Calls Tryz.prog 13 #[.agg #[.int .i64 r, .slice A n c], .agg #[.int .i64 p, .int .i64 q]] w (OutS w 0 [] (chkS r xss)) := by
  have hq : (chkS r xss != 0) = true := by simpa using hc
  clear hc
  go_enter Tryz.func13, Tryz.ntmps13
  go_wp2_with fail
  refine calls_later (w.heap.size + 3) ?_
  intro W hW hsW
  obtain ⟨hcW, hfW⟩ := bcell hW
  simp only [World.size_alloc] at hsW
  have hbW : Below w.heap.size w W := ((((Below.refl _ w).alloc (Nat.le_refl _) _).alloc (by simp) _).alloc (by simp; omega) _).trans (hW.mono (by omega))
  go_wp2_with (go_at_call 41; refine (CHECK_any r A n c xss _ B (by omega) (hh.out.below hbW hB)).mono ?_; rintro e w1 ⟨rfl, hb1⟩; have hz1 := pcell (hb1.mono hsW); have hz2 := fun b o => (bcell (hb1.mono hsW)).2 b o)
  refine end_snd2 (o0 := .int .i64 0) (o1 := .slice none 0 0) rfl rfl rfl ?_ ?_ ?_
  · rw [hz1 _ (by simp), hcW _ _ (by simp)]; simp [go_sem]
  · rw [hz1 _ (by simp), hcW _ _ (by simp)]; simp [go_sem]
  · exact OutS.err rfl (set2_below (hbW.trans (hb1.mono (by omega))) (by omega))
set_option maxHeartbeats 400000 in
theorem CUT_err (r : Int) (A : Option Addr) (n c : Nat) (p q : Int) (xss : List (List Int)) (hn : 0 < n) (hc : Hid (chkS r xss = 0)) (hd : cutF p q (len0 xss) ≠ 0) (w : World) (B : Nat) (hB : B ≤ w.heap.size) (hh : Hid (RowsAt w B A n xss)) :
    Calls Tryz.prog 13 #[.agg #[.int .i64 r, .slice A n c], .agg #[.int .i64 p, .int .i64 q]] w (OutS w 0 [] (cutF p q (len0 xss))) := by
  have hq : (chkS r xss != 0) = false := by rw [hc.out]; rfl
  have hq2 : (cutF p q (len0 xss) != 0) = true := by simpa using hd
  clear hd
  go_enter Tryz.func13, Tryz.ntmps13
  go_wp2_with fail
  refine calls_later (w.heap.size + 3) ?_
  intro W hW hsW
  obtain ⟨hcW, hfW⟩ := bcell hW
  simp only [World.size_alloc] at hsW
  have hbW : Below w.heap.size w W := ((((Below.refl _ w).alloc (Nat.le_refl _) _).alloc (by simp) _).alloc (by simp; omega) _).trans (hW.mono (by omega))
  go_wp2_with (first
    | (go_at_call 41; refine (CHECK_any r A n c xss _ B (by omega) (hh.out.below hbW hB)).mono ?_; rintro e w1 ⟨rfl, hb1⟩; have hz1 := pcell (hb1.mono hsW); have hs1 := hb1.size)
    | (go_at_call 42; refine (CHECKCUT_any r A n c p q xss hn _ B (by omega) (hh.out.below (hbW.trans (hb1.mono (by omega))) hB)).mono ?_; rintro e w2 ⟨rfl, hb2⟩; have hz2 := pcell (hb2.mono (Nat.le_trans hsW hs1)); have hy2 := fun b o => (bcell (hb2.mono (Nat.le_trans hsW hs1))).2 b o; have hy1 := fun b o => (bcell (hb1.mono hsW)).2 b o))
  refine end_snd2 (o0 := .int .i64 0) (o1 := .slice none 0 0) rfl rfl rfl ?_ ?_ ?_
  · rw [hz2 _ (by simp), hz1 _ (by simp), hcW _ _ (by simp)]; simp [go_sem]
  · rw [hz2 _ (by simp), hz1 _ (by simp), hcW _ _ (by simp)]; simp [go_sem]
  · exact OutS.err rfl (set2_below (hbW.trans ((hb1.trans (hb2.mono hs1)).mono (by omega))) (by omega))
set_option maxRecDepth 100000 in
set_option maxHeartbeats 2000000 in
theorem CUT_ok (r : Int) (ad : Addr) (n c : Nat) (p q : Nat) (xss : List (List Int)) (hn : 0 < n) (hok : Hid (OkS r xss)) (hc : Hid (chkS r xss = 0)) (hd : Hid (cutF p q (len0 xss) = 0)) (hpq : p ≤ q) (hqm : q ≤ len0 xss) (w : World) (B : Nat) (hB : B ≤ w.heap.size) (hh : Hid (RowsAt w B (some ad) n xss)) :
    Calls Tryz.prog 13 #[.agg #[.int .i64 r, .slice (some ad) n c], .agg #[.int .i64 p, .int .i64 q]] w (OutS w r (cutXs p q xss) 0) := by
  obtain ⟨i0, hi0, hi1, hi2, hi3⟩ := info_parts ints_info
  have hl := Lib.hid hh.out.1
  have hq : (chkS r xss != 0) = false := by rw [hc.out]; rfl
  have hq2 : (cutF p q (len0 xss) != 0) = false := by rw [hd.out]; rfl
  go_enter Tryz.func13, Tryz.ntmps13
  go_wp2_with fail
  refine calls_later (w.heap.size + 3) ?_
  intro W hW hsW
  obtain ⟨hcW, hfW⟩ := bcell hW
  simp only [World.size_alloc] at hsW
  have hbW : Below w.heap.size w W := ((((Below.refl _ w).alloc (Nat.le_refl _) _).alloc (by simp) _).alloc (by simp; omega) _).trans (hW.mono (by omega))
  go_wp2_with (go_at_call 41; refine (CHECK_any r (some ad) n c xss _ B (by omega) (hh.out.below hbW hB)).mono ?_; rintro e w1 ⟨rfl, hb1⟩; have hz1 := pcell (hb1.mono hsW); have hs1 := hb1.size)
  refine (CHECKCUT_any r (some ad) n c p q xss hn _ B (by omega) (hh.out.below (hbW.trans (hb1.mono (by omega))) hB)).mono ?_
  rintro e w2 ⟨rfl, hb2⟩
  have hz2 := pcell (hb2.mono (Nat.le_trans hsW hs1))
  have hy2 := fun b o => (bcell (hb2.mono (Nat.le_trans hsW hs1))).2 b o
  have hy1 := fun b o => (bcell (hb1.mono hsW)).2 b o
  have hs2 := hb2.size
  have hlt0 : w.heap.size < w2.heap.size := by omega
  have hlt1 : w.heap.size + 1 < w2.heap.size := by omega
  have hlt2 : w.heap.size + 1 + 1 < w2.heap.size := by omega
  go_wp2_with fail
  have hbW2 : Below (w.heap.size + 3) W w2 := (hb1.mono (by omega)).trans (hb2.mono (by omega))
  have hbA : Below B w W := hbW.mono hB
  have hn16 : n ≤ 16 := by have := hok.out.few; have := hl.out; omega
  clear hz1 hz2 hy1 hy2 hb1 hb2 hs1 hs2
  obtain ⟨g, hg⟩ : ∃ g, w2.heap.size = g := ⟨_, rfl⟩
  rw [hg] at hlt0 hlt1 hlt2 ⊢
  have Hg := Lib.hid hg
  have hNg : w.heap.size + 3 ≤ g := by omega
  clear hg
  go_loopw [30] (fun i wr => ∃ (k : Nat) (V : Value) (rows : List Value), k ≤ n ∧ i = .int .i64 k ∧ Hid (Below (w.heap.size + 3) W wr) ∧ Hid (wr.heap[g]? = some (.cells #[.int .i64 r, V] 33 (0, 0))) ∧ Hid (OwnRowsL wr (g + 1) V (cutXs p q (xss.take k)) rows)) (fun i _ => n - (intOf i).toNat)
  case atStart =>
    refine ⟨0, .slice none 0 0, [], Nat.zero_le _, rfl, hbW2.alloc (by rw [Hg.out]; omega) _, ?_, ?_⟩
    · show _ = _
      rw [← Hg.out]; exact heap_alloc_new _ _
    · exact ⟨World.ownsRow_nil _ _ _ _, fun k r h => by simp at h, fun i j r r' _ h => by simp at h⟩
  case round =>
    obtain ⟨k, V, rows, hk, rfl, hb, hbox, hL⟩ := hrel
    have hgr : g < wr.heap.size := (Array.getElem?_eq_some_iff.1 hbox.out).1
    have hz := pcell hb.out
    have hcg0 := own_cell1 hbox.out 0
    have hcg1 := own_cell1 hbox.out 1
    simp at hcg0 hcg1
    by_cases hlt : k < n
    · obtain ⟨A', n', c', hadB, hcell, hn', hc', hi⟩ := (hh.out.below hbA (Nat.le_refl _)).row hlt
      have hkx : Hid (k < xss.length) := by show _ < _; have := hl.out; omega
      obtain rfl : n' = len0 xss := hi.1.symm.trans (hok.out.row hkx.out).1
      have hi' := Lib.hid hi
      clear hi
      unfold maxLen at hc'
      have hout : wr.ownsRow (g + 1) 42 1 V k rows := by
        have := hL.out.outer
        rwa [cutXs_length, List.length_take, Nat.min_eq_left (Nat.le_of_lt hkx.out)] at this
      have hk0 : (0 : Int) ≤ (k : Int) := by omega
      have hkn : (k : Int) < (n : Int) := by omega
      have hip0 : (0 : Int) ≤ (p : Int) := by omega
      have hipq : (p : Int) ≤ (q : Int) := by omega
      have hiqc : (q : Int) ≤ (c' : Int) := by omega
      obtain ⟨i1, hj0, hj1, hj2, hj3⟩ := info_parts sint_info
      have hsl := fun W => run_cut (P := Tryz.prog) 42 3 Tryz.underlying42 i1 hj0 hj2 A' (len0 xss) c' p q hpq (by omega) W
      clear hj0 hj1 hj2 hj3
      have hadk : (ad.add k).block < w.heap.size + 3 := by rw [block_of_add]; omega
      go_wp2_with fail
      have hS : Below (w.heap.size + 3) W wr.drew ∧ (∀ z : Addr, z.block < w.heap.size + 3 → wr.drew.cell? z = W.cell? z) ∧ wr.drew.heap[g]? = some (.cells #[.int .i64 r, V] 33 (0, 0)) ∧ wr.drew.cell? ⟨g, 1, none⟩ = some V := ⟨hb.out.drew, pcell hb.out.drew, hbox.out, own_cell1 hbox.out 1⟩
      refine wp_region_head 11 (fun w' => Below (w.heap.size + 3) W w' ∧ (∀ z : Addr, z.block < w.heap.size + 3 → w'.cell? z = W.cell? z) ∧ w'.heap[g]? = some (.cells #[.int .i64 r, V] 33 (0, 0)) ∧ w'.cell? ⟨g, 1, none⟩ = some V) (by kernel_rfl) (by kernel_rfl) ?_
      refine HL.take (i := 0) (oi := _) (v := ?_) rfl (by kernel_rfl) (by kernel_rfl) (by decide) (fun _ _ _ h => h) (Or.inl ⟨by rfl, ?_⟩) hS ?_
      rotate_left
      · intro wz hwz
        try dsimp only at hwz
        go_simp
        try with_reducible rfl
      simp only [Act.put, List.setIfInBounds_toArray, List.set_cons_zero, List.set_cons_succ]
      refine HL.take (i := 1) (oi := _) (v := ?_) rfl (by kernel_rfl) (by kernel_rfl) (by decide) (fun _ _ _ h => h) (Or.inl ⟨by rfl, ?_⟩) hS ?_
      rotate_left
      · intro wz hwz
        try dsimp only at hwz
        go_simp
        try with_reducible rfl
      simp only [Act.put, List.setIfInBounds_toArray, List.set_cons_zero, List.set_cons_succ]
      refine HL.take (i := 2) (oi := _) (v := ?_) rfl (by kernel_rfl) (by kernel_rfl) (by decide) (fun _ _ _ h => h) (Or.inl ⟨by rfl, ?_⟩) hS ?_
      rotate_left
      · intro wz hwz
        try dsimp only at hwz
        go_simp
        try with_reducible rfl
      simp only [Act.put, List.setIfInBounds_toArray, List.set_cons_zero, List.set_cons_succ]
      refine HL.take (i := 3) (oi := _) (v := ?_) rfl (by kernel_rfl) (by kernel_rfl) (by decide) (fun _ _ _ h => h) (Or.inl ⟨by rfl, ?_⟩) hS ?_
      rotate_left
      · intro wz hwz
        try dsimp only at hwz
        go_simp
        try with_reducible rfl
      simp only [Act.put, List.setIfInBounds_toArray, List.set_cons_zero, List.set_cons_succ]
      refine HL.take (i := 4) (oi := _) (v := ?_) rfl (by kernel_rfl) (by kernel_rfl) (by decide) (fun _ _ _ h => h) (Or.inl ⟨by rfl, ?_⟩) hS ?_
      rotate_left
      · intro wz hwz
        try dsimp only at hwz
        go_simp
        try with_reducible rfl
      simp only [Act.put, List.setIfInBounds_toArray, List.set_cons_zero, List.set_cons_succ]
      refine HL.take (i := 5) (oi := _) (v := ?_) rfl (by kernel_rfl) (by kernel_rfl) (by decide) (fun _ _ _ h => h) (Or.inl ⟨by rfl, ?_⟩) hS ?_
      rotate_left
      · intro wz hwz
        try dsimp only at hwz
        go_simp
        try with_reducible rfl
      simp only [Act.put, List.setIfInBounds_toArray, List.set_cons_zero, List.set_cons_succ]
      refine HL.take (i := 6) (oi := _) (v := ?_) rfl (by kernel_rfl) (by kernel_rfl) (by decide) (fun _ _ _ h => h) (Or.inl ⟨by rfl, ?_⟩) hS ?_
      rotate_left
      · intro wz hwz
        try dsimp only at hwz
        go_simp
        try with_reducible rfl
      simp only [Act.put, List.setIfInBounds_toArray, List.set_cons_zero, List.set_cons_succ]
      refine HL.take (i := 7) (oi := _) (v := ?_) rfl (by kernel_rfl) (by kernel_rfl) (by decide) (fun _ _ _ h => h) (Or.inl ⟨by rfl, ?_⟩) hS ?_
      rotate_left
      · intro wz hwz
        try dsimp only at hwz
        go_simp
        try with_reducible rfl
      simp only [Act.put, List.setIfInBounds_toArray, List.set_cons_zero, List.set_cons_succ]
      refine HL.one (i := 8) (o := _) rfl (by kernel_rfl) (by decide) (by rfl) ?_
      intro K hK
      go_simp
      refine (CLONE_any _ _ _ _ _ B ((hi'.out.below (Below.via (Below.refl _ W) hS (Nat.le_refl _)) (by omega)).cut hn' hpq hqm) (by have := hok.out.long; omega) (Below.ge hS hsW (by omega))).mono ?_
      rintro e w3 ⟨⟨A3, c3, rfl, hown3⟩, hb3⟩
      have hbS := Below.next hS.1 hsW hb3
      have hbx3 := (hb3.block g (blk_lt hS.2.2.1)).trans hS.2.2.1
      have hlt3 : g < w3.heap.size := blk_lt hbx3
      have hN3 : w.heap.size + 3 ≤ w3.heap.size := Nat.le_trans hsW hbS.size
      clear hS
      have hS : Below (w.heap.size + 3) W w3 ∧ (∀ z : Addr, z.block < w.heap.size + 3 → w3.cell? z = W.cell? z) ∧ w3.heap[g]? = some (.cells #[.int .i64 r, V] 33 (0, 0)) ∧ w3.cell? ⟨g, 1, none⟩ = some V := ⟨hbS, pcell hbS, hbx3, own_cell1 hbx3 1⟩
      refine hK.out _ _ hS ?_
      try simp only [Act.put, List.setIfInBounds_toArray, List.set_cons_zero, List.set_cons_succ]
      clear hK K
      refine HL.one (i := 9) (o := _) rfl (by kernel_rfl) (by decide) (by rfl) ?_
      intro K hK
      go_simp
      have hS' := hS
      clear hS
      have hS : Below (w.heap.size + 3) W (w3.alloc (.cells #[.slice A3 (q - p) c3] 42)) ∧ (∀ z : Addr, z.block < w.heap.size + 3 → (w3.alloc (.cells #[.slice A3 (q - p) c3] 42)).cell? z = W.cell? z) ∧ (w3.alloc (.cells #[.slice A3 (q - p) c3] 42)).heap[g]? = some (.cells #[.int .i64 r, V] 33 (0, 0)) ∧ (w3.alloc (.cells #[.slice A3 (q - p) c3] 42)).cell? ⟨g, 1, none⟩ = some V := ⟨hbS.alloc hN3 _, pcell (hbS.alloc hN3 _), (Below.heap_alloc _ _ _ hlt3).trans hbx3, own_cell1 ((Below.heap_alloc _ _ _ hlt3).trans hbx3) 1⟩
      refine hK.out _ _ hS ?_
      try simp only [Act.put, List.setIfInBounds_toArray, List.set_cons_zero, List.set_cons_succ]
      clear hK K hS'
      refine HL.one (i := 10) (o := _) rfl (by kernel_rfl) (by decide) (by rfl) ?_
      intro K hK
      refine wp_append_lies _ (.tmp 35) (.tmp 43) 31 (by rfl) (g + 1) 42 i0 _ 1 24 Tryz.underlying31 hi0 hi1 hi2 hi3 rfl (by omega) V k rows (by rfl) ((own_below hout (undrew hb3)).alloc _) ⟨w3.heap.size, 0, none⟩ 1 1 [.slice A3 (q - p) c3] (by rfl) rfl (cell_one_new _ _ _) (by intro u hu; simp at hu; subst hu; rfl) (by omega) (by simp only [maxLen]; omega) (by omega) (by simp; omega) (w3.heap.size + 1) (by simp) ?_
      intro g4 cap4 w4 hown4 hg4 hat4 hlt4
      have hVb : ∀ j, V.ownBlock = some j → g + 1 ≤ j := fun j hj => (own_lt hout hj).1
      have hbS4 := (hbS.alloc hN3 (.cells #[.slice A3 (q - p) c3] 42)).grown hg4 (by simp; omega) (fun j hj => by have := hVb j hj; omega)
      have hbx4 := (hg4.block g (by simp; omega) (fun e => by have := hVb g e.symm; omega)).trans ((Below.heap_alloc _ _ _ hlt3).trans hbx3)
      refine hK.out _ _ ⟨hbS4, pcell hbS4, hbx4, own_cell1 hbx4 1⟩ ?_
      try simp only [Act.put, List.setIfInBounds_toArray, List.set_cons_zero, List.set_cons_succ]
      clear hK K hS
      refine HL.done (by kernel_rfl) ?_
      simp only [List.drop_succ_cons, List.drop_zero]
      have hcg4 := own_cell1 hbx4 1
      have hfz4 := frozen_of_row w4 g 1 _ _ hbx4
      simp at hcg4
      clear hz hcg0 hcg1
      go_wp2
      have hlen : (((rowOf xss k).drop p).take (q - p)).length = q - p := by rw [List.length_take, List.length_drop, (hok.out.row hkx.out).1]; omega
      have hkl : (cutXs p q (xss.take k)).length = k := by rw [cutXs_length, List.length_take, Nat.min_eq_left (Nat.le_of_lt hkx.out)]
      have hpush := hL.out.push (w := w3.alloc (.cells #[.slice A3 (q - p) c3] 42)) (w' := w4) (xs := ((rowOf xss k).drop p).take (q - p)) ((undrew hb3).alloc hb3.size _) (by omega) (by rw [hlen]; exact hown3.alloc _) (by rw [hkl]; exact hown4) hg4
      have HP := Lib.hid hpush
      have hbx5 := heap_setCell_same w4 g 1 _ _ (.slice (some ⟨g4, 0, none⟩) (k + 1) cap4) hbx4
      have HB := Lib.hid hbx5
      clear hlen hkl hpush hbx5
      go_roundw
      case rel =>
        refine ⟨k + 1, _, rows ++ [.slice A3 (q - p) c3], by omega, by go_num, hbS4.setCell (p := ⟨g, 1, none⟩) hNg _, HB.out, ?_⟩
        show OwnRowsL _ _ _ _ _
        rw [cutXs_take hkx.out]
        exact HP.out.set_below (p := ⟨g, 1, none⟩) (by simp) _
      case measure => simp [intOf]; omega
    · obtain rfl : k = n := by omega
      obtain ⟨AV, cV, hVe, _, _⟩ := own_form hL.out.outer
      rw [cutXs_length, List.length_take, Nat.min_eq_left (by rw [hl.out]; exact Nat.le_refl _)] at hVe
      subst hVe
      have hcr0 : wr.cell? ⟨w.heap.size + 1 + 1, 0, none⟩ = some (.int .i64 0) := by rw [hz _ (by simp), hcW _ _ (by simp)]; simp [go_sem]
      have hcr1 : wr.cell? ⟨w.heap.size + 1 + 1, 1, none⟩ = some (.slice none 0 0) := by rw [hz _ (by simp), hcW _ _ (by simp)]; simp [go_sem]
      have hfr := fun b o h => ((bcell hb.out).2 b o h)
      go_wp2
      refine end_snd2 rfl rfl rfl hcr0 hcr1 ?_
      refine ⟨_, rfl, ⟨rows, ?_⟩, set2_below (hbW.trans (hb.out.mono (by omega))) (by omega)⟩
      have h1 := hL.out
      rw [List.take_of_length_le (by rw [hl.out]; exact Nat.le_refl _)] at h1
      exact ((h1.set_below (p := ⟨w.heap.size + 1 + 1, 0, none⟩) (show w.heap.size + 1 + 1 < g + 1 by omega) _).set_below (p := ⟨w.heap.size + 1 + 1, 1, none⟩) (show w.heap.size + 1 + 1 < g + 1 by omega) _).base (show w.heap.size ≤ g + 1 by omega)
/-- what Cut returns -/
def cutS (r : Int) (xss : List (List Int)) (p q : Int) : Int × List (List Int) × Int :=
  if chkS r xss ≠ 0 then (0, [], chkS r xss) else if cutF p q (len0 xss) ≠ 0 then (0, [], cutF p q (len0 xss)) else (r, cutXs p q xss, 0)
theorem CUT_any (r : Int) (A : Option Addr) (n c : Nat) (p q : Int) (xss : List (List Int)) (w : World) (B : Nat) (hB : B ≤ w.heap.size) (hh : RowsAt w B A n xss) :
    Calls Tryz.prog 13 #[.agg #[.int .i64 r, .slice A n c], .agg #[.int .i64 p, .int .i64 q]] w (OutS w (cutS r xss p q).1 (cutS r xss p q).2.1 (cutS r xss p q).2.2) := by
  unfold cutS
  by_cases hc : chkS r xss = 0
  · have hok := chkS_ok hc
    have hn : 0 < n := by have := hok.some; have := hh.1; omega
    rw [if_neg (by simp [hc])]
    by_cases hd : cutF p q (len0 xss) = 0
    · rw [if_neg (by simp [hd])]
      have hb := cutF_zero hd
      obtain ⟨pn, rfl⟩ := Int.eq_ofNat_of_zero_le hb.1
      obtain ⟨qn, rfl⟩ := Int.eq_ofNat_of_zero_le (show 0 ≤ q by omega)
      obtain ⟨ad, rfl⟩ := hh.addr hn
      exact CUT_ok r ad n c pn qn xss hn hok hc hd (by omega) (by omega) w B hB hh
    · rw [if_pos hd]
      exact CUT_err r A n c p q xss hn hc hd w B hB hh
  · rw [if_pos hc]
    exact CUT_chk r A n c p q xss hc w B hB hh
end Go.Proofs.YtkmcohnhanphdaaGreatDoor
