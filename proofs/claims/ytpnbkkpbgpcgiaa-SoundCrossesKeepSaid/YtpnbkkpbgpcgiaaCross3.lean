/- Cross, the reference's, where all is right. -/
import Derived.Test.YtpnbkkpbgpcgiaaCross2
import Derived.Test.YtpnbkkpbgpcgiaaPush
set_option linter.unusedSimpArgs false
set_option linter.unusedVariables false
namespace Go.Proofs.Ytpnbkkpbgpcgiaa
open Go.RowKit Go.Dw
attribute [local go_sem ↓] Go.wp_at_zero Go.wp_at_succ
theorem cross_take {Y xr : List Int} {fr : Nat} (hf : fr ≤ xr.length) (hY : fr ≤ Y.length) (h : ∀ i, i < fr → elOf Y i = elOf xr i) : xr.take fr = Y.take (fr + 0) := by
  rw [Nat.add_zero]
  refine ext_el (by simp; omega) fun i hi => ?_
  rw [List.length_take] at hi
  have h9 := h i (by omega)
  rw [elOf_lt (by omega), elOf_lt (by omega)] at h9
  rw [elOf_lt (by simp; omega), elOf_lt (by simp; omega)]
  simp [h9]
theorem cross_tail {Y yr : List Int} {q m L : Nat} (hY : Y.length = L) (hL : q + (yr.length - m) = L) (hm : m ≤ yr.length) (h : ∀ i, q ≤ i → i < L → elOf Y i = elOf yr (i - q + m)) : Y.take q ++ yr.drop m = Y := by
  refine ext_el (by simp; omega) fun i hi => ?_
  simp only [List.length_append, List.length_take, List.length_drop] at hi
  by_cases h1 : i < q
  · rw [elOf_lt (by simp; omega), elOf_lt (by omega), List.getElem_append_left (by simp; omega)]; simp
  · rw [h i (by omega) (by omega), elOf_lt (by simp; omega), elOf_lt (by omega), List.getElem_append_right (by simp; omega)]
    simp only [List.getElem_drop, List.length_take]
    congr 1; omega
set_option maxRecDepth 100000 in
set_option maxHeartbeats 4000000 in
theorem RCROSS_ok (r : Int) (ad ad' : Addr) (n c c' m : Nat) (sh : Int) (xss yss : List (List Int)) (hc : Hid (both1 r r xss yss = 0)) (hd : Hid (alikeB r r n n = 0)) (hok : Hid (OkS r xss)) (hok' : Hid (OkS r yss)) (hma : m ≤ len0 xss) (hmb : m ≤ len0 yss) (hs : Hid (shB sh = true)) (hLL : len0 xss + len0 yss - m ≤ 100000) (w : World) (B : Nat) (hB : B ≤ w.heap.size) (hh : Hid (RowsAt w B (some ad) n xss)) (hh' : Hid (RowsAt w B (some ad') n yss)) :
    Calls Try.prog 56 #[.agg #[.int .i64 r, .slice (some ad) n c], .agg #[.int .i64 r, .slice (some ad') n c'], .int .i64 m, .int .i64 sh] w (OutS3 w r (clipS (crT xss yss m sh)) (stS clipU 0 (crT xss yss m sh)) 0) := by
  obtain ⟨i0, hi0, hi1, hi2, hi3⟩ := info_parts ints_info
  have hl := Lib.hid hh.out.1
  have hl' := Lib.hid hh'.out.1
  have hn16 : n ≤ 16 := by have := hok.out.few; have := hl.out; omega
  have hn : 0 < n := by have := hok.out.some; have := hl.out; omega
  have hm := hok.out.long
  have hm' := hok'.out.long
  have hq : (both1 r r xss yss != 0) = false := by rw [hc.out]; rfl
  have hq2 : (alikeB r r n n != 0) = false := by rw [hd.out]; rfl
  have d1 : decide ((m : Int) < 0) = false := by simp
  have h1 : ¬ (len0 xss : Int) < (m : Int) := by omega
  have h2 : ¬ (len0 yss : Int) < (m : Int) := by omega
  obtain ⟨L, hL⟩ : ∃ L, L = len0 xss + len0 yss - m := ⟨_, rfl⟩
  have hL9 : L ≤ 100000 := by omega
  have hLI : (len0 xss : Int) + (len0 yss : Int) - (m : Int) = (L : Int) := by omega
  have h3 : ¬ (100000 : Int) < (L : Int) := by omega
  have HW1 := Lib.hid (IntWalk.i64_in ((len0 xss : Int) + (len0 yss : Int)) (by omega))
  have HW2 : Hid (IntKind.i64.wrap ((len0 xss : Int) + (len0 yss : Int) - (m : Int)) = (L : Int)) := by show _ = _; rw [hLI]; exact IntWalk.i64_in _ (by omega)
  obtain ⟨T, hT⟩ : ∃ T, crT xss yss m sh = T := ⟨_, rfl⟩
  have HTl : Hid (T.length = n) := by show _ = _; rw [← hT]; exact mtx_length.trans hl.out
  have HTm : Hid (∀ a, a < n → (rowOf T a).length = L) := fun a ha => by rw [← hT, hL]; exact mtx_len (by rw [hl.out]; exact ha)
  have HTe : Hid (∀ a i, a < n → i < L → elOf (rowOf T a) i = crV xss yss (len0 xss) m sh a i) := fun a i ha hi => by rw [← hT]; exact mtx_el (by rw [hl.out]; exact ha) (by rw [← hL]; exact hi)
  have HTr : Hid (∀ t ∈ T, t.length = L) := by rw [← hT, hL]; exact mtx_rows
  have HY : Hid ((clipS T).length = n) := (clipS_length T).trans HTl.out
  have HYm : Hid (∀ a, a < n → (rowOf (clipS T) a).length = L) := fun a ha => by
    rw [clipS_len (by rw [HTl.out]; exact ha)]; exact HTm.out a ha
  have HYe : Hid (∀ a i, a < n → i < L → elOf (rowOf (clipS T) a) i = clipV (elOf (rowOf T a) i)) := fun a i ha hi => clipS_el (by rw [HTl.out]; exact ha) (by rw [HTm.out a ha]; exact hi)
  rw [hT]
  obtain ⟨fr, hfr⟩ : ∃ fr : Nat, fr = len0 xss - m := ⟨_, rfl⟩
  have hfm : fr + m = len0 xss := by omega
  have hfL : fr + len0 yss = L := by omega
  have HfrI : Hid (IntKind.i64.wrap ((len0 xss : Int) - (m : Int)) = (fr : Int)) := by show _ = _; rw [IntWalk.i64_in _ (by omega)]; omega
  have HFR := Lib.hid hfr
  have HLd := Lib.hid hL
  clear hT hL hLI hfr
  go_enter Try.func56, Try.ntmps56
  go_wp2_with fail
  refine calls_later (w.heap.size + 3) ?_
  intro W hW hsW
  obtain ⟨hcW, hfW⟩ := bcell hW
  simp only [World.size_alloc] at hsW
  have hbW : Below w.heap.size w W := ((((Below.refl _ w).alloc (Nat.le_refl _) _).alloc (by simp) _).alloc (by simp; omega) _).trans (hW.mono (by omega))
  have HRx : Hid (RowsAt W B (some ad) n xss) := hh.out.below hbW hB
  have HRy : Hid (RowsAt W B (some ad') n yss) := hh'.out.below hbW hB
  refine (RBOTH_any r r (some ad) (some ad') n n c c' xss yss _ B (by omega) (hh.out.below hbW hB) (hh'.out.below hbW hB)).mono ?_
  rintro e w2 ⟨rfl, hb2⟩
  have hS2 : Below (w.heap.size + 3) W w2 := hb2.mono hsW
  have hz2 := pcell hS2
  have hy2 := (bcell hS2).2
  clear hb2
  go_wp2_with fail
  refine (RALIKE_any r r (some ad) (some ad') n n c c' _).mono ?_
  rintro e w3 ⟨rfl, hb3⟩
  have hS3 := Below.next hS2 hsW hb3
  clear hz2 hy2 hb3
  have hz3 := pcell hS3
  have hy3 := (bcell hS3).2
  go_wp2_with fail
  refine (RLONG_any r (some ad) n c xss _ B (by have := hS3.size; omega) (HRx.out.below (hS3.mono (by omega)) (Nat.le_refl _)) hn).mono ?_
  rintro e w4 ⟨rfl, hb4⟩
  have hS4 := Below.next hS3 hsW hb4
  clear hz3 hy3 hb4
  have hz4 := pcell hS4
  have hy4 := (bcell hS4).2
  go_wp2_with fail
  refine (RLONG_any r (some ad') n c' yss _ B (by have := hS4.size; omega) (HRy.out.below (hS4.mono (by omega)) (Nat.le_refl _)) hn).mono ?_
  rintro e w5 ⟨rfl, hb5⟩
  have hS5 := Below.next hS4 hsW hb5
  clear hz4 hy4 hb5
  have hz5 := pcell hS5
  have hy5 := (bcell hS5).2
  go_wp2_with fail
  refine (RISSHAPE_eq sh true hs _).mono ?_
  rintro e w' ⟨rfl, rfl⟩
  go_wp2_with fail
  go_region_held3 (fun w' => Below (w.heap.size + 3) W w' ∧ ∀ z : Addr, z.block < w.heap.size + 3 → w'.cell? z = W.cell? z)
    ((refine (fun h => ⟨h, pcell h⟩) ?_; repeat (first | assumption | exact Below.refl _ _ | (refine Below.drew ?_) | (refine Below.alloc ?_ (by first | omega | (simp; omega) | exact Nat.le_trans hsW (Below.size (by assumption)) | (simp only [World.size_drew, World.size_alloc]; exact Nat.le_trans hsW (Nat.le_succ_of_le (Below.size (by assumption))))) _) | (refine Below.setCell ?_ (by first | omega | (simp; omega) | exact Nat.le_trans hsW (Below.size (by assumption))) _))))
    (first
      | (go_at_call 66; (with_reducible refine (RLONG_any r (some ad) n c xss _ B ?_ ?_ hn).mono ?_); (exact Below.ge ‹Below (w.heap.size + 3) W _ ∧ _› hsW (by omega)); (exact HRx.out.below ((‹Below (w.heap.size + 3) W _ ∧ _›).1.mono (by omega)) (Nat.le_refl _)); rintro e w7 ⟨rfl, hb7⟩; have hbS := Below.next (‹Below (w.heap.size + 3) W _ ∧ _›).1 hsW hb7)
      | (go_at_call 66; (with_reducible refine (RLONG_any r (some ad') n c' yss _ B ?_ ?_ hn).mono ?_); (exact Below.ge ‹Below (w.heap.size + 3) W _ ∧ _› hsW (by omega)); (exact HRy.out.below ((‹Below (w.heap.size + 3) W _ ∧ _›).1.mono (by omega)) (Nat.le_refl _)); rintro e w7 ⟨rfl, hb7⟩; have hbS := Below.next (‹Below (w.heap.size + 3) W _ ∧ _›).1 hsW hb7))
  rw [HW1.out, HW2.out]
  clear hz5 hy5
  have hbW2 : Below (w.heap.size + 3) W w7 := hbS
  have hz9 := pcell hbS
  have hy9 := (bcell hbS).2
  have hs9 := hbS.size
  have hlt0 : w.heap.size < w7.heap.size := by omega
  have hlt1 : w.heap.size + 1 < w7.heap.size := by omega
  have hlt2 : w.heap.size + 1 + 1 < w7.heap.size := by omega
  go_wp2_with fail
  have hbA : Below B w W := hbW.mono hB
  clear hz9 hy9 hs9 hbS
  obtain ⟨w2, hw7⟩ : ∃ w2, w2 = w7 := ⟨_, rfl⟩
  rw [← hw7] at hbW2 hlt0 hlt1 hlt2 ⊢
  clear hw7
  obtain ⟨g, hg⟩ : ∃ g, w2.heap.size = g := ⟨_, rfl⟩
  rw [hg] at hlt0 hlt1 hlt2 ⊢
  have Hg := Lib.hid hg
  have hNg : w.heap.size + 3 ≤ g := by omega
  clear hg
  obtain ⟨Y, hY⟩ : ∃ Y, clipS T = Y := ⟨_, rfl⟩
  rw [hY] at HY HYm HYe
  have HYD := Lib.hid hY
  clear hY
  go_loopw [14, 15] (fun s i wr => ∃ (k : Nat) (V : Value) (rows : List Value), k ≤ n ∧ i = .int .i64 k ∧ s = .int .i64 (cntK T k 0) ∧ Hid (Below (w.heap.size + 3) W wr) ∧ Hid (wr.heap[g]? = some (.cells #[.int .i64 r, V] 24 (0, 0))) ∧ Hid (OwnRowsL wr (g + 1) V (Y.take k) rows)) (fun _ i _ => n - (intOf i).toNat)
  case atStart =>
    refine ⟨0, .slice none 0 0, [], Nat.zero_le _, rfl, by rw [cntK_zero], hbW2.alloc (by rw [Hg.out]; omega) _, ?_, ?_⟩
    · show _ = _
      rw [← Hg.out]; exact heap_alloc_new _ _
    · exact ⟨World.ownsRow_nil _ _ _ _, fun k r h => by simp at h, fun i j r r' _ h => by simp at h⟩
  case round =>
    obtain ⟨k, V, rows, hk, rfl, rfl, hb, hbox, hL⟩ := hrel
    have hgr : g < wr.heap.size := (Array.getElem?_eq_some_iff.1 hbox.out).1
    have hz := pcell hb.out
    have hcg0 := own_cell1 hbox.out 0
    have hcg1 := own_cell1 hbox.out 1
    simp at hcg0 hcg1
    by_cases hlt : k < n
    · obtain ⟨A3', n3', c3', hadB, hcell, hn3', hc3', hi⟩ := (hh.out.below hbA (Nat.le_refl _)).row hlt
      obtain ⟨A4', n4', c4', hadB', hcell', hn4', hc4', hi'⟩ := (hh'.out.below hbA (Nat.le_refl _)).row hlt
      have hkx : Hid (k < xss.length) := by show _ < _; have := hl.out; omega
      have hky : Hid (k < yss.length) := by show _ < _; have := hl'.out; omega
      obtain rfl : n3' = len0 xss := hi.1.symm.trans (hok.out.row hkx.out).1
      obtain rfl : n4' = len0 yss := hi'.1.symm.trans (hok'.out.row hky.out).1
      have hx' := Lib.hid hi
      have hy' := Lib.hid hi'
      clear hi hi'
      unfold maxLen at hc3' hc4'
      have hYk : (Y.take k).length = k := by rw [List.length_take, HY.out]; omega
      have hout : wr.ownsRow (g + 1) 30 1 V k rows := by
        have := hL.out.outer
        rwa [hYk] at this
      have hk0 : (0 : Int) ≤ (k : Int) := by omega
      have hkn : (k : Int) < (n : Int) := by omega
      have hadk : (ad.add k).block < w.heap.size + 3 := by rw [block_of_add]; omega
      have hadk' : (ad'.add k).block < w.heap.size + 3 := by rw [block_of_add]; omega
      have hsrN : w.heap.size + 3 ≤ wr.heap.size := Nat.le_trans hsW hb.out.size
      have HXl := Lib.hid (hok.out.row hkx.out).1
      have HYl9 := Lib.hid (hok'.out.row hky.out).1
      have HTa : Hid (∀ i, i < fr → elOf (rowOf T k) i = elOf (rowOf xss k) i) := fun i hi => by
        rw [HTe.out k i hlt (by omega), crV_a (by have := HFR.out; omega)]
      have HTb : Hid (∀ i, fr + m ≤ i → i < L → elOf (rowOf T k) i = elOf (rowOf yss k) (i - fr)) := fun i h1 h2 => by
        rw [HTe.out k i hlt h2, crV_b hma (by omega), ← HFR.out]
      have HTx : Hid (∀ j, j < m → elOf (rowOf T k) (fr + j) = nearI (elOf (rowOf xss k) (fr + j) * facS sh ((m : Int) - 1 - j) m + elOf (rowOf yss k) j * facS sh j m) (((m : Int) + 1) * ((m : Int) + 1))) := fun j hj => by
        rw [HTe.out k (fr + j) hlt (by omega), HFR.out, crV_x hma hj]
      have HX0 : Hid (∀ i, i < len0 xss → -8388608 ≤ elOf (rowOf xss k) i ∧ elOf (rowOf xss k) i ≤ 8388607) := fun i hi => hok.out.el hkx.out hi
      have HY0 : Hid (∀ i, i < len0 yss → -8388608 ≤ elOf (rowOf yss k) i ∧ elOf (rowOf yss k) i ≤ 8388607) := fun i hi => hok'.out.el hky.out hi
      have HYf : Hid (∀ i, i < L → elOf (rowOf Y k) i = clipV (elOf (rowOf T k) i)) := fun i hi => HYe.out k i hlt hi
      have HYL : Hid ((rowOf Y k).length = L) := HYm.out k hlt
      have HT0 : Hid ((rowOf xss k).take fr = (rowOf Y k).take (fr + 0)) := cross_take (by rw [HXl.out]; omega) (by rw [HYL.out]; omega) fun i hi => by
        rw [HYf.out i (by omega), HTa.out i hi]
        have hb := HX0.out i (by omega)
        exact (clipN_smp hb.1 hb.2).2
      have HT1 : Hid ((rowOf Y k).take (fr + m) ++ (rowOf yss k).drop m = rowOf Y k) := cross_tail HYL.out (by rw [HYl9.out]; omega) (by rw [HYl9.out]; exact hmb) fun i h1 h2 => by
        rw [HYf.out i h2, HTb.out i h1 h2]
        have hb := HY0.out (i - fr) (by omega)
        rw [(clipN_smp hb.1 hb.2).2]
        congr 1; omega
      have HK1 : Hid (cntK T k 0 = cntK T k fr) := cntK_skip (Nat.zero_le _) (by rw [HTm.out k hlt]; omega) fun i _ hi => by
        rw [HTa.out i hi]; have hb := HX0.out i (by omega); exact (clipN_smp hb.1 hb.2).1
      have HK2 : Hid (cntK T k (fr + m) = cntK T (k + 1) 0) := (cntK_skip (b := L) (by omega) (by rw [HTm.out k hlt]; omega) fun i h1 h2 => by
          rw [HTb.out i h1 h2]; have hb := HY0.out (i - fr) (by omega); exact (clipN_smp hb.1 hb.2).1).trans (cntK_next (by rw [HTl.out]; exact hlt) (HTm.out k hlt))
      have hf0 : (0 : Int) ≤ (fr : Int) := by omega
      have hfc : (fr : Int) ≤ (c3' : Int) := by omega
      have hfle : fr ≤ len0 xss := by omega
      go_wp2_with fail
      have hS : Below (w.heap.size + 3) W wr.drew ∧ (∀ z : Addr, z.block < w.heap.size + 3 → wr.drew.cell? z = W.cell? z) ∧ Below wr.heap.size wr wr.drew := ⟨hb.out.drew, pcell hb.out.drew, (Below.refl _ _).drew⟩
      refine wp_region_head 11 (fun w' => Below (w.heap.size + 3) W w' ∧ (∀ z : Addr, z.block < w.heap.size + 3 → w'.cell? z = W.cell? z) ∧ Below wr.heap.size wr w') (by kernel_rfl) (by kernel_rfl) ?_
      refine HL.take (i := 0) (oi := _) (v := ?_) rfl (by kernel_rfl) (by kernel_rfl) (by decide) (fun _ _ _ h => h) (Or.inl ⟨by rfl, ?_⟩) hS ?_
      rotate_left
      · intro wz hwz
        try dsimp only at hwz
        go_simp
        try with_reducible rfl
      simp only [Act.put, List.setIfInBounds_toArray, List.set_cons_zero, List.set_cons_succ]
      refine HL.take (i := 1) (oi := _) (v := ?_) rfl (by kernel_rfl) (by kernel_rfl) (by decide) (fun _ _ _ h => h) (Or.inl ⟨by rfl, ?_⟩) hS ?_
      rotate_left
      · intro wz hwz
        try dsimp only at hwz
        go_simp
        try with_reducible rfl
      simp only [Act.put, List.setIfInBounds_toArray, List.set_cons_zero, List.set_cons_succ]
      refine HL.take (i := 2) (oi := _) (v := ?_) rfl (by kernel_rfl) (by kernel_rfl) (by decide) (fun _ _ _ h => h) (Or.inl ⟨by rfl, ?_⟩) hS ?_
      rotate_left
      · intro wz hwz
        try dsimp only at hwz
        go_simp
        try with_reducible rfl
      simp only [Act.put, List.setIfInBounds_toArray, List.set_cons_zero, List.set_cons_succ]
      refine HL.take (i := 3) (oi := _) (v := ?_) rfl (by kernel_rfl) (by kernel_rfl) (by decide) (fun _ _ _ h => h) (Or.inl ⟨by rfl, ?_⟩) hS ?_
      rotate_left
      · intro wz hwz
        try dsimp only at hwz
        go_simp
        try with_reducible rfl
      simp only [Act.put, List.setIfInBounds_toArray, List.set_cons_zero, List.set_cons_succ]
      refine HL.take (i := 4) (oi := _) (v := ?_) rfl (by kernel_rfl) (by kernel_rfl) (by decide) (fun _ _ _ h => h) (Or.inl ⟨by rfl, ?_⟩) hS ?_
      rotate_left
      · intro wz hwz
        try dsimp only at hwz
        go_simp
        try with_reducible rfl
      simp only [Act.put, List.setIfInBounds_toArray, List.set_cons_zero, List.set_cons_succ]
      refine HL.take (i := 5) (oi := _) (v := ?_) rfl (by kernel_rfl) (by kernel_rfl) (by decide) (fun _ _ _ h => h) (Or.inl ⟨by rfl, ?_⟩) hS ?_
      rotate_left
      · intro wz hwz
        try dsimp only at hwz
        go_simp
        try with_reducible rfl
      simp only [Act.put, List.setIfInBounds_toArray, List.set_cons_zero, List.set_cons_succ]
      refine HL.take (i := 7) (oi := _) (v := ?_) rfl (by kernel_rfl) (by kernel_rfl) (by decide) (fun _ _ _ h => h) (Or.inl ⟨by rfl, ?_⟩) hS ?_
      rotate_left
      · intro wz hwz
        try dsimp only at hwz
        go_simp
        try with_reducible rfl
      simp only [Act.put, List.setIfInBounds_toArray, List.set_cons_zero, List.set_cons_succ]
      refine HL.one (i := 6) (o := _) rfl (by kernel_rfl) (by decide) (by rfl) ?_
      intro K hK
      go_simp
      refine (RLONG_any r (some ad) n c xss _ B (Below.ge hS hsW (by omega)) (HRx.out.below (hS.1.mono (by omega)) (Nat.le_refl _)) hn).mono ?_
      rintro e w7 ⟨rfl, hb7⟩
      have hS' := hS
      clear hS
      have hbS := Below.next hS'.1 hsW hb7
      have hS : Below (w.heap.size + 3) W w7 ∧ (∀ z : Addr, z.block < w.heap.size + 3 → w7.cell? z = W.cell? z) ∧ Below wr.heap.size wr w7 := ⟨hbS, pcell hbS, hS'.2.2.trans (hb7.mono hS'.2.2.size)⟩
      refine hK.out _ _ hS ?_
      try simp only [Act.put, List.setIfInBounds_toArray, List.set_cons_zero, List.set_cons_succ]
      clear hK K hS'
      refine HL.take (i := 8) (oi := _) (v := .int .i64 (fr : Int)) rfl (by kernel_rfl) (by kernel_rfl) (by decide) (fun _ _ _ h => h) (Or.inl ⟨by rfl, ?_⟩) hS ?_
      · intro wz hwz
        try dsimp only at hwz
        go_simp
        first | done | exact HfrI.out | simp only [HfrI.out]
      simp only [Act.put, List.setIfInBounds_toArray, List.set_cons_zero, List.set_cons_succ]
      refine HL.take (i := 9) (oi := _) (v := ?_) rfl (by kernel_rfl) (by kernel_rfl) (by decide) (fun _ _ _ h => h) (Or.inl ⟨by rfl, ?_⟩) hS ?_
      rotate_left
      · intro wz hwz
        try dsimp only at hwz
        go_simp
        try with_reducible rfl
      simp only [Act.put, List.setIfInBounds_toArray, List.set_cons_zero, List.set_cons_succ]
      refine HL.one (i := 10) (o := _) rfl (by kernel_rfl) (by decide) (by rfl) ?_
      intro K hK
      go_simp
      refine (CLONE_any A3' fr c3' ((rowOf xss k).take fr) _ B (ints_take (hx'.out.below (hS.1.mono (by omega)) (Nat.le_refl _)) hfle) (by omega) (Below.ge hS hsW (by omega))).mono ?_
      rintro e w3 ⟨⟨A3, c3, rfl, hown3⟩, hb3⟩
      have hS' := hS
      clear hS
      have hbS := Below.next hS'.1 hsW hb3
      have hS : Below (w.heap.size + 3) W w3 ∧ (∀ z : Addr, z.block < w.heap.size + 3 → w3.cell? z = W.cell? z) ∧ Below wr.heap.size wr w3 := ⟨hbS, pcell hbS, hS'.2.2.trans (hb3.mono hS'.2.2.size)⟩
      have hsz7 : wr.heap.size ≤ w7.heap.size := hS'.2.2.size
      refine hK.out _ _ hS ?_
      try simp only [Act.put, List.setIfInBounds_toArray, List.set_cons_zero, List.set_cons_succ]
      clear hK K hS'
      refine HL.done (by kernel_rfl) ?_
      simp only [List.drop_succ_cons, List.drop_zero]
      go_simp
      have HO3 : Hid (w3.ownsRow wr.heap.size 3 1 (.slice A3 fr c3) (fr + 0) (((rowOf Y k).take (fr + 0)).map (Value.int .i64))) := by
        show World.ownsRow _ _ _ _ _ _ _
        rw [← HT0.out]
        exact own_base hown3 hsz7
      have HB3 := Lib.hid hS.2.2
      have HK0 : Hid (cntK T k 0 = cntK T k (fr + 0)) := HK1.out
      clear hS hbS hb3 hown3 hz hcg0 hcg1 hsz7
      go_wp2_with fail
      rw [HK0.out]
      obtain ⟨wo, hwo⟩ : ∃ wo : World, wo = wr := ⟨_, rfl⟩
      rw [← hwo] at hb hbox hL hout HB3 HO3 hgr hsrN
      clear hwo
      go_loopw [14, 16, 17] (fun s v i wi => ∃ j : Nat, j ≤ m ∧ i = .int .i64 j ∧ s = .int .i64 (cntK T k (fr + j)) ∧ Hid (Below wo.heap.size wo wi) ∧ Hid (wi.ownsRow wo.heap.size 3 1 v (fr + j) (((rowOf Y k).take (fr + j)).map (Value.int .i64)))) (fun _ _ i _ => m - (intOf i).toNat)
      case atStart => exact ⟨0, Nat.zero_le _, rfl, rfl, HB3.out, HO3.out⟩
      case round =>
        obtain ⟨j, hj, rfl, rfl, hbi, hown⟩ := hrel
        obtain ⟨A5, c5, rfl, hcc1, hcc2⟩ := own_form hown.out
        have hVb : ∀ b, (Value.slice A5 (fr + j) c5).ownBlock = some b → wo.heap.size ≤ b := fun b hb => (own_lt hown.out hb).1
        by_cases hjm : j < m
        · have hjA : fr + j < len0 xss := by omega
          have hjB : j < len0 yss := by omega
          have hjL : fr + j < L := by omega
          obtain ⟨ad3, rfl⟩ := hx'.out.addr (by omega)
          obtain ⟨ad4, rfl⟩ := hy'.out.addr (by omega)
          have hxc := (hx'.out.at_ hjA).2
          have hyc := (hy'.out.at_ hjB).2
          have hxb : (ad3.add (fr + j)).block < w.heap.size + 3 := by rw [block_of_add]; have := (hx'.out.at_ hjA).1; omega
          have hyb : (ad4.add j).block < w.heap.size + 3 := by rw [block_of_add]; have := (hy'.out.at_ hjB).1; omega
          have hbw : Below (w.heap.size + 3) W wr := hb.out.trans (hbi.out.mono hsrN)
          obtain ⟨x1, x2⟩ := HX0.out (fr + j) hjA
          obtain ⟨y1, y2⟩ := HY0.out j hjB
          have hm1 : (m : Int) ≤ 100000 := by omega
          have hj1 : (0 : Int) ≤ (m : Int) - 1 - (j : Int) := by omega
          have hj2 : (m : Int) - 1 - (j : Int) < (m : Int) := by omega
          have hj3 : (0 : Int) ≤ (j : Int) := by omega
          have hj4 : (j : Int) < (m : Int) := by omega
          obtain ⟨F1, F2, F3, F4, -⟩ := facS_bd (sh := sh) hj1 hj2 hm1
          obtain ⟨F5, F6, -, -, -⟩ := facS_bd (sh := sh) hj3 hj4 hm1
          have HFA := Lib.hid (fun w => RFACTOR_any sh ((m : Int) - 1 - (j : Int)) m hj1 hj2 hm1 w)
          have HFB := Lib.hid (fun w => RFACTOR_any sh (j : Int) m hj3 hj4 hm1 w)
          have HE := HTx.out j hjm
          obtain ⟨f, hf9⟩ : ∃ f, facS sh ((m : Int) - 1 - (j : Int)) m = f := ⟨_, rfl⟩
          obtain ⟨f', hf9'⟩ : ∃ f', facS sh (j : Int) m = f' := ⟨_, rfl⟩
          obtain ⟨x, hx9⟩ : ∃ x, elOf (rowOf xss k) (fr + j) = x := ⟨_, rfl⟩
          obtain ⟨y, hy9⟩ : ∃ y, elOf (rowOf yss k) j = y := ⟨_, rfl⟩
          obtain ⟨d, hd9⟩ : ∃ d, ((m : Int) + 1) * ((m : Int) + 1) = d := ⟨_, rfl⟩
          rw [hf9] at F1 F2 HFA HE
          rw [hf9'] at F5 F6 HFB HE
          rw [hx9] at x1 x2 HE hxc
          rw [hy9] at y1 y2 HE hyc
          rw [hd9] at F2 F3 F4 F6 HE
          obtain ⟨P1, P2, P3, P4⟩ := cross_bd x1 x2 y1 y2 F1 F2 F5 F6 F3
          have HWx := Lib.hid (IntWalk.i64_in (x * f) (by omega))
          have HWy := Lib.hid (IntWalk.i64_in (y * f') (by omega))
          have HW4 : Hid (IntKind.i64.wrap (((m : Int) + 1) * ((m : Int) + 1)) = d) := by show _ = _; rw [hd9]; exact IntWalk.i64_in _ (by omega)
          have HWs := Lib.hid (IntWalk.i64_in (x * f + y * f') (by omega))
          have HNE := Lib.hid (fun w => RNEAR_any (x * f + y * f') d F4 (by omega) (by omega) (by omega) w)
          obtain ⟨v', hv9⟩ : ∃ v, nearI (x * f + y * f') d = v := ⟨_, rfl⟩
          rw [hv9] at HE HNE
          have HK : Hid (cntK T k (fr + (j + 1)) = cntK T k (fr + j) + clipN v') := by show _ = _; rw [← Nat.add_assoc, cntK_step (by rw [HTm.out k hlt]; exact hjL), HE]
          have hcbd := cntK_bd (T := T) (m := L) (k := k) (j := fr + j) HTr.out (by rw [HTl.out]; exact hn16) (by rw [HTl.out]; omega) (by omega)
          have HVj : Hid ((rowOf Y k).take (fr + (j + 1)) = (rowOf Y k).take (fr + j) ++ [clipV v']) := by
            show _ = _
            rw [← Nat.add_assoc, take_el (by rw [HYL.out]; exact hjL), HYf.out _ hjL, HE]
          have HCL := Lib.hid (fun w => RCLIP_any v' w)
          have hqb := clipN_bd v'
          obtain ⟨q, hq9⟩ : ∃ q, clipN v' = q := ⟨_, rfl⟩
          obtain ⟨u, hu9⟩ : ∃ u, clipV v' = u := ⟨_, rfl⟩
          rw [hu9] at HVj HCL
          rw [hq9] at HK HCL hqb
          obtain ⟨qb1, qb2⟩ := hqb
          obtain ⟨cc, hcc⟩ : ∃ cc, cntK T k (fr + j) = cc := ⟨_, rfl⟩
          rw [hcc] at hcbd HK ⊢
          obtain ⟨cb1, cb2⟩ := hcbd
          have HM1 := Lib.hid (IntWalk.i64_in ((m : Int) - 1) (by omega))
          have HM2 := Lib.hid (IntWalk.i64_in ((m : Int) - 1 - (j : Int)) (by omega))
          have HIJ : Hid (IntKind.i64.wrap ((fr : Int) + (j : Int)) = ((fr + j : Nat) : Int)) := by show _ = _; rw [IntWalk.i64_in _ (by omega)]; omega
          obtain ⟨i, hi9⟩ : ∃ i, fr + j = i := ⟨_, rfl⟩
          have Hi9 := Lib.hid hi9
          rw [hi9] at HIJ hxc hxb hjA hjL hown hcc1 hVb HVj ⊢
          obtain ⟨i1, e0, e1, e2, e3⟩ := info_parts int_info
          have hi0 : (0 : Int) ≤ (i : Int) := by omega
          have hinx : (i : Int) < (len0 xss : Int) := by omega
          have hjy : (j : Int) < (len0 yss : Int) := by omega
          have hniw : wo.heap.size ≤ wr.heap.size := hbi.out.size
          clear hf9 hf9' hx9 hy9 hd9 hv9 hcc hi9 HE F1 F2 F3 F5 F6 hq9 hu9
          go_wp2_with fail
          have hS : Below (w.heap.size + 3) W wr.drew ∧ (∀ z : Addr, z.block < w.heap.size + 3 → wr.drew.cell? z = W.cell? z) ∧ Below wr.heap.size wr wr.drew := ⟨hbw.drew, pcell hbw.drew, (Below.refl _ _).drew⟩
          refine wp_region_head 35 (fun w' => Below (w.heap.size + 3) W w' ∧ (∀ z : Addr, z.block < w.heap.size + 3 → w'.cell? z = W.cell? z) ∧ Below wr.heap.size wr w') (by kernel_rfl) (by kernel_rfl) ?_
          refine HL.take (i := 0) (oi := _) (v := ?_) rfl (by kernel_rfl) (by kernel_rfl) (by decide) (fun _ _ _ h => h) (Or.inl ⟨by rfl, ?_⟩) hS ?_
          rotate_left
          · intro wz hwz
            try dsimp only at hwz
            go_simp
            try with_reducible rfl
          simp only [Act.put, List.setIfInBounds_toArray, List.set_cons_zero, List.set_cons_succ]
          refine HL.take (i := 1) (oi := _) (v := ?_) rfl (by kernel_rfl) (by kernel_rfl) (by decide) (fun _ _ _ h => h) (Or.inl ⟨by rfl, ?_⟩) hS ?_
          rotate_left
          · intro wz hwz
            try dsimp only at hwz
            go_simp
            try with_reducible rfl
          simp only [Act.put, List.setIfInBounds_toArray, List.set_cons_zero, List.set_cons_succ]
          refine HL.take (i := 2) (oi := _) (v := ?_) rfl (by kernel_rfl) (by kernel_rfl) (by decide) (fun _ _ _ h => h) (Or.inl ⟨by rfl, ?_⟩) hS ?_
          rotate_left
          · intro wz hwz
            try dsimp only at hwz
            go_simp
            try with_reducible rfl
          simp only [Act.put, List.setIfInBounds_toArray, List.set_cons_zero, List.set_cons_succ]
          refine HL.take (i := 3) (oi := _) (v := ?_) rfl (by kernel_rfl) (by kernel_rfl) (by decide) (fun _ _ _ h => h) (Or.inl ⟨by rfl, ?_⟩) hS ?_
          rotate_left
          · intro wz hwz
            try dsimp only at hwz
            go_simp
            try with_reducible rfl
          simp only [Act.put, List.setIfInBounds_toArray, List.set_cons_zero, List.set_cons_succ]
          refine HL.take (i := 4) (oi := _) (v := ?_) rfl (by kernel_rfl) (by kernel_rfl) (by decide) (fun _ _ _ h => h) (Or.inl ⟨by rfl, ?_⟩) hS ?_
          rotate_left
          · intro wz hwz
            try dsimp only at hwz
            go_simp
            try with_reducible rfl
          simp only [Act.put, List.setIfInBounds_toArray, List.set_cons_zero, List.set_cons_succ]
          refine HL.take (i := 5) (oi := _) (v := ?_) rfl (by kernel_rfl) (by kernel_rfl) (by decide) (fun _ _ _ h => h) (Or.inl ⟨by rfl, ?_⟩) hS ?_
          rotate_left
          · intro wz hwz
            try dsimp only at hwz
            go_simp
            try with_reducible rfl
          simp only [Act.put, List.setIfInBounds_toArray, List.set_cons_zero, List.set_cons_succ]
          refine HL.take (i := 7) (oi := _) (v := ?_) rfl (by kernel_rfl) (by kernel_rfl) (by decide) (fun _ _ _ h => h) (Or.inl ⟨by rfl, ?_⟩) hS ?_
          rotate_left
          · intro wz hwz
            try dsimp only at hwz
            go_simp
            try with_reducible rfl
          simp only [Act.put, List.setIfInBounds_toArray, List.set_cons_zero, List.set_cons_succ]
          refine HL.take (i := 9) (oi := _) (v := ?_) rfl (by kernel_rfl) (by kernel_rfl) (by decide) (fun _ _ _ h => h) (Or.inl ⟨by rfl, ?_⟩) hS ?_
          rotate_left
          · intro wz hwz
            try dsimp only at hwz
            go_simp
            try with_reducible rfl
          simp only [Act.put, List.setIfInBounds_toArray, List.set_cons_zero, List.set_cons_succ]
          refine HL.take (i := 13) (oi := _) (v := ?_) rfl (by kernel_rfl) (by kernel_rfl) (by decide) (fun _ _ _ h => h) (Or.inl ⟨by rfl, ?_⟩) hS ?_
          rotate_left
          · intro wz hwz
            try dsimp only at hwz
            go_simp
            try with_reducible rfl
          simp only [Act.put, List.setIfInBounds_toArray, List.set_cons_zero, List.set_cons_succ]
          refine HL.take (i := 14) (oi := _) (v := ?_) rfl (by kernel_rfl) (by kernel_rfl) (by decide) (fun _ _ _ h => h) (Or.inl ⟨by rfl, ?_⟩) hS ?_
          rotate_left
          · intro wz hwz
            try dsimp only at hwz
            go_simp
            try with_reducible rfl
          simp only [Act.put, List.setIfInBounds_toArray, List.set_cons_zero, List.set_cons_succ]
          refine HL.take (i := 15) (oi := _) (v := .int .i64 ((m : Int) - 1)) rfl (by kernel_rfl) (by kernel_rfl) (by decide) (fun _ _ _ h => h) (Or.inl ⟨by rfl, ?_⟩) hS ?_
          · intro wz hwz
            try dsimp only at hwz
            go_simp
            first | done | exact HM1.out | simp only [HM1.out]
          simp only [Act.put, List.setIfInBounds_toArray, List.set_cons_zero, List.set_cons_succ]
          refine HL.take (i := 16) (oi := _) (v := ?_) rfl (by kernel_rfl) (by kernel_rfl) (by decide) (fun _ _ _ h => h) (Or.inl ⟨by rfl, ?_⟩) hS ?_
          rotate_left
          · intro wz hwz
            try dsimp only at hwz
            go_simp
            try with_reducible rfl
          simp only [Act.put, List.setIfInBounds_toArray, List.set_cons_zero, List.set_cons_succ]
          refine HL.take (i := 17) (oi := _) (v := .int .i64 ((m : Int) - 1 - (j : Int))) rfl (by kernel_rfl) (by kernel_rfl) (by decide) (fun _ _ _ h => h) (Or.inl ⟨by rfl, ?_⟩) hS ?_
          · intro wz hwz
            try dsimp only at hwz
            go_simp
            first | done | exact HM2.out | simp only [HM2.out]
          simp only [Act.put, List.setIfInBounds_toArray, List.set_cons_zero, List.set_cons_succ]
          refine HL.take (i := 18) (oi := _) (v := ?_) rfl (by kernel_rfl) (by kernel_rfl) (by decide) (fun _ _ _ h => h) (Or.inl ⟨by rfl, ?_⟩) hS ?_
          rotate_left
          · intro wz hwz
            try dsimp only at hwz
            go_simp
            try with_reducible rfl
          simp only [Act.put, List.setIfInBounds_toArray, List.set_cons_zero, List.set_cons_succ]
          refine HL.take (i := 21) (oi := _) (v := ?_) rfl (by kernel_rfl) (by kernel_rfl) (by decide) (fun _ _ _ h => h) (Or.inl ⟨by rfl, ?_⟩) hS ?_
          rotate_left
          · intro wz hwz
            try dsimp only at hwz
            go_simp
            try with_reducible rfl
          simp only [Act.put, List.setIfInBounds_toArray, List.set_cons_zero, List.set_cons_succ]
          refine HL.take (i := 22) (oi := _) (v := ?_) rfl (by kernel_rfl) (by kernel_rfl) (by decide) (fun _ _ _ h => h) (Or.inl ⟨by rfl, ?_⟩) hS ?_
          rotate_left
          · intro wz hwz
            try dsimp only at hwz
            go_simp
            try with_reducible rfl
          simp only [Act.put, List.setIfInBounds_toArray, List.set_cons_zero, List.set_cons_succ]
          refine HL.take (i := 23) (oi := _) (v := ?_) rfl (by kernel_rfl) (by kernel_rfl) (by decide) (fun _ _ _ h => h) (Or.inl ⟨by rfl, ?_⟩) hS ?_
          rotate_left
          · intro wz hwz
            try dsimp only at hwz
            go_simp
            try with_reducible rfl
          simp only [Act.put, List.setIfInBounds_toArray, List.set_cons_zero, List.set_cons_succ]
          refine HL.take (i := 24) (oi := _) (v := ?_) rfl (by kernel_rfl) (by kernel_rfl) (by decide) (fun _ _ _ h => h) (Or.inl ⟨by rfl, ?_⟩) hS ?_
          rotate_left
          · intro wz hwz
            try dsimp only at hwz
            go_simp
            try with_reducible rfl
          simp only [Act.put, List.setIfInBounds_toArray, List.set_cons_zero, List.set_cons_succ]
          refine HL.take (i := 25) (oi := _) (v := ?_) rfl (by kernel_rfl) (by kernel_rfl) (by decide) (fun _ _ _ h => h) (Or.inl ⟨by rfl, ?_⟩) hS ?_
          rotate_left
          · intro wz hwz
            try dsimp only at hwz
            go_simp
            try with_reducible rfl
          simp only [Act.put, List.setIfInBounds_toArray, List.set_cons_zero, List.set_cons_succ]
          refine HL.take (i := 26) (oi := _) (v := ?_) rfl (by kernel_rfl) (by kernel_rfl) (by decide) (fun _ _ _ h => h) (Or.inl ⟨by rfl, ?_⟩) hS ?_
          rotate_left
          · intro wz hwz
            try dsimp only at hwz
            go_simp
            try with_reducible rfl
          simp only [Act.put, List.setIfInBounds_toArray, List.set_cons_zero, List.set_cons_succ]
          refine HL.take (i := 27) (oi := _) (v := ?_) rfl (by kernel_rfl) (by kernel_rfl) (by decide) (fun _ _ _ h => h) (Or.inl ⟨by rfl, ?_⟩) hS ?_
          rotate_left
          · intro wz hwz
            try dsimp only at hwz
            go_simp
            try with_reducible rfl
          simp only [Act.put, List.setIfInBounds_toArray, List.set_cons_zero, List.set_cons_succ]
          refine HL.take (i := 28) (oi := _) (v := ?_) rfl (by kernel_rfl) (by kernel_rfl) (by decide) (fun _ _ _ h => h) (Or.inl ⟨by rfl, ?_⟩) hS ?_
          rotate_left
          · intro wz hwz
            try dsimp only at hwz
            go_simp
            try with_reducible rfl
          simp only [Act.put, List.setIfInBounds_toArray, List.set_cons_zero, List.set_cons_succ]
          refine HL.take (i := 29) (oi := _) (v := ?_) rfl (by kernel_rfl) (by kernel_rfl) (by decide) (fun _ _ _ h => h) (Or.inl ⟨by rfl, ?_⟩) hS ?_
          rotate_left
          · intro wz hwz
            try dsimp only at hwz
            go_simp
            try with_reducible rfl
          simp only [Act.put, List.setIfInBounds_toArray, List.set_cons_zero, List.set_cons_succ]
          refine HL.take (i := 30) (oi := _) (v := ?_) rfl (by kernel_rfl) (by kernel_rfl) (by decide) (fun _ _ _ h => h) (Or.inl ⟨by rfl, ?_⟩) hS ?_
          rotate_left
          · intro wz hwz
            try dsimp only at hwz
            go_simp
            try with_reducible rfl
          simp only [Act.put, List.setIfInBounds_toArray, List.set_cons_zero, List.set_cons_succ]
          refine HL.take (i := 31) (oi := _) (v := ?_) rfl (by kernel_rfl) (by kernel_rfl) (by decide) (fun _ _ _ h => h) (Or.inl ⟨by rfl, ?_⟩) hS ?_
          rotate_left
          · intro wz hwz
            try dsimp only at hwz
            go_simp
            try with_reducible rfl
          simp only [Act.put, List.setIfInBounds_toArray, List.set_cons_zero, List.set_cons_succ]
          refine HL.one (i := 6) (o := _) rfl (by kernel_rfl) (by decide) (by rfl) ?_
          intro K hK
          go_simp
          refine (RLONG_any r (some ad) n c xss _ B (Below.ge hS hsW (by omega)) (HRx.out.below (hS.1.mono (by omega)) (Nat.le_refl _)) hn).mono ?_
          rintro e w7 ⟨rfl, hb7⟩
          have hS' := hS
          clear hS
          have hbS := Below.next hS'.1 hsW hb7
          have hS : Below (w.heap.size + 3) W w7 ∧ (∀ z : Addr, z.block < w.heap.size + 3 → w7.cell? z = W.cell? z) ∧ Below wr.heap.size wr w7 := ⟨hbS, pcell hbS, hS'.2.2.trans (hb7.mono hS'.2.2.size)⟩
          refine hK.out _ _ hS ?_
          try simp only [Act.put, List.setIfInBounds_toArray, List.set_cons_zero, List.set_cons_succ]
          clear hK K hS'
          refine HL.take (i := 8) (oi := _) (v := .int .i64 (fr : Int)) rfl (by kernel_rfl) (by kernel_rfl) (by decide) (fun _ _ _ h => h) (Or.inl ⟨by rfl, ?_⟩) hS ?_
          · intro wz hwz
            try dsimp only at hwz
            go_simp
            first | done | exact HfrI.out | simp only [HfrI.out]
          simp only [Act.put, List.setIfInBounds_toArray, List.set_cons_zero, List.set_cons_succ]
          refine HL.take (i := 10) (oi := _) (v := .int .i64 (i : Int)) rfl (by kernel_rfl) (by kernel_rfl) (by decide) (fun _ _ _ h => h) (Or.inl ⟨by rfl, ?_⟩) hS ?_
          · intro wz hwz
            try dsimp only at hwz
            go_simp
            first | done | exact HIJ.out | simp only [HIJ.out]
          simp only [Act.put, List.setIfInBounds_toArray, List.set_cons_zero, List.set_cons_succ]
          refine HL.take (i := 11) (oi := _) (v := ?_) rfl (by kernel_rfl) (by kernel_rfl) (by decide) (fun _ _ _ h => h) (Or.inl ⟨by rfl, ?_⟩) hS ?_
          rotate_left
          · intro wz hwz
            try dsimp only at hwz
            go_simp
            try with_reducible rfl
          simp only [Act.put, List.setIfInBounds_toArray, List.set_cons_zero, List.set_cons_succ]
          refine HL.take (i := 12) (oi := _) (v := ?_) rfl (by kernel_rfl) (by kernel_rfl) (by decide) (fun _ _ _ h => h) (Or.inl ⟨by rfl, ?_⟩) hS ?_
          rotate_left
          · intro wz hwz
            try dsimp only at hwz
            go_simp
            try with_reducible rfl
          simp only [Act.put, List.setIfInBounds_toArray, List.set_cons_zero, List.set_cons_succ]
          refine HL.one (i := 19) (o := _) rfl (by kernel_rfl) (by decide) (by rfl) ?_
          intro K hK
          go_simp
          with_reducible refine (HFA.out _).mono ?_
          rintro e w' ⟨rfl, rfl⟩
          refine hK.out _ _ hS ?_
          try simp only [Act.put, List.setIfInBounds_toArray, List.set_cons_zero, List.set_cons_succ]
          clear hK K
          refine HL.take (i := 20) (oi := _) (v := .int .i64 (x * f)) rfl (by kernel_rfl) (by kernel_rfl) (by decide) (fun _ _ _ h => h) (Or.inl ⟨by rfl, ?_⟩) hS ?_
          · intro wz hwz
            try dsimp only at hwz
            go_simp
            first | done | exact HWx.out | simp only [HWx.out]
          simp only [Act.put, List.setIfInBounds_toArray, List.set_cons_zero, List.set_cons_succ]
          refine HL.one (i := 32) (o := _) rfl (by kernel_rfl) (by decide) (by rfl) ?_
          intro K hK
          go_simp
          with_reducible refine (HFB.out _).mono ?_
          rintro e w' ⟨rfl, rfl⟩
          refine hK.out _ _ hS ?_
          try simp only [Act.put, List.setIfInBounds_toArray, List.set_cons_zero, List.set_cons_succ]
          clear hK K
          refine HL.take (i := 33) (oi := _) (v := .int .i64 (y * f')) rfl (by kernel_rfl) (by kernel_rfl) (by decide) (fun _ _ _ h => h) (Or.inl ⟨by rfl, ?_⟩) hS ?_
          · intro wz hwz
            try dsimp only at hwz
            go_simp
            first | done | exact HWy.out | simp only [HWy.out]
          simp only [Act.put, List.setIfInBounds_toArray, List.set_cons_zero, List.set_cons_succ]
          refine HL.take (i := 34) (oi := _) (v := .int .i64 (x * f + y * f')) rfl (by kernel_rfl) (by kernel_rfl) (by decide) (fun _ _ _ h => h) (Or.inl ⟨by rfl, ?_⟩) hS ?_
          · intro wz hwz
            try dsimp only at hwz
            go_simp
            first | done | exact HWs.out | simp only [HWs.out]
          simp only [Act.put, List.setIfInBounds_toArray, List.set_cons_zero, List.set_cons_succ]
          refine HL.done (by kernel_rfl) ?_
          simp only [List.drop_succ_cons, List.drop_zero]
          go_simp
          have hmd := HW4.out
          have hB7 := Lib.hid hS.2.2
          clear hS hbS
          go_wp2_with fail
          refine (HNE.out _).mono ?_
          rintro e w' ⟨rfl, q9, rfl⟩
          go_wp2_with fail
          refine (HCL.out _).mono ?_
          rintro e w' ⟨rfl, rfl⟩
          have hB8 := Lib.hid (belowN hB7.out q9)
          have hown8 := Lib.hid (own_below hown.out hB8.out)
          have hb8 : Below wo.heap.size wo (w7.drewN q9) := hbi.out.trans (hB8.out.mono hniw)
          have hs8 := hb8.size
          have hi9 : i ≤ 1000000000 := by omega
          go_wp2_with (with_reducible refine wpList_push_int rfl (.tmp 135) (.tmp 137) rfl wo.heap.size A5 i c5 _ u rfl rfl hown8.out hi9 hs8 ?_; intro g5 cap5 w5 hown5 hb5)
          have HB5 : Hid (Below wo.heap.size wo w5) := hb8.trans hb5
          have HO5 : Hid (w5.ownsRow wo.heap.size 3 1 (.slice (some ⟨g5, 0, none⟩) (i + 1) cap5) (fr + (j + 1)) (((rowOf Y k).take (fr + (j + 1))).map (Value.int .i64))) := by
            show World.ownsRow _ _ _ _ _ _ _
            rw [HVj.out, List.map_append, show fr + (j + 1) = i + 1 by have := Hi9.out; omega]
            exact hown5
          go_roundw
          case rel => exact ⟨j + 1, by omega, by go_num, by rw [HK.out], HB5, HO5⟩
          case measure => simp [intOf]; omega
        · obtain rfl : j = m := by omega
          have hbw : Below (w.heap.size + 3) W wr := hb.out.trans (hbi.out.mono hsrN)
          have hbxr := (hbi.out.block g hgr).trans hbox.out
          have hLr := Lib.hid (hL.out.below hbi.out)
          rw [hfm] at hown hcc1 hVb HT1
          have hrowI := Lib.hid (ownInts hown.out)
          obtain ⟨i1, e0, -, e2, -⟩ := info_parts int_info
          have HSL := Lib.hid (fun W => run_cutFrom (P := Try.prog) 30 3 Try.underlying30 i1 e0 e2 A4' (len0 yss) c4' j hmb hn4' W)
          have houtr := own_below hout hbi.out
          have hniw : wo.heap.size ≤ wr.heap.size := hbi.out.size
          have hgr' : g < wr.heap.size := by omega
          have hsrN' : w.heap.size + 3 ≤ wr.heap.size := Nat.le_trans hsrN hniw
          have hlen1 : ((rowOf Y k).take (len0 xss)).length = len0 xss := by rw [List.length_take, HYL.out]; omega
          have hlen2 : ((rowOf yss k).drop j).length = len0 yss - j := by rw [List.length_drop, HYl9.out]
          clear e0 e2
          rw [HK2.out]
          go_wp2_with fail
          have hS : Below (w.heap.size + 3) W wr.drew ∧ (∀ z : Addr, z.block < w.heap.size + 3 → wr.drew.cell? z = W.cell? z) ∧ wr.drew.heap[g]? = some (.cells #[.int .i64 r, V] 24 (0, 0)) ∧ wr.drew.cell? ⟨g, 1, none⟩ = some V := ⟨hbw.drew, pcell hbw.drew, hbxr, own_cell1 hbxr 1⟩
          refine wp_region_head 14 (fun w' => Below (w.heap.size + 3) W w' ∧ (∀ z : Addr, z.block < w.heap.size + 3 → w'.cell? z = W.cell? z) ∧ w'.heap[g]? = some (.cells #[.int .i64 r, V] 24 (0, 0)) ∧ w'.cell? ⟨g, 1, none⟩ = some V) (by kernel_rfl) (by kernel_rfl) ?_
          refine HL.take (i := 0) (oi := _) (v := ?_) rfl (by kernel_rfl) (by kernel_rfl) (by decide) (fun _ _ _ h => h) (Or.inl ⟨by rfl, ?_⟩) hS ?_
          rotate_left
          · intro wz hwz
            try dsimp only at hwz
            go_simp
            try with_reducible rfl
          simp only [Act.put, List.setIfInBounds_toArray, List.set_cons_zero, List.set_cons_succ]
          refine HL.take (i := 1) (oi := _) (v := ?_) rfl (by kernel_rfl) (by kernel_rfl) (by decide) (fun _ _ _ h => h) (Or.inl ⟨by rfl, ?_⟩) hS ?_
          rotate_left
          · intro wz hwz
            try dsimp only at hwz
            go_simp
            try with_reducible rfl
          simp only [Act.put, List.setIfInBounds_toArray, List.set_cons_zero, List.set_cons_succ]
          refine HL.take (i := 2) (oi := _) (v := ?_) rfl (by kernel_rfl) (by kernel_rfl) (by decide) (fun _ _ _ h => h) (Or.inl ⟨by rfl, ?_⟩) hS ?_
          rotate_left
          · intro wz hwz
            try dsimp only at hwz
            go_simp
            try with_reducible rfl
          simp only [Act.put, List.setIfInBounds_toArray, List.set_cons_zero, List.set_cons_succ]
          refine HL.take (i := 3) (oi := _) (v := ?_) rfl (by kernel_rfl) (by kernel_rfl) (by decide) (fun _ _ _ h => h) (Or.inl ⟨by rfl, ?_⟩) hS ?_
          rotate_left
          · intro wz hwz
            try dsimp only at hwz
            go_simp
            try with_reducible rfl
          simp only [Act.put, List.setIfInBounds_toArray, List.set_cons_zero, List.set_cons_succ]
          refine HL.take (i := 4) (oi := _) (v := ?_) rfl (by kernel_rfl) (by kernel_rfl) (by decide) (fun _ _ _ h => h) (Or.inl ⟨by rfl, ?_⟩) hS ?_
          rotate_left
          · intro wz hwz
            try dsimp only at hwz
            go_simp
            try with_reducible rfl
          simp only [Act.put, List.setIfInBounds_toArray, List.set_cons_zero, List.set_cons_succ]
          refine HL.take (i := 5) (oi := _) (v := ?_) rfl (by kernel_rfl) (by kernel_rfl) (by decide) (fun _ _ _ h => h) (Or.inl ⟨by rfl, ?_⟩) hS ?_
          rotate_left
          · intro wz hwz
            try dsimp only at hwz
            go_simp
            try with_reducible rfl
          simp only [Act.put, List.setIfInBounds_toArray, List.set_cons_zero, List.set_cons_succ]
          refine HL.take (i := 6) (oi := _) (v := ?_) rfl (by kernel_rfl) (by kernel_rfl) (by decide) (fun _ _ _ h => h) (Or.inl ⟨by rfl, ?_⟩) hS ?_
          rotate_left
          · intro wz hwz
            try dsimp only at hwz
            go_simp
            try with_reducible rfl
          simp only [Act.put, List.setIfInBounds_toArray, List.set_cons_zero, List.set_cons_succ]
          refine HL.take (i := 7) (oi := _) (v := ?_) rfl (by kernel_rfl) (by kernel_rfl) (by decide) (fun _ _ _ h => h) (Or.inl ⟨by rfl, ?_⟩) hS ?_
          rotate_left
          · intro wz hwz
            try dsimp only at hwz
            go_simp
            try with_reducible rfl
          simp only [Act.put, List.setIfInBounds_toArray, List.set_cons_zero, List.set_cons_succ]
          refine HL.take (i := 8) (oi := _) (v := ?_) rfl (by kernel_rfl) (by kernel_rfl) (by decide) (fun _ _ _ h => h) (Or.inl ⟨by rfl, ?_⟩) hS ?_
          rotate_left
          · intro wz hwz
            try dsimp only at hwz
            go_simp
            try with_reducible rfl
          simp only [Act.put, List.setIfInBounds_toArray, List.set_cons_zero, List.set_cons_succ]
          refine HL.take (i := 9) (oi := _) (v := .slice (cutA A4' c4' j) (len0 yss - j) (c4' - j)) rfl (by kernel_rfl) (by kernel_rfl) (by decide) (fun _ _ _ h => h) (Or.inl ⟨by rfl, ?_⟩) hS ?_
          · intro wz hwz
            try dsimp only at hwz
            have h9 := HSL.out wz
            simp [go_sem, h9]
          simp only [Act.put, List.setIfInBounds_toArray, List.set_cons_zero, List.set_cons_succ]
          refine HL.one (i := 10) (o := _) rfl (by kernel_rfl) (by decide) (by rfl) ?_
          intro K hK
          go_simp
          have hS0 := hS
          clear hS
          obtain ⟨wa, hwa⟩ : ∃ wa, wa = (wr.alloc (.cells #[.slice A5 (len0 xss) c5, .slice (cutA A4' c4' j) (len0 yss - j) (c4' - j)] 30)).drew := ⟨_, rfl⟩
          have hba : Below (w.heap.size + 3) W wa := by rw [hwa]; exact (hbw.alloc hsrN' _).drew
          have hbra : Below wr.heap.size wr wa := by rw [hwa]; exact ((Below.refl _ _).alloc (Nat.le_refl _) _).drew
          have hgwa : g < wa.heap.size := by rw [hwa]; simp; omega
          have hxa : wa.heap[g]? = some (.cells #[.int .i64 r, V] 24 (0, 0)) := (hbra.block g hgr').trans hbxr
          have HRW : Hid (RowsAt wa wa.heap.size (some ⟨wr.heap.size, 0, none⟩) 2 [(rowOf Y k).take (len0 xss), (rowOf yss k).drop j]) := by
            show RowsAt _ _ _ _ _
            have hp0 : wa.cell? ⟨wr.heap.size, 0, none⟩ = some (.slice A5 (len0 xss) c5) := by rw [hwa]; simp [go_sem]
            have hp1 : wa.cell? ⟨wr.heap.size, 1, none⟩ = some (.slice (cutA A4' c4' j) (len0 yss - j) (c4' - j)) := by rw [hwa]; simp [go_sem]
            refine ⟨rfl, by unfold maxLen; omega, fun q hq => ⟨_, rfl, by rw [hwa]; simp, ?_⟩⟩
            have hq2 : q = 0 ∨ q = 1 := by omega
            rcases hq2 with rfl | rfl
            · exact ⟨A5, _, c5, hp0, hcc1, hcc2, (hrowI.out.below hbra (Nat.le_refl _)).mono hbra.size⟩
            · have h5 := (((hy'.out.below (hba.mono (by omega)) (Nat.le_refl _)).mono (by have := hba.size; omega : B ≤ wa.heap.size)).cut hn4' hmb (Nat.le_refl _))
              have h6 : ((rowOf yss k).drop j).take (len0 yss - j) = (rowOf yss k).drop j := List.take_of_length_le (by rw [hlen2]; exact Nat.le_refl _)
              rw [h6] at h5
              exact ⟨_, _, _, hp1, by omega, by unfold maxLen; omega, h5⟩
          have hS : Below (w.heap.size + 3) W wa ∧ (∀ z : Addr, z.block < w.heap.size + 3 → wa.cell? z = W.cell? z) ∧ wa.heap[g]? = some (.cells #[.int .i64 r, V] 24 (0, 0)) ∧ wa.cell? ⟨g, 1, none⟩ = some V := ⟨hba, pcell hba, hxa, own_cell1 hxa 1⟩
          have houta : wa.ownsRow (g + 1) 30 1 V k rows := own_below houtr hbra
          have HLa := Lib.hid (hLr.out.below hbra)
          rw [← hwa]
          clear hwa hS0
          refine hK.out _ _ hS ?_
          try simp only [Act.put, List.setIfInBounds_toArray, List.set_cons_zero, List.set_cons_succ]
          clear hK K
          refine HL.one (i := 11) (o := _) rfl (by kernel_rfl) (by decide) (by rfl) ?_
          intro K hK
          go_simp
          have hFL : Hid (([(rowOf Y k).take (len0 xss), (rowOf yss k).drop j] : List (List Int)).flatten = rowOf Y k) := by show _ = _; rw [← HT1.out]; simp [HT1.out]
          have hLn := HYL.out
          with_reducible refine (CONCAT_any _ 2 2 _ _ hFL _ _ (Nat.le_refl _) (by omega) (by omega) HRW).mono ?_
          rw [hLn]
          rintro e w3 ⟨⟨A3, c3, rfl, hown3⟩, hb3⟩
          have hbS := Below.next hS.1 hsW hb3
          have hbx3 := (hb3.block g (blk_lt hS.2.2.1)).trans hS.2.2.1
          have hlt3 : g < w3.heap.size := blk_lt hbx3
          have hN3 : w.heap.size + 3 ≤ w3.heap.size := Nat.le_trans hsW hbS.size
          clear hS
          have hS : Below (w.heap.size + 3) W w3 ∧ (∀ z : Addr, z.block < w.heap.size + 3 → w3.cell? z = W.cell? z) ∧ w3.heap[g]? = some (.cells #[.int .i64 r, V] 24 (0, 0)) ∧ w3.cell? ⟨g, 1, none⟩ = some V := ⟨hbS, pcell hbS, hbx3, own_cell1 hbx3 1⟩
          refine hK.out _ _ hS ?_
          try simp only [Act.put, List.setIfInBounds_toArray, List.set_cons_zero, List.set_cons_succ]
          clear hK K
          refine HL.one (i := 12) (o := _) rfl (by kernel_rfl) (by decide) (by rfl) ?_
          intro K hK
          go_simp
          have hS' := hS
          clear hS
          have hS : Below (w.heap.size + 3) W (w3.alloc (.cells #[.slice A3 L c3] 30)) ∧ (∀ z : Addr, z.block < w.heap.size + 3 → (w3.alloc (.cells #[.slice A3 L c3] 30)).cell? z = W.cell? z) ∧ (w3.alloc (.cells #[.slice A3 L c3] 30)).heap[g]? = some (.cells #[.int .i64 r, V] 24 (0, 0)) ∧ (w3.alloc (.cells #[.slice A3 L c3] 30)).cell? ⟨g, 1, none⟩ = some V := ⟨hbS.alloc hN3 _, pcell (hbS.alloc hN3 _), (Below.heap_alloc _ _ _ hlt3).trans hbx3, own_cell1 ((Below.heap_alloc _ _ _ hlt3).trans hbx3) 1⟩
          refine hK.out _ _ hS ?_
          try simp only [Act.put, List.setIfInBounds_toArray, List.set_cons_zero, List.set_cons_succ]
          clear hK K hS'
          refine HL.one (i := 13) (o := _) rfl (by kernel_rfl) (by decide) (by rfl) ?_
          intro K hK
          refine wp_append_lies _ (.tmp 143) (.tmp 154) 22 (by rfl) (g + 1) 30 i0 _ 1 24 Try.underlying22 hi0 hi1 hi2 hi3 rfl (by omega) V k rows (by rfl) ((own_below houta hb3).alloc _) ⟨w3.heap.size, 0, none⟩ 1 1 [.slice A3 L c3] (by rfl) rfl (cell_one_new _ _ _) (by intro u hu; simp at hu; subst hu; rfl) (by omega) (by simp only [maxLen]; omega) (by omega) (by simp; omega) (w3.heap.size + 1) (by simp) ?_
          intro g4 cap4 w4 hown4 hg4 hat4 hlt4
          have hVb2 : ∀ j, V.ownBlock = some j → g + 1 ≤ j := fun j hj => (own_lt hout hj).1
          have hbS4 := (hbS.alloc hN3 (.cells #[.slice A3 L c3] 30)).grown hg4 (by simp; omega) (fun j hj => by have := hVb2 j hj; omega)
          have hbx4 := (hg4.block g (by simp; omega) (fun e => by have := hVb2 g e.symm; omega)).trans ((Below.heap_alloc _ _ _ hlt3).trans hbx3)
          refine hK.out _ _ ⟨hbS4, pcell hbS4, hbx4, own_cell1 hbx4 1⟩ ?_
          try simp only [Act.put, List.setIfInBounds_toArray, List.set_cons_zero, List.set_cons_succ]
          clear hK K hS
          refine HL.done (by kernel_rfl) ?_
          simp only [List.drop_succ_cons, List.drop_zero]
          have hcg4 := own_cell1 hbx4 1
          have hfz4 := frozen_of_row w4 g 1 _ _ hbx4
          simp at hcg4
          go_wp2
          have hYk' : (Y.take k).length = k := hYk
          have hpush := HLa.out.push (w := w3.alloc (.cells #[.slice A3 L c3] 30)) (w' := w4) (xs := rowOf Y k) (hb3.alloc hb3.size _) (by omega) (by rw [hLn]; exact hown3.alloc _) (by rw [hYk']; exact hown4) hg4
          have HP := Lib.hid hpush
          have hbx5 := heap_setCell_same w4 g 1 _ _ (.slice (some ⟨g4, 0, none⟩) (k + 1) cap4) hbx4
          have HB := Lib.hid hbx5
          clear hpush hbx5
          go_roundw
          case rel =>
            refine ⟨k + 1, _, rows ++ [.slice A3 L c3], by omega, by go_num, rfl, hbS4.setCell (p := ⟨g, 1, none⟩) hNg _, HB.out, ?_⟩
            show OwnRowsL _ _ _ _ _
            rw [take_row (by rw [HY.out]; exact hlt)]
            exact HP.out.set_below (p := ⟨g, 1, none⟩) (by simp) _
          case measure => simp [intOf]; omega
    · obtain rfl : k = n := by omega
      obtain ⟨AV, cV, hVe, _, _⟩ := own_form hL.out.outer
      have hYk : Y.take k = Y := List.take_of_length_le (by rw [HY.out]; exact Nat.le_refl _)
      rw [hYk, HY.out] at hVe
      subst hVe
      have hcr0 : wr.cell? ⟨w.heap.size + 1 + 1, 0, none⟩ = some (.int .i64 0) := by rw [hz _ (by simp), hcW _ _ (by simp)]; simp [go_sem]
      have hcr1 : wr.cell? ⟨w.heap.size + 1 + 1, 1, none⟩ = some (.slice none 0 0) := by rw [hz _ (by simp), hcW _ _ (by simp)]; simp [go_sem]
      have hfr := fun b o h => ((bcell hb.out).2 b o h)
      rw [cntK_all HTl.out]
      go_wp2_with fail
      refine end_snd3 rfl rfl rfl hcr0 hcr1 ?_
      rw [HYD.out]
      have HY9 := HY.out
      have h1 := hL.out
      rw [hYk] at h1
      exact ⟨_, by simp [HY9], ⟨rows, ((h1.set_below (p := ⟨w.heap.size + 1 + 1, 0, none⟩) (show w.heap.size + 1 + 1 < g + 1 by omega) _).set_below (p := ⟨w.heap.size + 1 + 1, 1, none⟩) (show w.heap.size + 1 + 1 < g + 1 by omega) _).base (show w.heap.size ≤ g + 1 by omega)⟩, set2_below (hbW.trans (hb.out.mono (by omega))) (by omega)⟩
end Go.Proofs.Ytpnbkkpbgpcgiaa
