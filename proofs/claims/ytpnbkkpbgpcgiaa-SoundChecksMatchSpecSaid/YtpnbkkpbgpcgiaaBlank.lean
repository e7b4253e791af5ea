/- blank | empty: a sound of zeros. -/
import Derived.Test.YtpnbkkpbgpcgiaaMem2
import Derived.Test.YtpnbkkpbgpcgiaaRegion
import Derived.Test.YtpnbkkpbgpcgiaaEnds
import Derived.Test.YtpnbkkpbgpcgiaaClone
set_option linter.unusedSimpArgs false
set_option linter.unusedVariables false
namespace Go.Proofs.Ytpnbkkpbgpcgiaa
open Go.RowKit Go.Dw

set_option maxRecDepth 100000 in
set_option maxHeartbeats 1000000 in
theorem BLANK_any (r : Int) (T n : Nat) (hT : T ≤ 1000000) (hn : n ≤ 1000000) (w : World) :
    Calls Try.prog 59 #[.int .i64 r, .int .i64 T, .int .i64 n] w (OutS1 w r (zeroS T n)) := by
  obtain ⟨i0, hi0, hi1, hi2, hi3⟩ := info_parts ints_info
  obtain ⟨j0, hj0, hj1, hj2, hj3⟩ := info_parts int_info
  have hmk := run_mk (P := Try.prog) 22 30 i0 _ Try.underlying22 hi0 hi1 hi2 rfl T (by rw [hi3]; omega) (by omega)
  have hmi := run_mk (P := Try.prog) 30 3 j0 _ Try.underlying30 hj0 hj1 hj2 rfl n (by rw [hj3]; omega) (by omega)
  clear hi0 hi1 hi2 hi3 hj0 hj1 hj2 hj3
  go_enter Try.func59, Try.ntmps59
  go_wp2_with fail
  go_loopw [16] (fun i wr => ∃ (k : Nat) (rows : List Value), k ≤ T ∧ i = .int .i64 k ∧ Hid (Below w.heap.size w wr) ∧ Hid (wr.heap[w.heap.size]? = some (.cells #[.int .i64 0, .slice none 0 0] 24 (0, 0))) ∧ Hid (wr.heap[w.heap.size + 1 + 1]? = some (.cells #[.int .i64 r, .slice (some ⟨w.heap.size + 1, 0, none⟩) T T] 24 (0, 0))) ∧ Hid (OwnRowsL wr (w.heap.size + 1) (.slice (some ⟨w.heap.size + 1, 0, none⟩) T T) (zeroK T n k) rows)) (fun i _ => T - (intOf i).toNat)
  case atStart =>
    have h3 := heap3 w (.cells #[.int .i64 0, .slice none 0 0] 24) (.cells (mk0 (.slice none 0 0) T) 30) (.cells #[.int .i64 r, .slice (some ⟨w.heap.size + 1, 0, none⟩) T T] 24)
    refine ⟨0, List.replicate T (.slice none 0 0), Nat.zero_le _, rfl, (((Below.refl _ _).alloc (Nat.le_refl _) _).alloc (by simp) _).alloc (by simp; omega) _, h3.1, h3.2.2, ?_⟩
    have h4 := (OwnRowsL.nils (w.alloc (.cells #[.int .i64 0, .slice none 0 0] 24)) (w.heap.size + 1) T (by simp) (by simp only [maxLen]; omega)).alloc (.cells #[.int .i64 r, .slice (some ⟨w.heap.size + 1, 0, none⟩) T T] 24)
    show OwnRowsL _ _ _ _ _
    rw [zeroK_start]
    simpa using h4
  case round =>
    obtain ⟨k, rows, hk, rfl, hb, hres, hbox, hL⟩ := hrel
    by_cases hlt : k < T
    · have hg7 : w.heap.size + 1 + 1 < wr.heap.size := blk_lt hbox.out
      have hk0 : (0 : Int) ≤ (k : Int) := by omega
      have hkn : (k : Int) < (T : Int) := by omega
      have hcr := own_cell1 hbox.out 1
      simp at hcr
      go_wp2_with fail
      have hS : wr.drew.heap[w.heap.size + 1 + 1]? = some (.cells #[.int .i64 r, .slice (some ⟨w.heap.size + 1, 0, none⟩) T T] 24 (0, 0)) ∧ wr.drew.cell? ⟨w.heap.size + 1 + 1, 1, none⟩ = some (.slice (some ⟨w.heap.size + 1, 0, none⟩) T T) := ⟨hbox.out, own_cell1 hbox.out 1⟩
      refine wp_region_head 5 (fun w' => w'.heap[w.heap.size + 1 + 1]? = some (.cells #[.int .i64 r, .slice (some ⟨w.heap.size + 1, 0, none⟩) T T] 24 (0, 0)) ∧ w'.cell? ⟨w.heap.size + 1 + 1, 1, none⟩ = some (.slice (some ⟨w.heap.size + 1, 0, none⟩) T T)) (by kernel_rfl) (by kernel_rfl) ?_
      refine HL.take (i := 0) (oi := _) (v := ?_) rfl (by kernel_rfl) (by kernel_rfl) (by decide) (fun _ _ _ h => h) (Or.inl ⟨by rfl, ?_⟩) hS ?_
      rotate_left
      · intro wz hwz
        try dsimp only at hwz
        go_simp
        try with_reducible rfl
      simp only [Act.put, List.setIfInBounds_toArray, List.set_cons_zero, List.set_cons_succ]
      refine HL.take (i := 1) (oi := _) (v := ?_) rfl (by kernel_rfl) (by kernel_rfl) (by decide) (fun _ _ _ h => h) (Or.inl ⟨by rfl, ?_⟩) hS ?_
      rotate_left
      · intro wz hwz
        try dsimp only at hwz
        go_simp
        try with_reducible rfl
      simp only [Act.put, List.setIfInBounds_toArray, List.set_cons_zero, List.set_cons_succ]
      refine HL.take (i := 2) (oi := _) (v := ?_) rfl (by kernel_rfl) (by kernel_rfl) (by decide) (fun _ _ _ h => h) (Or.inl ⟨by rfl, ?_⟩) hS ?_
      rotate_left
      · intro wz hwz
        try dsimp only at hwz
        go_simp
        try with_reducible rfl
      simp only [Act.put, List.setIfInBounds_toArray, List.set_cons_zero, List.set_cons_succ]
      refine HL.take (i := 3) (oi := _) (v := ?_) rfl (by kernel_rfl) (by kernel_rfl) (by decide) (fun _ _ _ h => h) (Or.inl ⟨by rfl, ?_⟩) hS ?_
      rotate_left
      · intro wz hwz
        try dsimp only at hwz
        go_simp
        try with_reducible rfl
      simp only [Act.put, List.setIfInBounds_toArray, List.set_cons_zero, List.set_cons_succ]
      refine HL.one (i := 4) (o := _) rfl (by kernel_rfl) (by decide) (by rfl) ?_
      intro K hK
      go_simp
      refine hK.out _ _ ⟨(Below.heap_alloc _ _ _ (by simpa using hg7)).trans hbox.out, own_cell1 ((Below.heap_alloc _ _ _ (by simpa using hg7)).trans hbox.out) 1⟩ ?_
      try simp only [Act.put, List.setIfInBounds_toArray, List.set_cons_zero, List.set_cons_succ]
      clear hK K hS
      refine HL.done (by kernel_rfl) ?_
      simp only [List.drop_succ_cons, List.drop_zero]
      obtain ⟨rk, hrk, _⟩ := hL.out.row (k := k) (by rw [zeroK_length hk]; exact hlt)
      have hout := hL.out.outer
      rw [zeroK_length hk] at hout
      have hck := (hout.cellAt k (by omega)).trans hrk
      have hfk := hout.frozenAt k
      have hg1 : w.heap.size + 1 < wr.heap.size := by omega
      clear hrk hcr hout
      go_wp2
      have HL' := Lib.hid (hL.out.setRow (w := wr.alloc (.cells (mk0 (.int .i64 0) n) 3)) (r := .slice (some ⟨wr.heap.size, 0, none⟩) n n) (xs := List.replicate n 0) (k := k) ((Below.refl _ _).alloc (Nat.le_refl _) _) (by omega) (by simpa using own_mk wr wr.heap.size 3 (.int .i64 0) n (Nat.le_refl _) (by simp only [maxLen]; omega)) (by rw [zeroK_length hk]; exact hlt))
      go_roundw
      case rel =>
        have HL2 := HL'.out
        rw [World.setCell_alloc_past _ _ _ _ hg1, zeroK_step hlt] at HL2
        have hgg : w.heap.size < (wr.setCell ⟨w.heap.size + 1, k, none⟩ (.slice (some ⟨wr.heap.size, 0, none⟩) n n)).heap.size := by simp; omega
        have hgg2 : w.heap.size + 1 + 1 < (wr.setCell ⟨w.heap.size + 1, k, none⟩ (.slice (some ⟨wr.heap.size, 0, none⟩) n n)).heap.size := by simp; omega
        refine ⟨k + 1, rows.set k (.slice (some ⟨wr.heap.size, 0, none⟩) n n), by omega, by go_num, ?_, ?_, ?_, ?_⟩
        · exact ((hb.out.setCell (p := ⟨w.heap.size + 1, k, none⟩) (by simp) _).alloc (by omega) _).drew
        · show _ = _
          exact (Below.heap_alloc _ _ _ hgg).trans ((Below.heap_setCell _ _ _ _ (by simp)).trans hres.out)
        · show _ = _
          exact (Below.heap_alloc _ _ _ hgg2).trans ((Below.heap_setCell _ _ _ _ (by simp)).trans hbox.out)
        · exact HL2.drew
      case measure => simp [intOf]; omega
    · obtain rfl : k = T := by omega
      have hcr0 := own_cell1 hres.out 0
      have hcr1 := own_cell1 hres.out 1
      have hcb0 := own_cell1 hbox.out 0
      have hcb1 := own_cell1 hbox.out 1
      have hf0 := frozen_of_row wr w.heap.size 0 _ _ hres.out
      have hf1 := frozen_of_row wr w.heap.size 1 _ _ hres.out
      simp at hcr0 hcr1 hcb0 hcb1
      go_wp2
      refine end_snd1 rfl rfl rfl hcr0 hcr1 ?_
      refine ⟨_, rfl, ⟨rows, ?_⟩, set2_below hb.out (Nat.le_refl _)⟩
      have h1 := hL.out
      rw [zeroK_end] at h1
      exact ((h1.set_below (p := ⟨w.heap.size, 0, none⟩) (by simp) _).set_below (p := ⟨w.heap.size, 1, none⟩) (by simp) _).base (by omega)

theorem heap2 (w : World) (A B : Obj) : ((w.alloc A).alloc B).heap[w.heap.size]? = some A ∧ ((w.alloc A).alloc B).heap[w.heap.size + 1]? = some B := by
  have h1 : (w.alloc A).heap.size = w.heap.size + 1 := by simp
  refine ⟨?_, ?_⟩
  · rw [Below.heap_alloc _ _ _ (by omega)]; exact heap_alloc_new _ _
  · rw [← h1]; exact heap_alloc_new _ _
theorem rep_snoc (k n : Nat) : zeroS k n ++ [List.replicate n 0] = zeroS (k + 1) n := by
  unfold zeroS
  rw [List.replicate_succ']

set_option maxRecDepth 100000 in
set_option maxHeartbeats 1000000 in
theorem REMPTY_any (r : Int) (T n : Nat) (hT : T ≤ 1000000) (hn : n ≤ 1000000) (w : World) :
    Calls Try.prog 67 #[.int .i64 r, .int .i64 T, .int .i64 n] w (OutS1 w r (zeroS T n)) := by
  obtain ⟨i0, hi0, hi1, hi2, hi3⟩ := info_parts ints_info
  obtain ⟨j0, hj0, hj1, hj2, hj3⟩ := info_parts int_info
  have hmi := run_mk (P := Try.prog) 30 3 j0 _ Try.underlying30 hj0 hj1 hj2 rfl n (by rw [hj3]; omega) (by omega)
  clear hj0 hj1 hj2 hj3
  go_enter Try.func67, Try.ntmps67
  go_wp2_with fail
  go_loopw [8] (fun i wr => ∃ (k : Nat) (V : Value) (rows : List Value), k ≤ T ∧ i = .int .i64 k ∧ Hid (Below w.heap.size w wr) ∧ Hid (wr.heap[w.heap.size]? = some (.cells #[.int .i64 0, .slice none 0 0] 24 (0, 0))) ∧ Hid (wr.heap[w.heap.size + 1]? = some (.cells #[.int .i64 r, V] 24 (0, 0))) ∧ Hid (OwnRowsL wr (w.heap.size + 2) V (zeroS k n) rows)) (fun i _ => T - (intOf i).toNat)
  case atStart =>
    have h3 := heap2 w (.cells #[.int .i64 0, .slice none 0 0] 24) (.cells #[.int .i64 r, .slice none 0 0] 24)
    exact ⟨0, .slice none 0 0, [], Nat.zero_le _, rfl, ((Below.refl _ _).alloc (Nat.le_refl _) _).alloc (by simp) _, h3.1, h3.2, World.ownsRow_nil _ _ _ _, fun k r h => by simp at h, fun i j r r' _ h => by simp at h⟩
  case round =>
    obtain ⟨k, V, rows, hk, rfl, hb, hres, hbox, hL⟩ := hrel
    by_cases hlt : k < T
    · have hg1 : w.heap.size + 1 < wr.heap.size := blk_lt hbox.out
      have hout := hL.out.outer
      rw [zeroS_length] at hout
      have hVb : ∀ j, V.ownBlock = some j → w.heap.size + 2 ≤ j := fun j hj => (own_lt hout hj).1
      go_wp2_with fail
      have hS : wr.drew.heap[w.heap.size + 1]? = some (.cells #[.int .i64 r, V] 24 (0, 0)) ∧ wr.drew.cell? ⟨w.heap.size + 1, 1, none⟩ = some V := ⟨hbox.out, own_cell1 hbox.out 1⟩
      refine wp_region_head 6 (fun w' => w'.heap[w.heap.size + 1]? = some (.cells #[.int .i64 r, V] 24 (0, 0)) ∧ w'.cell? ⟨w.heap.size + 1, 1, none⟩ = some V) (by kernel_rfl) (by kernel_rfl) ?_
      refine HL.take (i := 0) (oi := _) (v := ?_) rfl (by kernel_rfl) (by kernel_rfl) (by decide) (fun _ _ _ h => h) (Or.inl ⟨by rfl, ?_⟩) hS ?_
      rotate_left
      · intro wz hwz
        try dsimp only at hwz
        go_simp
        try with_reducible rfl
      simp only [Act.put, List.setIfInBounds_toArray, List.set_cons_zero, List.set_cons_succ]
      refine HL.take (i := 1) (oi := _) (v := ?_) rfl (by kernel_rfl) (by kernel_rfl) (by decide) (fun _ _ _ h => h) (Or.inl ⟨by rfl, ?_⟩) hS ?_
      rotate_left
      · intro wz hwz
        try dsimp only at hwz
        go_simp
        try with_reducible rfl
      simp only [Act.put, List.setIfInBounds_toArray, List.set_cons_zero, List.set_cons_succ]
      refine HL.take (i := 2) (oi := _) (v := ?_) rfl (by kernel_rfl) (by kernel_rfl) (by decide) (fun _ _ _ h => h) (Or.inl ⟨by rfl, ?_⟩) hS ?_
      rotate_left
      · intro wz hwz
        try dsimp only at hwz
        go_simp
        try with_reducible rfl
      simp only [Act.put, List.setIfInBounds_toArray, List.set_cons_zero, List.set_cons_succ]
      refine HL.one (i := 3) (o := _) rfl (by kernel_rfl) (by decide) (by rfl) ?_
      intro K hK
      go_simp
      have hx3 := (Below.heap_alloc wr (.cells (mk0 (.int .i64 0) n) 3) _ hg1).trans hbox.out
      refine hK.out _ _ ⟨hx3, own_cell1 hx3 1⟩ ?_
      try simp only [Act.put, List.setIfInBounds_toArray, List.set_cons_zero, List.set_cons_succ]
      clear hK K hS
      have hS : (wr.alloc (.cells (mk0 (.int .i64 0) n) 3)).drew.heap[w.heap.size + 1]? = some (.cells #[.int .i64 r, V] 24 (0, 0)) ∧ (wr.alloc (.cells (mk0 (.int .i64 0) n) 3)).drew.cell? ⟨w.heap.size + 1, 1, none⟩ = some V := ⟨hx3, own_cell1 hx3 1⟩
      refine HL.one (i := 4) (o := _) rfl (by kernel_rfl) (by decide) (by rfl) ?_
      intro K hK
      go_simp
      have hx4 := (Below.heap_alloc (wr.alloc (.cells (mk0 (.int .i64 0) n) 3)) (.cells #[.slice (some ⟨wr.heap.size, 0, none⟩) n n] 30) _ (by simp; omega)).trans hx3
      refine hK.out _ _ ⟨hx4, own_cell1 hx4 1⟩ ?_
      try simp only [Act.put, List.setIfInBounds_toArray, List.set_cons_zero, List.set_cons_succ]
      clear hK K hS
      refine HL.one (i := 5) (o := _) rfl (by kernel_rfl) (by decide) (by rfl) ?_
      intro K hK
      have hown5 : ((wr.alloc (.cells (mk0 (.int .i64 0) n) 3)).alloc (.cells #[.slice (some ⟨wr.heap.size, 0, none⟩) n n] 30)).drew.ownsRow (w.heap.size + 2) 30 1 V k rows := (hout.alloc _).alloc _
      have hnew5 := cell_one_new (wr.alloc (.cells (mk0 (.int .i64 0) n) 3)) (.slice (some ⟨wr.heap.size, 0, none⟩) n n) 30
      simp only [World.size_alloc] at hnew5
      refine wp_append_lies _ (.tmp 17) (.tmp 20) 22 (by rfl) (w.heap.size + 2) 30 i0 _ 1 24 Try.underlying22 hi0 hi1 hi2 hi3 rfl (by omega) V k rows (by rfl) hown5 ⟨wr.heap.size + 1, 0, none⟩ 1 1 [.slice (some ⟨wr.heap.size, 0, none⟩) n n] (by rfl) rfl hnew5 (by intro u hu; simp at hu; subst hu; rfl) (by omega) (by simp only [maxLen]; omega) (by omega) (by simp; omega) (wr.heap.size + 2) (by simp) ?_
      intro g4 cap4 w4 hown4 hg4 hat4 hlt4
      have hbS4 : Below w.heap.size w w4 := (((hb.out.alloc (by omega) (.cells (mk0 (.int .i64 0) n) 3)).alloc (by simp; omega) (.cells #[.slice (some ⟨wr.heap.size, 0, none⟩) n n] 30)).drew).grown hg4 (by simp; omega) (fun j hj => by have := hVb j hj; omega)
      have hbx4 := (hg4.block (w.heap.size + 1) (by simp; omega) (fun e => by have := hVb _ e.symm; omega)).trans hx4
      have hrs4 := (hg4.block w.heap.size (by simp; omega) (fun e => by have := hVb _ e.symm; omega)).trans ((Below.heap_alloc (wr.alloc (.cells (mk0 (.int .i64 0) n) 3)) (.cells #[.slice (some ⟨wr.heap.size, 0, none⟩) n n] 30) _ (by simp; omega)).trans ((Below.heap_alloc wr (.cells (mk0 (.int .i64 0) n) 3) _ (by omega)).trans hres.out))
      refine hK.out _ _ ⟨hbx4, own_cell1 hbx4 1⟩ ?_
      try simp only [Act.put, List.setIfInBounds_toArray, List.set_cons_zero, List.set_cons_succ]
      clear hK K
      refine HL.done (by kernel_rfl) ?_
      simp only [List.drop_succ_cons, List.drop_zero]
      have hcg4 := own_cell1 hbx4 1
      have hfz4 := frozen_of_row w4 (w.heap.size + 1) 1 _ _ hbx4
      simp at hcg4
      have hpush := hL.out.push (w := ((wr.alloc (.cells (mk0 (.int .i64 0) n) 3)).alloc (.cells #[.slice (some ⟨wr.heap.size, 0, none⟩) n n] 30)).drew) (w' := w4) (xs := List.replicate n 0) (((Below.refl _ _).alloc (Nat.le_refl _) _).alloc (by simp) _).drew (by omega)
        (by rw [List.length_replicate, List.map_replicate]; exact (own_mk wr wr.heap.size 3 (.int .i64 0) n (Nat.le_refl _) (by simp only [maxLen]; omega)).alloc _) (by rw [zeroS_length]; exact hown4) hg4
      rw [rep_snoc] at hpush
      have HP := Lib.hid hpush
      have HB := Lib.hid (heap_setCell_same w4 (w.heap.size + 1) 1 _ _ (.slice (some ⟨g4, 0, none⟩) (k + 1) cap4) hbx4)
      have HR := Lib.hid ((Below.heap_setCell w4 ⟨w.heap.size + 1, 1, none⟩ (.slice (some ⟨g4, 0, none⟩) (k + 1) cap4) w.heap.size (by simp)).trans hrs4)
      clear hpush hx3 hx4 hnew5 hown5 hrs4
      go_wp2
      go_roundw
      case rel => exact ⟨k + 1, _, rows ++ [Value.slice (some ⟨wr.heap.size, 0, none⟩) n n], by omega, by go_num, hbS4.setCell (p := ⟨w.heap.size + 1, 1, none⟩) (by simp) _, HR.out, HB.out, (HP.out.set_below (p := ⟨w.heap.size + 1, 1, none⟩) (by simp) _ : OwnRowsL _ _ _ _ _)⟩
      case measure => simp [intOf]; omega
    · obtain rfl : k = T := by omega
      obtain ⟨AV, cV, hVe, _, _⟩ := own_form hL.out.outer
      rw [zeroS_length] at hVe
      subst hVe
      have hcr0 := own_cell1 hres.out 0
      have hcr1 := own_cell1 hres.out 1
      have hcb0 := own_cell1 hbox.out 0
      have hcb1 := own_cell1 hbox.out 1
      have hf0 := frozen_of_row wr w.heap.size 0 _ _ hres.out
      have hf1 := frozen_of_row wr w.heap.size 1 _ _ hres.out
      simp at hcr0 hcr1 hcb0 hcb1
      go_wp2
      refine end_snd1 rfl rfl rfl hcr0 hcr1 ?_
      exact ⟨_, rfl, ⟨rows, ((hL.out.set_below (p := ⟨w.heap.size, 0, none⟩) (by simp) _).set_below (p := ⟨w.heap.size, 1, none⟩) (by simp) _).base (by omega)⟩, set2_below hb.out (Nat.le_refl _)⟩
end Go.Proofs.Ytpnbkkpbgpcgiaa
