/- chunkAt, where there is a chunk. -/
import Derived.Test.YtlnjildkdmeflaaDoorChunk1
set_option linter.unusedSimpArgs false
set_option linter.unusedVariables false
namespace Go.Proofs.YtlnjildkdmeflaaDoor
open Go.RowKit Go.Dw
set_option maxRecDepth 100000 in
set_option maxHeartbeats 4000000 in
theorem CHUNKAT_ok (A : Option Addr) (n c at_ : Nat) (b : By) (hn : n ≤ 8000000) (hat : at_ + 8 ≤ n) (hc9 : n ≤ c ∧ c ≤ maxLen) (hnb : Hid (nameB (cutB b at_ (at_ + 4)) = true)) (hnx : at_ + 8 + lenN b at_ + lenN b at_ % 2 ≤ n ∧ (lenN b at_ % 2 = 1 → byOf b (at_ + 8 + lenN b at_ + lenN b at_ % 2 - 1) = 0)) (w : World) (B : Nat) (hB : B ≤ w.heap.size) (hh : Hid (BysAt w B A n b)) :
    Calls Tryd.prog 40 #[.slice A n c, .int .i64 at_] w fun e w' => ∃ v, e = .returned (.tuple #[.agg #[strOf (cutB b at_ (at_ + 4)), v], .int .i64 (nextN at_ (lenN b at_) : Nat), .bool true]) ∧ OwnBys w' w.heap.size v (cutB b (at_ + 8) (at_ + 8 + lenN b at_)) ∧ Below w.heap.size w w' := by
  obtain ⟨M, hM⟩ : ∃ M, lenN b at_ = M := ⟨_, rfl⟩
  have HMM := Lib.hid hM
  unfold strOf nextN
  rw [HMM.out]
  clear hM
  have d1 : decide ((n : Int) - (at_ : Int) < 8) = false := by simp; omega
  have hlen := Lib.hid hh.out.1
  have HNM : Hid (BysAt w B (cutA A c at_) 4 (cutB b at_ (at_ + 4))) := by
    have := hh.out.cut hc9.1 (p := at_) (q := at_ + 4) (by omega) (by omega)
    rw [show at_ + 4 - at_ = 4 by omega] at this
    exact this
  obtain ⟨s, hs⟩ : ∃ s, ByteArray.mk (cutB b at_ (at_ + 4)).toArray = s := ⟨_, rfl⟩
  have HS := Lib.hid hs
  obtain ⟨hnc, hcm⟩ := hc9
  unfold maxLen at hcm
  go_enter Tryd.func40, Tryd.ntmps40
  go_upto_region 1 with (fail)
  obtain ⟨X, hX⟩ : ∃ X, X = w.alloc (.cells #[.string ⟨#[]⟩, .slice none 0 0] 42) := ⟨_, rfl⟩
  have hXb : Below w.heap.size w X := by rw [hX]; exact (Below.refl _ w).alloc (Nat.le_refl _) _
  have hX0 : X.cell? ⟨w.heap.size, 0, none⟩ = some (.string ⟨#[]⟩) := by rw [hX]; simp [go_sem]
  have hX1 : X.cell? ⟨w.heap.size, 1, none⟩ = some (.slice none 0 0) := by rw [hX]; simp [go_sem]
  have hXs : X.heap.size = w.heap.size + 1 := by rw [hX]; simp
  have hXf0 : X.frozen? ⟨w.heap.size, 0, none⟩ = false := by rw [hX]; simp [go_sem]
  have hXf1 : X.frozen? ⟨w.heap.size, 1, none⟩ = false := by rw [hX]; simp [go_sem]
  have HXB := Lib.hid hXb
  rw [← hX]
  obtain ⟨gx, hgx⟩ : ∃ gx, gx = w.heap.size := ⟨_, rfl⟩
  rw [← hgx] at hX0 hX1 hXs hXf0 hXf1 ⊢
  have hlt : gx < X.heap.size := by omega
  have HGX := Lib.hid hgx
  have hcv : (convert 26 9 (.slice (cutA A c at_) 4 (c - at_))).run Tryd.prog X = .ok (.string s) X := by
    have := run_str_of (c := c - at_) (HNM.out.below (hXb.mono hB) (Nat.le_refl _))
    unfold strOf at this
    rw [hs] at this
    exact this
  have hsl : ∀ W, (Instr.slice 26 (.slice A n c) (some (.int .i64 (at_ : Int))) (some (.int .i64 ((at_ : Int) + 4))) none).run Tryd.prog W = .ok (.slice (cutA A c at_) 4 (c - at_)) W :=
    fun W => run_cut_at (p := 0) (q := 4) (by omega) (by omega) (by omega) W
  clear hX hgx hXb hs hXs
  go_wp2_with fail
  refine (CHUNKNAME_str _ s HS _).mono ?_
  rintro e w1 ⟨rfl, rfl⟩
  have hm32 := lenN_lt (b := b) (at_ := at_) (by rw [hlen.out]; omega)
  have HLN : Hid (BysAt X B (cutA A c (at_ + 4)) 4 (cutB b (at_ + 4) (at_ + 8))) := by
    have := (hh.out.below (HXB.out.mono hB) (Nat.le_refl _)).cut hnc (p := at_ + 4) (q := at_ + 8) (by omega) (by omega)
    rw [show at_ + 8 - (at_ + 4) = 4 by omega] at this
    exact this
  have hsl2 : ∀ W, (Instr.slice 26 (.slice A n c) (some (.int .i64 ((at_ : Int) + 4))) (some (.int .i64 ((at_ : Int) + 8))) none).run Tryd.prog W = .ok (.slice (cutA A c (at_ + 4)) 4 (c - (at_ + 4))) W :=
    fun W => run_cut_at (p := 4) (q := 4) (by omega) (by omega) (by omega) W
  rw [hnb.out]
  clear hcv hsl
  go_wp2_with fail
  refine (GET_any _ 4 _ _ (by omega) _ B (by rw [HGX.out] at hlt; omega) HLN).mono ?_
  rintro e w1 ⟨rfl, rfl⟩
  rw [show numB (cutB b (at_ + 4) (at_ + 8)) = lenN b at_ from rfl]
  obtain ⟨m, hm⟩ : ∃ m, lenN b at_ = m := ⟨_, rfl⟩
  have HLM := Lib.hid hm
  rw [hm] at hm32 hnx ⊢
  clear hsl2 hm HLN
  obtain rfl : m = M := HLM.out.symm.trans HMM.out
  clear HLM
  obtain ⟨hx1, hx2⟩ := hnx
  have d2 : decide ((n : Int) < (at_ : Int) + 8 + (m : Int) + (m : Int) % 2) = false := by simp; omega
  by_cases hodd : m % 2 = 1
  · obtain ⟨bA, oA, hAe, hbA, hcell⟩ := (hh.out.below (HXB.out.mono hB) (Nat.le_refl _)).2 (at_ + 8 + m + m % 2 - 1) (by omega)
    have d3 : decide ((0 : Int) < (m : Int) % 2) = true := by simp; omega
    rw [hx2 hodd] at hcell
    obtain ⟨q, hq⟩ : ∃ q, at_ + 8 + m + m % 2 - 1 = q := ⟨_, rfl⟩
    rw [hq] at hcell
    subst hAe
    have hqI : (at_ : Int) + 8 + (m : Int) + (m : Int) % 2 - 1 = (q : Int) := by omega
    have hq0 : (0 : Int) ≤ (at_ : Int) + 8 + (m : Int) + (m : Int) % 2 - 1 := by omega
    have hqn : (at_ : Int) + 8 + (m : Int) + (m : Int) % 2 - 1 < (n : Int) := by omega
    have hc0 : X.cell? ⟨bA, oA + q, none⟩ = some (.int .u8 0) := hcell
    clear hcell hx2
    go_upto_region 7 with (fail)
    clear hqI hq0 hqn hc0 hq
    have HSX : Hid (BysAt X B (some ⟨bA, oA, none⟩) n b) := hh.out.below (HXB.out.mono hB) (Nat.le_refl _)
    have hw1 : IntKind.i64.wrap ((at_ : Int) + 4) = (at_ : Int) + 4 := IntWalk.i64_in _ (by omega)
    have hw2 : IntKind.i64.wrap ((at_ : Int) + 8) = (at_ : Int) + 8 := IntWalk.i64_in _ (by omega)
    have hw3 : IntKind.i64.wrap ((at_ : Int) + 8 + (m : Int)) = (at_ : Int) + 8 + (m : Int) := IntWalk.i64_in _ (by omega)
    have hsl : ∀ W, (Instr.slice 26 (.slice (some ⟨bA, oA, none⟩) n c) (some (.int .i64 (at_ : Int))) (some (.int .i64 ((at_ : Int) + 4))) none).run Tryd.prog W = .ok (.slice (cutA (some ⟨bA, oA, none⟩) c at_) 4 (c - at_)) W :=
      fun W => run_cut_at (p := 0) (q := 4) (by omega) (by omega) (by omega) W
    have hsl3 : ∀ W, (Instr.slice 26 (.slice (some ⟨bA, oA, none⟩) n c) (some (.int .i64 ((at_ : Int) + 8))) (some (.int .i64 ((at_ : Int) + 8 + (m : Int)))) none).run Tryd.prog W = .ok (.slice (cutA (some ⟨bA, oA, none⟩) c (at_ + 8)) m (c - (at_ + 8))) W :=
      fun W => run_cut_at (p := 8) (q := m) (by omega) (by omega) (by omega) W
    have HSL := Lib.hid hsl
    have HSL3 := Lib.hid hsl3
    have HCV : Hid (∀ W, BysAt W B (some ⟨bA, oA, none⟩) n b → (convert 26 9 (.slice (cutA (some ⟨bA, oA, none⟩) c at_) 4 (c - at_))).run Tryd.prog W = .ok (.string s) W) := fun W hW => by
      have h1 := hW.cut hnc (p := at_) (q := at_ + 4) (by omega) (by omega)
      rw [show at_ + 4 - at_ = 4 by omega] at h1
      have := run_str_of (c := c - at_) h1
      unfold strOf at this
      rw [HS.out] at this
      exact this
    clear hsl hsl3
    have hS := HSX.out
    refine wp_region_text 17 (fun x => BysAt x B (some ⟨bA, oA, none⟩) n b) (by kernel_rfl) (by kernel_rfl) ?_
    refine HT.take (i := 0) (oi := _) (v := ?_) rfl (by kernel_rfl) (by kernel_rfl) (by decide) (fun _ _ _ h => h) (Or.inl ⟨by rfl, ?_⟩) hS ?_
    rotate_left
    · intro wz
      go_simp
      try with_reducible rfl
    simp only [List.getElem_toArray, List.getElem_cons_succ, List.getElem_cons_zero, Act.put, List.setIfInBounds_toArray, List.set_cons_zero, List.set_cons_succ]
    refine HT.take (i := 1) (oi := _) (v := ?_) rfl (by kernel_rfl) (by kernel_rfl) (by decide) (fun _ _ _ h => h) (Or.inl ⟨by rfl, ?_⟩) hS ?_
    rotate_left
    · intro wz
      go_simp
      try with_reducible rfl
    simp only [List.getElem_toArray, List.getElem_cons_succ, List.getElem_cons_zero, Act.put, List.setIfInBounds_toArray, List.set_cons_zero, List.set_cons_succ]
    refine HT.take (i := 2) (oi := _) (v := ?_) rfl (by kernel_rfl) (by kernel_rfl) (by decide) (fun _ _ _ h => h) (Or.inl ⟨by rfl, ?_⟩) hS ?_
    rotate_left
    · intro wz
      go_simp
      try with_reducible rfl
    simp only [List.getElem_toArray, List.getElem_cons_succ, List.getElem_cons_zero, Act.put, List.setIfInBounds_toArray, List.set_cons_zero, List.set_cons_succ]
    refine HT.take (i := 3) (oi := _) (v := ?_) rfl (by kernel_rfl) (by kernel_rfl) (by decide) (fun _ _ _ h => h) (Or.inl ⟨by rfl, ?_⟩) hS ?_
    rotate_left
    · intro wz
      go_simp
      try with_reducible rfl
    simp only [List.getElem_toArray, List.getElem_cons_succ, List.getElem_cons_zero, Act.put, List.setIfInBounds_toArray, List.set_cons_zero, List.set_cons_succ]
    refine HT.take (i := 4) (oi := _) (v := .slice (cutA (some ⟨bA, oA, none⟩) c at_) 4 (c - at_)) rfl (by kernel_rfl) (by kernel_rfl) (by decide) (fun _ _ _ h => h) (Or.inl ⟨by rfl, ?_⟩) hS ?_
    · intro wz
      have h9 := HSL.out wz
      simp [go_sem, h9]
    simp only [List.getElem_toArray, List.getElem_cons_succ, List.getElem_cons_zero, Act.put, List.setIfInBounds_toArray, List.set_cons_zero, List.set_cons_succ]
    refine HT.load (i := 5) (oi := _) (v := .string s) rfl (by kernel_rfl) (by kernel_rfl) (by decide) (fun _ _ _ h => h) (by kernel_rfl) (Or.inl ⟨by rfl, ?_⟩) hS ?_
    · intro wz hwz
      have h9 := HCV.out wz hwz
      simp [go_sem, h9]
    simp only [List.getElem_toArray, List.getElem_cons_succ, List.getElem_cons_zero, Act.put, List.setIfInBounds_toArray, List.set_cons_zero, List.set_cons_succ]
    refine HT.take (i := 6) (oi := _) (v := ?_) rfl (by kernel_rfl) (by kernel_rfl) (by decide) (fun _ _ _ h => h) (Or.inl ⟨by rfl, ?_⟩) hS ?_
    rotate_left
    · intro wz
      go_simp
      try with_reducible rfl
    simp only [List.getElem_toArray, List.getElem_cons_succ, List.getElem_cons_zero, Act.put, List.setIfInBounds_toArray, List.set_cons_zero, List.set_cons_succ]
    refine HT.take (i := 7) (oi := _) (v := ?_) rfl (by kernel_rfl) (by kernel_rfl) (by decide) (fun _ _ _ h => h) (Or.inl ⟨by rfl, ?_⟩) hS ?_
    rotate_left
    · intro wz
      go_simp
      try with_reducible rfl
    simp only [List.getElem_toArray, List.getElem_cons_succ, List.getElem_cons_zero, Act.put, List.setIfInBounds_toArray, List.set_cons_zero, List.set_cons_succ]
    refine HT.take (i := 8) (oi := _) (v := ?_) rfl (by kernel_rfl) (by kernel_rfl) (by decide) (fun _ _ _ h => h) (Or.inl ⟨by rfl, ?_⟩) hS ?_
    rotate_left
    · intro wz
      go_simp
      try with_reducible rfl
    simp only [List.getElem_toArray, List.getElem_cons_succ, List.getElem_cons_zero, Act.put, List.setIfInBounds_toArray, List.set_cons_zero, List.set_cons_succ]
    refine HT.take (i := 9) (oi := _) (v := ?_) rfl (by kernel_rfl) (by kernel_rfl) (by decide) (fun _ _ _ h => h) (Or.inl ⟨by rfl, ?_⟩) hS ?_
    rotate_left
    · intro wz
      go_simp
      try with_reducible rfl
    simp only [List.getElem_toArray, List.getElem_cons_succ, List.getElem_cons_zero, Act.put, List.setIfInBounds_toArray, List.set_cons_zero, List.set_cons_succ]
    refine HT.take (i := 10) (oi := _) (v := ?_) rfl (by kernel_rfl) (by kernel_rfl) (by decide) (fun _ _ _ h => h) (Or.inl ⟨by rfl, ?_⟩) hS ?_
    rotate_left
    · intro wz
      go_simp
      try with_reducible rfl
    simp only [List.getElem_toArray, List.getElem_cons_succ, List.getElem_cons_zero, Act.put, List.setIfInBounds_toArray, List.set_cons_zero, List.set_cons_succ]
    refine HT.take (i := 11) (oi := _) (v := ?_) rfl (by kernel_rfl) (by kernel_rfl) (by decide) (fun _ _ _ h => h) (Or.inl ⟨by rfl, ?_⟩) hS ?_
    rotate_left
    · intro wz
      go_simp
      try with_reducible rfl
    simp only [List.getElem_toArray, List.getElem_cons_succ, List.getElem_cons_zero, Act.put, List.setIfInBounds_toArray, List.set_cons_zero, List.set_cons_succ]
    refine HT.take (i := 12) (oi := _) (v := ?_) rfl (by kernel_rfl) (by kernel_rfl) (by decide) (fun _ _ _ h => h) (Or.inl ⟨by rfl, ?_⟩) hS ?_
    rotate_left
    · intro wz
      go_simp
      try with_reducible rfl
    simp only [List.getElem_toArray, List.getElem_cons_succ, List.getElem_cons_zero, Act.put, List.setIfInBounds_toArray, List.set_cons_zero, List.set_cons_succ]
    refine HT.take (i := 13) (oi := _) (v := .slice (cutA (some ⟨bA, oA, none⟩) c (at_ + 8)) m (c - (at_ + 8))) rfl (by kernel_rfl) (by kernel_rfl) (by decide) (fun _ _ _ h => h) (Or.inl ⟨by rfl, ?_⟩) hS ?_
    · intro wz
      have h9 := HSL3.out wz
      simp [go_sem, h9]
    simp only [List.getElem_toArray, List.getElem_cons_succ, List.getElem_cons_zero, Act.put, List.setIfInBounds_toArray, List.set_cons_zero, List.set_cons_succ]
    refine HT.take (i := 16) (oi := _) (v := ?_) rfl (by kernel_rfl) (by kernel_rfl) (by decide) (fun _ _ _ h => h) (Or.inl ⟨by rfl, ?_⟩) hS ?_
    rotate_left
    · intro wz
      go_simp
      try with_reducible rfl
    simp only [List.getElem_toArray, List.getElem_cons_succ, List.getElem_cons_zero, Act.put, List.setIfInBounds_toArray, List.set_cons_zero, List.set_cons_succ]
    refine HT.one (i := 14) (o := { dst := some 70, op := .call { callee := .builtin .append, args := #[.const (.slice none 0 0), .tmp 69], argTypes := #[26, 26] }, type := 26, pos := "bytes.go:79", after := #[{ on := 13, ground := .data }], guard := none }) (by kernel_rfl) (by kernel_rfl) (by decide) (by rfl) ?_
    intro K hK
    have HDX : Hid (BysAt X B (cutA (some ⟨bA, oA, none⟩) c (at_ + 8)) m (cutB b (at_ + 8) (at_ + 8 + m))) := by
      have h1 := HSX.out.cut hnc (p := at_ + 8) (q := at_ + 8 + m) (by omega) (by omega)
      rw [show at_ + 8 + m - (at_ + 8) = m by omega] at h1
      exact h1
    have hm47 : m ≤ 140737488355328 := Nat.le_trans (Nat.le_of_lt hm32) (by decide)
    have HDY : Hid (BysAt X.drew B (cutA (some ⟨bA, oA, none⟩) c (at_ + 8)) m (cutB b (at_ + 8) (at_ + 8 + m))) := HDX.out.below (Below.refl B X).drew (Nat.le_refl _)
    refine wp_app_nil (.tmp 69) (by rfl) B (cutA (some ⟨bA, oA, none⟩) c (at_ + 8)) m (c - (at_ + 8)) (cutB b (at_ + 8) (at_ + 8 + m)) (by go_simp) HDY.out hm47 ?_
    intro v5 w5 ho5 hb5'
    have hb5 : Below X.heap.size X w5 := (Below.refl X.heap.size X).drew.trans hb5'
    clear hb5' HDY
    have HO5 := Lib.hid ho5
    have HB5 := Lib.hid hb5
    have hS' : BysAt w5 B (some ⟨bA, oA, none⟩) n b := HSX.out.below (hb5.mono (by have := HXB.out.size; show B ≤ X.heap.size; omega)) (Nat.le_refl _)
    have hy0 : w5.cell? ⟨gx, 0, none⟩ = some (.string ⟨#[]⟩) := (hb5.cell (p := ⟨gx, 0, none⟩) hlt).trans hX0
    have hy1 : w5.cell? ⟨gx, 1, none⟩ = some (.slice none 0 0) := (hb5.cell (p := ⟨gx, 1, none⟩) hlt).trans hX1
    have hyf0 : w5.frozen? ⟨gx, 0, none⟩ = false := (hb5.frozen (p := ⟨gx, 0, none⟩) hlt).trans hXf0
    have hyf1 : w5.frozen? ⟨gx, 1, none⟩ = false := (hb5.frozen (p := ⟨gx, 1, none⟩) hlt).trans hXf1
    clear ho5 hb5 hS hX0 hX1 hXf0 hXf1
    have hS := hS'
    refine hK.out _ _ hS ?_
    clear hK hS'
    obtain ⟨A5, c5, rfl, _, _⟩ := HO5.out.form
    rw [show (cutB b (at_ + 8) (at_ + 8 + m)).length = m from HDX.out.1] at HO5 ⊢
    clear HDX hw1 hw2 hw3 HSL HSL3 HCV
    simp only [List.getElem_toArray, List.getElem_cons_succ, List.getElem_cons_zero, Act.put, List.setIfInBounds_toArray, List.set_cons_zero, List.set_cons_succ]
    refine HT.take (i := 15) (oi := _) (v := ?_) rfl (by kernel_rfl) (by kernel_rfl) (by decide) (fun _ _ _ h => h) (Or.inl ⟨by rfl, ?_⟩) hS ?_
    rotate_left
    · intro wz
      go_simp
      try with_reducible rfl
    simp only [List.getElem_toArray, List.getElem_cons_succ, List.getElem_cons_zero, Act.put, List.setIfInBounds_toArray, List.set_cons_zero, List.set_cons_succ]
    refine HT.done (by kernel_rfl) ?_
    clear hS
    simp only [List.drop_succ_cons, List.drop_zero]
    go_simp
    go_wp2_with fail
    refine end_ck3 rfl rfl rfl hy0 hy1 ⟨.slice A5 m c5, ?_, ?_, set2_below (HXB.out.trans (HB5.out.mono HXB.out.size)) (by rw [HGX.out]; exact Nat.le_refl _)⟩
    · rw [HS.out, show ((at_ + 8 + m + m % 2 : Nat) : Int) = (at_ : Int) + 8 + (m : Int) + (m : Int) % 2 by omega]; rfl
    · exact own_base (ownsRow_setCell_below (ownsRow_setCell_below HO5.out (a := ⟨gx, 0, none⟩) hlt _) (a := ⟨gx, 1, none⟩) hlt _) HXB.out.size
  · have d3 : decide ((0 : Int) < (m : Int) % 2) = false := by simp; omega
    clear hx2
    go_upto_region 7 with (fail)
    have HSX : Hid (BysAt X B A n b) := hh.out.below (HXB.out.mono hB) (Nat.le_refl _)
    have hw1 : IntKind.i64.wrap ((at_ : Int) + 4) = (at_ : Int) + 4 := IntWalk.i64_in _ (by omega)
    have hw2 : IntKind.i64.wrap ((at_ : Int) + 8) = (at_ : Int) + 8 := IntWalk.i64_in _ (by omega)
    have hw3 : IntKind.i64.wrap ((at_ : Int) + 8 + (m : Int)) = (at_ : Int) + 8 + (m : Int) := IntWalk.i64_in _ (by omega)
    have hsl : ∀ W, (Instr.slice 26 (.slice A n c) (some (.int .i64 (at_ : Int))) (some (.int .i64 ((at_ : Int) + 4))) none).run Tryd.prog W = .ok (.slice (cutA A c at_) 4 (c - at_)) W :=
      fun W => run_cut_at (p := 0) (q := 4) (by omega) (by omega) (by omega) W
    have hsl3 : ∀ W, (Instr.slice 26 (.slice A n c) (some (.int .i64 ((at_ : Int) + 8))) (some (.int .i64 ((at_ : Int) + 8 + (m : Int)))) none).run Tryd.prog W = .ok (.slice (cutA A c (at_ + 8)) m (c - (at_ + 8))) W :=
      fun W => run_cut_at (p := 8) (q := m) (by omega) (by omega) (by omega) W
    have HSL := Lib.hid hsl
    have HSL3 := Lib.hid hsl3
    have HCV : Hid (∀ W, BysAt W B A n b → (convert 26 9 (.slice (cutA A c at_) 4 (c - at_))).run Tryd.prog W = .ok (.string s) W) := fun W hW => by
      have h1 := hW.cut hnc (p := at_) (q := at_ + 4) (by omega) (by omega)
      rw [show at_ + 4 - at_ = 4 by omega] at h1
      have := run_str_of (c := c - at_) h1
      unfold strOf at this
      rw [HS.out] at this
      exact this
    clear hsl hsl3
    have hS := HSX.out
    refine wp_region_text 17 (fun x => BysAt x B A n b) (by kernel_rfl) (by kernel_rfl) ?_
    refine HT.take (i := 0) (oi := _) (v := ?_) rfl (by kernel_rfl) (by kernel_rfl) (by decide) (fun _ _ _ h => h) (Or.inl ⟨by rfl, ?_⟩) hS ?_
    rotate_left
    · intro wz
      go_simp
      try with_reducible rfl
    simp only [List.getElem_toArray, List.getElem_cons_succ, List.getElem_cons_zero, Act.put, List.setIfInBounds_toArray, List.set_cons_zero, List.set_cons_succ]
    refine HT.take (i := 1) (oi := _) (v := ?_) rfl (by kernel_rfl) (by kernel_rfl) (by decide) (fun _ _ _ h => h) (Or.inl ⟨by rfl, ?_⟩) hS ?_
    rotate_left
    · intro wz
      go_simp
      try with_reducible rfl
    simp only [List.getElem_toArray, List.getElem_cons_succ, List.getElem_cons_zero, Act.put, List.setIfInBounds_toArray, List.set_cons_zero, List.set_cons_succ]
    refine HT.take (i := 2) (oi := _) (v := ?_) rfl (by kernel_rfl) (by kernel_rfl) (by decide) (fun _ _ _ h => h) (Or.inl ⟨by rfl, ?_⟩) hS ?_
    rotate_left
    · intro wz
      go_simp
      try with_reducible rfl
    simp only [List.getElem_toArray, List.getElem_cons_succ, List.getElem_cons_zero, Act.put, List.setIfInBounds_toArray, List.set_cons_zero, List.set_cons_succ]
    refine HT.take (i := 3) (oi := _) (v := ?_) rfl (by kernel_rfl) (by kernel_rfl) (by decide) (fun _ _ _ h => h) (Or.inl ⟨by rfl, ?_⟩) hS ?_
    rotate_left
    · intro wz
      go_simp
      try with_reducible rfl
    simp only [List.getElem_toArray, List.getElem_cons_succ, List.getElem_cons_zero, Act.put, List.setIfInBounds_toArray, List.set_cons_zero, List.set_cons_succ]
    refine HT.take (i := 4) (oi := _) (v := .slice (cutA A c at_) 4 (c - at_)) rfl (by kernel_rfl) (by kernel_rfl) (by decide) (fun _ _ _ h => h) (Or.inl ⟨by rfl, ?_⟩) hS ?_
    · intro wz
      have h9 := HSL.out wz
      simp [go_sem, h9]
    simp only [List.getElem_toArray, List.getElem_cons_succ, List.getElem_cons_zero, Act.put, List.setIfInBounds_toArray, List.set_cons_zero, List.set_cons_succ]
    refine HT.load (i := 5) (oi := _) (v := .string s) rfl (by kernel_rfl) (by kernel_rfl) (by decide) (fun _ _ _ h => h) (by kernel_rfl) (Or.inl ⟨by rfl, ?_⟩) hS ?_
    · intro wz hwz
      have h9 := HCV.out wz hwz
      simp [go_sem, h9]
    simp only [List.getElem_toArray, List.getElem_cons_succ, List.getElem_cons_zero, Act.put, List.setIfInBounds_toArray, List.set_cons_zero, List.set_cons_succ]
    refine HT.take (i := 6) (oi := _) (v := ?_) rfl (by kernel_rfl) (by kernel_rfl) (by decide) (fun _ _ _ h => h) (Or.inl ⟨by rfl, ?_⟩) hS ?_
    rotate_left
    · intro wz
      go_simp
      try with_reducible rfl
    simp only [List.getElem_toArray, List.getElem_cons_succ, List.getElem_cons_zero, Act.put, List.setIfInBounds_toArray, List.set_cons_zero, List.set_cons_succ]
    refine HT.take (i := 7) (oi := _) (v := ?_) rfl (by kernel_rfl) (by kernel_rfl) (by decide) (fun _ _ _ h => h) (Or.inl ⟨by rfl, ?_⟩) hS ?_
    rotate_left
    · intro wz
      go_simp
      try with_reducible rfl
    simp only [List.getElem_toArray, List.getElem_cons_succ, List.getElem_cons_zero, Act.put, List.setIfInBounds_toArray, List.set_cons_zero, List.set_cons_succ]
    refine HT.take (i := 8) (oi := _) (v := ?_) rfl (by kernel_rfl) (by kernel_rfl) (by decide) (fun _ _ _ h => h) (Or.inl ⟨by rfl, ?_⟩) hS ?_
    rotate_left
    · intro wz
      go_simp
      try with_reducible rfl
    simp only [List.getElem_toArray, List.getElem_cons_succ, List.getElem_cons_zero, Act.put, List.setIfInBounds_toArray, List.set_cons_zero, List.set_cons_succ]
    refine HT.take (i := 9) (oi := _) (v := ?_) rfl (by kernel_rfl) (by kernel_rfl) (by decide) (fun _ _ _ h => h) (Or.inl ⟨by rfl, ?_⟩) hS ?_
    rotate_left
    · intro wz
      go_simp
      try with_reducible rfl
    simp only [List.getElem_toArray, List.getElem_cons_succ, List.getElem_cons_zero, Act.put, List.setIfInBounds_toArray, List.set_cons_zero, List.set_cons_succ]
    refine HT.take (i := 10) (oi := _) (v := ?_) rfl (by kernel_rfl) (by kernel_rfl) (by decide) (fun _ _ _ h => h) (Or.inl ⟨by rfl, ?_⟩) hS ?_
    rotate_left
    · intro wz
      go_simp
      try with_reducible rfl
    simp only [List.getElem_toArray, List.getElem_cons_succ, List.getElem_cons_zero, Act.put, List.setIfInBounds_toArray, List.set_cons_zero, List.set_cons_succ]
    refine HT.take (i := 11) (oi := _) (v := ?_) rfl (by kernel_rfl) (by kernel_rfl) (by decide) (fun _ _ _ h => h) (Or.inl ⟨by rfl, ?_⟩) hS ?_
    rotate_left
    · intro wz
      go_simp
      try with_reducible rfl
    simp only [List.getElem_toArray, List.getElem_cons_succ, List.getElem_cons_zero, Act.put, List.setIfInBounds_toArray, List.set_cons_zero, List.set_cons_succ]
    refine HT.take (i := 12) (oi := _) (v := ?_) rfl (by kernel_rfl) (by kernel_rfl) (by decide) (fun _ _ _ h => h) (Or.inl ⟨by rfl, ?_⟩) hS ?_
    rotate_left
    · intro wz
      go_simp
      try with_reducible rfl
    simp only [List.getElem_toArray, List.getElem_cons_succ, List.getElem_cons_zero, Act.put, List.setIfInBounds_toArray, List.set_cons_zero, List.set_cons_succ]
    refine HT.take (i := 13) (oi := _) (v := .slice (cutA A c (at_ + 8)) m (c - (at_ + 8))) rfl (by kernel_rfl) (by kernel_rfl) (by decide) (fun _ _ _ h => h) (Or.inl ⟨by rfl, ?_⟩) hS ?_
    · intro wz
      have h9 := HSL3.out wz
      simp [go_sem, h9]
    simp only [List.getElem_toArray, List.getElem_cons_succ, List.getElem_cons_zero, Act.put, List.setIfInBounds_toArray, List.set_cons_zero, List.set_cons_succ]
    refine HT.take (i := 16) (oi := _) (v := ?_) rfl (by kernel_rfl) (by kernel_rfl) (by decide) (fun _ _ _ h => h) (Or.inl ⟨by rfl, ?_⟩) hS ?_
    rotate_left
    · intro wz
      go_simp
      try with_reducible rfl
    simp only [List.getElem_toArray, List.getElem_cons_succ, List.getElem_cons_zero, Act.put, List.setIfInBounds_toArray, List.set_cons_zero, List.set_cons_succ]
    refine HT.one (i := 14) (o := { dst := some 70, op := .call { callee := .builtin .append, args := #[.const (.slice none 0 0), .tmp 69], argTypes := #[26, 26] }, type := 26, pos := "bytes.go:79", after := #[{ on := 13, ground := .data }], guard := none }) (by kernel_rfl) (by kernel_rfl) (by decide) (by rfl) ?_
    intro K hK
    have HDX : Hid (BysAt X B (cutA A c (at_ + 8)) m (cutB b (at_ + 8) (at_ + 8 + m))) := by
      have h1 := HSX.out.cut hnc (p := at_ + 8) (q := at_ + 8 + m) (by omega) (by omega)
      rw [show at_ + 8 + m - (at_ + 8) = m by omega] at h1
      exact h1
    have hm47 : m ≤ 140737488355328 := Nat.le_trans (Nat.le_of_lt hm32) (by decide)
    have HDY : Hid (BysAt X.drew B (cutA A c (at_ + 8)) m (cutB b (at_ + 8) (at_ + 8 + m))) := HDX.out.below (Below.refl B X).drew (Nat.le_refl _)
    refine wp_app_nil (.tmp 69) (by rfl) B (cutA A c (at_ + 8)) m (c - (at_ + 8)) (cutB b (at_ + 8) (at_ + 8 + m)) (by go_simp) HDY.out hm47 ?_
    intro v5 w5 ho5 hb5'
    have hb5 : Below X.heap.size X w5 := (Below.refl X.heap.size X).drew.trans hb5'
    clear hb5' HDY
    have HO5 := Lib.hid ho5
    have HB5 := Lib.hid hb5
    have hS' : BysAt w5 B A n b := HSX.out.below (hb5.mono (by have := HXB.out.size; show B ≤ X.heap.size; omega)) (Nat.le_refl _)
    have hy0 : w5.cell? ⟨gx, 0, none⟩ = some (.string ⟨#[]⟩) := (hb5.cell (p := ⟨gx, 0, none⟩) hlt).trans hX0
    have hy1 : w5.cell? ⟨gx, 1, none⟩ = some (.slice none 0 0) := (hb5.cell (p := ⟨gx, 1, none⟩) hlt).trans hX1
    have hyf0 : w5.frozen? ⟨gx, 0, none⟩ = false := (hb5.frozen (p := ⟨gx, 0, none⟩) hlt).trans hXf0
    have hyf1 : w5.frozen? ⟨gx, 1, none⟩ = false := (hb5.frozen (p := ⟨gx, 1, none⟩) hlt).trans hXf1
    clear ho5 hb5 hS hX0 hX1 hXf0 hXf1
    have hS := hS'
    refine hK.out _ _ hS ?_
    clear hK hS'
    obtain ⟨A5, c5, rfl, _, _⟩ := HO5.out.form
    rw [show (cutB b (at_ + 8) (at_ + 8 + m)).length = m from HDX.out.1] at HO5 ⊢
    clear HDX hw1 hw2 hw3 HSL HSL3 HCV
    simp only [List.getElem_toArray, List.getElem_cons_succ, List.getElem_cons_zero, Act.put, List.setIfInBounds_toArray, List.set_cons_zero, List.set_cons_succ]
    refine HT.take (i := 15) (oi := _) (v := ?_) rfl (by kernel_rfl) (by kernel_rfl) (by decide) (fun _ _ _ h => h) (Or.inl ⟨by rfl, ?_⟩) hS ?_
    rotate_left
    · intro wz
      go_simp
      try with_reducible rfl
    simp only [List.getElem_toArray, List.getElem_cons_succ, List.getElem_cons_zero, Act.put, List.setIfInBounds_toArray, List.set_cons_zero, List.set_cons_succ]
    refine HT.done (by kernel_rfl) ?_
    clear hS
    simp only [List.drop_succ_cons, List.drop_zero]
    go_simp
    go_wp2_with fail
    refine end_ck3 rfl rfl rfl hy0 hy1 ⟨.slice A5 m c5, ?_, ?_, set2_below (HXB.out.trans (HB5.out.mono HXB.out.size)) (by rw [HGX.out]; exact Nat.le_refl _)⟩
    · rw [HS.out, show ((at_ + 8 + m + m % 2 : Nat) : Int) = (at_ : Int) + 8 + (m : Int) + (m : Int) % 2 by omega]; rfl
    · exact own_base (ownsRow_setCell_below (ownsRow_setCell_below HO5.out (a := ⟨gx, 0, none⟩) hlt _) (a := ⟨gx, 1, none⟩) hlt _) HXB.out.size
/-- what chunkAt returns -/
def OutC (w : World) (b : By) (at_ : Nat) (e : Ending) (w' : World) : Prop :=
  Below w.heap.size w w' ∧ ((chunkS b at_ = none ∧ e = .returned (.tuple #[.agg #[.string ⟨#[]⟩, .slice none 0 0], .int .i64 0, .bool false])) ∨
    ∃ nm dt nx v, chunkS b at_ = some ((nm, dt), nx) ∧ e = .returned (.tuple #[.agg #[strOf nm, v], .int .i64 (nx : Nat), .bool true]) ∧ OwnBys w' w.heap.size v dt ∧ at_ + 8 ≤ nx ∧ nx ≤ b.length)
theorem CHUNKAT_any (A : Option Addr) (n c at_ : Nat) (b : By) (hn : n ≤ 8000000) (hat : at_ ≤ n) (hc9 : n ≤ c ∧ c ≤ maxLen) (w : World) (B : Nat) (hB : B ≤ w.heap.size) (hh : Hid (BysAt w B A n b)) :
    Calls Tryd.prog 40 #[.slice A n c, .int .i64 at_] w (OutC w b at_) := by
  have hl := hh.out.1
  have bad : ∀ {e w'}, (b.length - at_ < 8 ∨ nameB (cutB b at_ (at_ + 4)) = false ∨ b.length < nextN at_ (lenN b at_) ∨ (lenN b at_ % 2 = 1 ∧ byOf b (nextN at_ (lenN b at_) - 1) ≠ 0)) → (e = Ending.returned (.tuple #[.agg #[.string ⟨#[]⟩, .slice none 0 0], .int .i64 0, .bool false]) ∧ Below w.heap.size w w') → OutC w b at_ e w' :=
    fun hbad ⟨h1, h2⟩ => ⟨h2, .inl ⟨chunkS_none hbad, h1⟩⟩
  by_cases h8 : n - at_ < 8
  · exact (CHUNKAT_short A n c at_ hn hat h8 w).mono fun e w' h => bad (.inl (by omega)) h
  · cases hnb : nameB (cutB b at_ (at_ + 4)) with
    | false => exact (CHUNKAT_name A n c at_ b hn (by omega) hc9 hnb w B hB hh).mono fun e w' h => bad (.inr (.inl hnb)) h
    | true =>
      by_cases hlg : n < at_ + 8 + lenN b at_ + lenN b at_ % 2
      · exact (CHUNKAT_long A n c at_ b hn (by omega) hc9 hnb hlg w B hB hh).mono fun e w' h => bad (.inr (.inr (.inl (by unfold nextN; omega)))) h
      · by_cases hpad : lenN b at_ % 2 = 1 ∧ byOf b (at_ + 8 + lenN b at_ + lenN b at_ % 2 - 1) ≠ 0
        · exact (CHUNKAT_pad A n c at_ b hn (by omega) hc9 hnb ⟨by omega, hpad.1, hpad.2⟩ w B hB hh).mono fun e w' h => bad (.inr (.inr (.inr hpad))) h
        · refine (CHUNKAT_ok A n c at_ b hn (by omega) hc9 hnb ⟨by omega, fun h1 => ?_⟩ w B hB hh).mono fun e w' ⟨v, h1, h2, h3⟩ => ⟨h3, .inr ⟨_, _, _, v, ?_, h1, h2, ?_, ?_⟩⟩
          · cases Classical.em (byOf b (at_ + 8 + lenN b at_ + lenN b at_ % 2 - 1) = 0) with
            | inl h => exact h
            | inr h => exact absurd ⟨h1, h⟩ hpad
          · unfold chunkS
            rw [if_neg (by rw [hnb]; rintro (h | h); omega; cases h), if_neg (by unfold nextN; rintro (h | h); omega; exact hpad h)]
          · unfold nextN; omega
          · unfold nextN; omega
end Go.Proofs.YtlnjildkdmeflaaDoor
