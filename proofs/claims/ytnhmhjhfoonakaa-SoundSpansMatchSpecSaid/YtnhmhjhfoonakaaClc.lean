/- Clips, of the sound: what its function values say. -/
import Derived.Test.YtnhmhjhfoonakaaSim
import Derived.Test.YtnhmhjhfoonakaaShelf
import Derived.Sort.OwnSorted
set_option linter.unusedSimpArgs false
set_option linter.unusedVariables false
namespace Go.Proofs.Ytnhmhjhfoonakaa
open Go.RowKit Go.Dw
set_option maxRecDepth 100000 in
set_option maxHeartbeats 1000000 in
theorem CLIPS1_any (l : List Int) (e : Int) (i : Nat) (ad : Addr) (m c : Nat) (hm : m ≤ 100000) (hi : i < m) (gl ge : Nat) (w : World) (hs : Hid (w.heap[gl]? = some (.cells #[.slice (some ad) m c] 54 (0, 0)))) (hv : Hid (w.heap[ge]? = some (.cells #[.int .i64 e] 3 (0, 0)))) (hc : Hid (w.cell? (ad.add i) = some (.int .i64 (elOf l i)))) :
    Calls Try.prog 39 #[.int .i64 (i : Int), .pointer (some ⟨gl, 0, none⟩), .pointer (some ⟨ge, 0, none⟩)] w fun e9 w' => e9 = .returned (.bool (endB l e i)) ∧ Below w.heap.size w w' := by
  have x0 := own_cell1 hs.out 0
  have v0 := own_cell1 hv.out 0
  simp at x0 v0
  have c0 := hc.out
  have hi0 : (0 : Int) ≤ (i : Int) := by omega
  have him : (i : Int) < (m : Int) := by omega
  unfold endB
  obtain ⟨y, hy⟩ : ∃ y, elOf l i = y := ⟨_, rfl⟩
  rw [hy] at c0 ⊢
  clear hy hc
  go_enter Try.func39, Try.ntmps39
  go_wp2_with fail
  go_quiet (fail)
  go_wp2_with fail
  go_ret
  exact ⟨ret_bool (by rw [Bool.eq_iff_iff]; simp), belowN (Below.refl _ _) nq⟩
/-- the first that is not zero -/
def orZ (a b : Int) : Int := if a ≠ 0 then a else b
set_option maxHeartbeats 1000000 in
theorem CMPOR_any (a b : Int) (g c : Nat) (w : World) (h0 : w.cell? ⟨g, 0, none⟩ = some (.int .i64 a)) (h1 : w.cell? ⟨g, 1, none⟩ = some (.int .i64 b)) :
    Calls Try.prog 42 #[.slice (some ⟨g, 0, none⟩) 2 c] w fun e w' => e = .returned (.int .i64 (orZ a b)) ∧ w = w' := by
  go_enter Try.func42, Try.ntmps42
  go_wp2_with fail
  go_loop [8] (fun i => ∃ k : Nat, k ≤ 2 ∧ i = .int .i64 k ∧ (0 < k → a = 0) ∧ (1 < k → b = 0)) (fun i => 2 - (intOf i).toNat)
  case atStart => exact ⟨0, by omega, rfl, by omega, by omega⟩
  case round =>
    obtain ⟨k, hk, rfl, ha, hb⟩ := hrel
    rcases (show k = 0 ∨ k = 1 ∨ k = 2 by omega) with rfl | rfl | rfl
    · by_cases hz : a = 0
      · have hq : (a != 0) = false := by simpa using hz
        go_wp2_with fail
        go_round
        case rel => exact ⟨1, by omega, rfl, fun _ => hz, by omega⟩
        case measure => simp [intOf]
      · have hq : (a != 0) = true := by simpa using hz
        go_wp2_with fail
        go_ret
        exact ⟨ret_int (by simp [orZ, hz]), rfl⟩
    · have ha0 := Lib.hid (ha (by omega))
      by_cases hz : b = 0
      · have hq : (b != 0) = false := by simpa using hz
        go_wp2_with fail
        go_round
        case rel => exact ⟨2, by omega, rfl, fun _ => ha0.out, fun _ => hz⟩
        case measure => simp [intOf]
      · have hq : (b != 0) = true := by simpa using hz
        clear ha hb
        go_wp2_with fail
        go_ret
        exact ⟨ret_int (by simp [orZ, ha0.out]), rfl⟩
    · have ha0 := Lib.hid (ha (by omega))
      have hb0 := Lib.hid (hb (by omega))
      clear ha hb
      go_wp2_with fail
      go_ret
      exact ⟨ret_int (by simp [orZ, ha0.out, hb0.out]), rfl⟩
/-- spans by their begin, then by their end -/
def cmpPr (x y : Pr) : Int := orZ (Lib.compareInt x.1 y.1) (Lib.compareInt x.2 y.2)
set_option maxRecDepth 100000 in
set_option maxHeartbeats 2000000 in
theorem CLIPS2_any (x y : Pr) (w : World) : Calls Try.prog 41 #[.agg #[.int .i64 x.1, .int .i64 x.2], .agg #[.int .i64 y.1, .int .i64 y.2]] w fun e w' => e = .returned (.int .i64 (cmpPr x y)) ∧ ∃ q os', w' = Sort.grow (w.drewN q) os' := by
  obtain ⟨x1, x2⟩ := x
  obtain ⟨y1, y2⟩ := y
  have HC1 := Lib.hid (fun W => Try.cmp_Compare_int x1 y1 W)
  have HC2 := Lib.hid (fun W => Try.cmp_Compare_int x2 y2 W)
  unfold cmpPr
  dsimp only
  obtain ⟨p, hp⟩ : ∃ p, Lib.compareInt x1 y1 = p := ⟨_, rfl⟩
  obtain ⟨q, hq⟩ : ∃ q, Lib.compareInt x2 y2 = q := ⟨_, rfl⟩
  rw [hp] at HC1 ⊢
  rw [hq] at HC2 ⊢
  clear hp hq
  obtain ⟨W, gx, hW, hgx, HHW, HB, HSW⟩ := box_two w (.cells #[.int .i64 x1, .int .i64 x2] 48) (.cells #[.int .i64 y1, .int .i64 y2] 48)
  obtain ⟨a0, a1⟩ := cells_two HHW.out.1
  obtain ⟨b0, b1⟩ := cells_two HHW.out.2
  go_enter Try.func41, Try.ntmps41
  go_upto_region 1 with (fail)
  rw [← hW, ← hgx]
  have HW := Lib.hid hW
  clear hW hgx
  refine wp_region_text 12 (fun x9 => x9.cell? ⟨gx, 0, none⟩ = some (.int .i64 x1) ∧ x9.cell? ⟨gx, 1, none⟩ = some (.int .i64 x2) ∧ x9.cell? ⟨gx + 1, 0, none⟩ = some (.int .i64 y1) ∧ x9.cell? ⟨gx + 1, 1, none⟩ = some (.int .i64 y2)) (by kernel_rfl) (by kernel_rfl) ?_
  have hS : W.drew.cell? ⟨gx, 0, none⟩ = some (.int .i64 x1) ∧ W.drew.cell? ⟨gx, 1, none⟩ = some (.int .i64 x2) ∧ W.drew.cell? ⟨gx + 1, 0, none⟩ = some (.int .i64 y1) ∧ W.drew.cell? ⟨gx + 1, 1, none⟩ = some (.int .i64 y2) := ⟨a0, a1, b0, b1⟩
  refine HT.take (i := 0) (oi := _) (v := ?_) rfl (by kernel_rfl) (by kernel_rfl) (by decide) (fun _ _ _ h => h) (Or.inl ⟨by rfl, ?_⟩) hS ?_
  rotate_left
  · intro wz
    go_simp
    try with_reducible rfl
  simp only [List.getElem_toArray, List.getElem_cons_succ, List.getElem_cons_zero, Act.put, List.setIfInBounds_toArray, List.set_cons_zero, List.set_cons_succ]
  refine HT.load (i := 1) (oi := _) (v := ?_) rfl (by kernel_rfl) (by kernel_rfl) (by decide) (fun _ _ _ h => h) (by kernel_rfl) (Or.inl ⟨by rfl, ?_⟩) hS ?_
  rotate_left
  · intro wz hwz
    try dsimp only at hwz
    go_simp
    try with_reducible rfl
  simp only [List.getElem_toArray, List.getElem_cons_succ, List.getElem_cons_zero, Act.put, List.setIfInBounds_toArray, List.set_cons_zero, List.set_cons_succ]
  refine HT.take (i := 2) (oi := _) (v := ?_) rfl (by kernel_rfl) (by kernel_rfl) (by decide) (fun _ _ _ h => h) (Or.inl ⟨by rfl, ?_⟩) hS ?_
  rotate_left
  · intro wz
    go_simp
    try with_reducible rfl
  simp only [List.getElem_toArray, List.getElem_cons_succ, List.getElem_cons_zero, Act.put, List.setIfInBounds_toArray, List.set_cons_zero, List.set_cons_succ]
  refine HT.load (i := 3) (oi := _) (v := ?_) rfl (by kernel_rfl) (by kernel_rfl) (by decide) (fun _ _ _ h => h) (by kernel_rfl) (Or.inl ⟨by rfl, ?_⟩) hS ?_
  rotate_left
  · intro wz hwz
    try dsimp only at hwz
    go_simp
    try with_reducible rfl
  simp only [List.getElem_toArray, List.getElem_cons_succ, List.getElem_cons_zero, Act.put, List.setIfInBounds_toArray, List.set_cons_zero, List.set_cons_succ]
  refine HT.take (i := 5) (oi := _) (v := ?_) rfl (by kernel_rfl) (by kernel_rfl) (by decide) (fun _ _ _ h => h) (Or.inl ⟨by rfl, ?_⟩) hS ?_
  rotate_left
  · intro wz
    go_simp
    try with_reducible rfl
  simp only [List.getElem_toArray, List.getElem_cons_succ, List.getElem_cons_zero, Act.put, List.setIfInBounds_toArray, List.set_cons_zero, List.set_cons_succ]
  refine HT.load (i := 6) (oi := _) (v := ?_) rfl (by kernel_rfl) (by kernel_rfl) (by decide) (fun _ _ _ h => h) (by kernel_rfl) (Or.inl ⟨by rfl, ?_⟩) hS ?_
  rotate_left
  · intro wz hwz
    try dsimp only at hwz
    go_simp
    try with_reducible rfl
  simp only [List.getElem_toArray, List.getElem_cons_succ, List.getElem_cons_zero, Act.put, List.setIfInBounds_toArray, List.set_cons_zero, List.set_cons_succ]
  refine HT.take (i := 7) (oi := _) (v := ?_) rfl (by kernel_rfl) (by kernel_rfl) (by decide) (fun _ _ _ h => h) (Or.inl ⟨by rfl, ?_⟩) hS ?_
  rotate_left
  · intro wz
    go_simp
    try with_reducible rfl
  simp only [List.getElem_toArray, List.getElem_cons_succ, List.getElem_cons_zero, Act.put, List.setIfInBounds_toArray, List.set_cons_zero, List.set_cons_succ]
  refine HT.load (i := 8) (oi := _) (v := ?_) rfl (by kernel_rfl) (by kernel_rfl) (by decide) (fun _ _ _ h => h) (by kernel_rfl) (Or.inl ⟨by rfl, ?_⟩) hS ?_
  rotate_left
  · intro wz hwz
    try dsimp only at hwz
    go_simp
    try with_reducible rfl
  simp only [List.getElem_toArray, List.getElem_cons_succ, List.getElem_cons_zero, Act.put, List.setIfInBounds_toArray, List.set_cons_zero, List.set_cons_succ]
  refine HT.one (i := 4) (o := _) rfl (by kernel_rfl) (by decide) (by rfl) ?_
  intro K hK
  go_simp
  refine (HC1.out _).mono ?_
  rintro e w1 ⟨rfl, rfl⟩
  refine hK.out _ _ hS ?_
  clear hK K
  try simp only [List.getElem_toArray, List.getElem_cons_succ, List.getElem_cons_zero, Act.put, List.setIfInBounds_toArray, List.set_cons_zero, List.set_cons_succ]
  refine HT.one (i := 9) (o := _) rfl (by kernel_rfl) (by decide) (by rfl) ?_
  intro K hK
  go_simp
  refine (HC2.out _).mono ?_
  rintro e w1 ⟨rfl, rfl⟩
  refine hK.out _ _ hS ?_
  clear hK K
  try simp only [List.getElem_toArray, List.getElem_cons_succ, List.getElem_cons_zero, Act.put, List.setIfInBounds_toArray, List.set_cons_zero, List.set_cons_succ]
  refine HT.one (i := 10) (o := _) rfl (by kernel_rfl) (by decide) (by rfl) ?_
  intro K hK
  go_simp
  obtain ⟨Z, hZ⟩ : ∃ Z, Z = (W.alloc (.cells #[.int .i64 p, .int .i64 q] 3)).drew := ⟨_, rfl⟩
  have hz9 : ∃ q' os', Z = Sort.grow (w.drewN q') os' := by
    refine ⟨1, #[.cells #[.int .i64 x1, .int .i64 x2] 48, .cells #[.int .i64 y1, .int .i64 y2] 48, .cells #[.int .i64 p, .int .i64 q] 3], ?_⟩
    rw [hZ, HW.out, Sort.alloc_eq_grow, Sort.alloc_eq_grow, Sort.alloc_eq_grow, Sort.grow_grow, Sort.grow_grow]
    rfl
  have HZ := Lib.hid hz9
  clear hz9
  have HZ0 : Hid (Z.heap[W.heap.size]? = some (.cells #[.int .i64 p, .int .i64 q] 3 (0, 0))) := by show _ = _; rw [hZ]; exact heap_alloc_new W _
  have hS2 : Z.cell? ⟨gx, 0, none⟩ = some (.int .i64 x1) ∧ Z.cell? ⟨gx, 1, none⟩ = some (.int .i64 x2) ∧ Z.cell? ⟨gx + 1, 0, none⟩ = some (.int .i64 y1) ∧ Z.cell? ⟨gx + 1, 1, none⟩ = some (.int .i64 y2) := by
    have hb : Below W.heap.size W Z := by rw [hZ]; exact ((Below.refl _ W).alloc (Nat.le_refl _) _).drew
    have h1 := blk_lt HHW.out.1
    have h2 := blk_lt HHW.out.2
    exact ⟨(hb.cell (p := ⟨gx, 0, none⟩) h1).trans a0, (hb.cell (p := ⟨gx, 1, none⟩) h1).trans a1, (hb.cell (p := ⟨gx + 1, 0, none⟩) h2).trans b0, (hb.cell (p := ⟨gx + 1, 1, none⟩) h2).trans b1⟩
  rw [← hZ]
  refine hK.out _ _ hS2 ?_
  obtain ⟨z0, z1⟩ := cells_two HZ0.out
  clear hK K hS hZ HB HSW a0 a1 b0 b1 HHW
  have hS := hS2
  clear hS2
  try simp only [List.getElem_toArray, List.getElem_cons_succ, List.getElem_cons_zero, Act.put, List.setIfInBounds_toArray, List.set_cons_zero, List.set_cons_succ]
  refine HT.one (i := 11) (o := _) rfl (by kernel_rfl) (by decide) (by rfl) ?_
  intro K hK
  go_simp
  refine (CMPOR_any p q W.heap.size 2 _ z0 z1).mono ?_
  rintro e w1 ⟨rfl, rfl⟩
  refine hK.out _ _ hS ?_
  clear hK K
  try simp only [List.getElem_toArray, List.getElem_cons_succ, List.getElem_cons_zero, Act.put, List.setIfInBounds_toArray, List.set_cons_zero, List.set_cons_succ]
  refine HT.done (by kernel_rfl) ?_
  clear hS
  simp only [List.drop_succ_cons, List.drop_zero]
  go_wp2_with fail
  go_ret
  exact ⟨rfl, HZ.out⟩
end Go.Proofs.Ytnhmhjhfoonakaa
